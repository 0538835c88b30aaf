/- MonN, struck of what this claim does not name (wip/tools/pack2.py). -/
import Derived.Test.YthmjmkbahneneaaZa26
import Derived.ChangeKeysEq
section
namespace Go.Proofs.Ythmjmkbahneneaa.PMon
open Go.RowKit Go.Proofs.YthmjmkbahneneaaW.PrintWords Go.Proofs.YthmjmkbahneneaaW.PrintLast Go.Proofs.YthmjmkbahneneaaW.PrintMore
set_option linter.unusedVariables false
set_option linter.unusedSimpArgs false
set_option maxHeartbeats 8000000
set_option maxRecDepth 100000

theorem one_new (w : World) (o1 : Array Value) (t1 : TypeId) :
    (w.alloc (.cells o1 t1)).heap[w.heap.size]? = some (.cells o1 t1 (0, 0)) ∧ Below w.heap.size w (w.alloc (.cells o1 t1)) :=
  ⟨World.alloc_heap_new w _, (Below.refl _ w).alloc (Nat.le_refl _) _⟩
theorem two_new (w : World) (o1 o2 : Array Value) (t1 t2 : TypeId) :
    ((w.alloc (.cells o1 t1)).alloc (.cells o2 t2)).heap[w.heap.size]? = some (.cells o1 t1 (0, 0)) ∧ ((w.alloc (.cells o1 t1)).alloc (.cells o2 t2)).heap[w.heap.size + 1]? = some (.cells o2 t2 (0, 0)) ∧ Below w.heap.size w ((w.alloc (.cells o1 t1)).alloc (.cells o2 t2)) := by
  have s1 : (w.alloc (.cells o1 t1)).heap.size = w.heap.size + 1 := World.size_alloc _ _
  refine ⟨?_, ?_, ((Below.refl _ w).alloc (Nat.le_refl _) _).alloc (by rw [s1]; omega) _⟩
  · exact (Below.heap_alloc _ _ _ (by rw [s1]; omega)).trans (World.alloc_heap_new w _)
  · have := World.alloc_heap_new (w.alloc (.cells o1 t1)) (.cells o2 t2)
    rw [s1] at this
    exact this

theorem neg_t (h l : Int) (w : World) :
    Calls Try.prog 37 #[.agg #[.int .u64 h, .int .u64 l, .bool true]] w fun e w' => e = .returned (.agg #[.int .u64 h, .int .u64 l, .bool false]) ∧ Below w.heap.size w w' := by
  go_enter Try.func37, Try.ntmps37
  go_wp2
  exact bodyPost_ret (v := .agg #[.int .u64 h, .int .u64 l, .bool false]) (by simp [results, Try.results37, go_sem]) rfl ⟨rfl, ((Below.refl _ _).alloc (Nat.le_refl _) _).alloc (by simp) _⟩
theorem neg_n (h l : Int) (z : Bool) (hz : (Go.bits .or .u64 h l != 0) = z) (w : World) :
    Calls Try.prog 37 #[.agg #[.int .u64 h, .int .u64 l, .bool false]] w fun e w' => e = .returned (.agg #[.int .u64 h, .int .u64 l, .bool z]) ∧ Below w.heap.size w w' := by
  go_enter Try.func37, Try.ntmps37
  go_wp2
  exact bodyPost_ret (v := .agg #[.int .u64 h, .int .u64 l, .bool z]) (by simp [results, Try.results37, go_sem]) rfl ⟨rfl, ((Below.refl _ _).alloc (Nat.le_refl _) _).alloc (by simp) _⟩
theorem neg_calls (a : Int) (ha : Small a) (w : World) :
    Calls Try.prog 37 #[M a] w fun e w' => e = .returned (M (-a)) ∧ Below w.heap.size w w' := by
  have h := neg_f a ha
  unfold num_Money_Neg.f at h
  unfold M
  cases hs : mnM a with
  | true =>
    rw [hs, if_pos rfl] at h
    obtain ⟨e1, e2, e3⟩ := by simpa only [Option.some.injEq, Prod.mk.injEq] using h
    rw [← e1, ← e2, ← e3]
    exact neg_t _ _ w
  | false =>
    rw [hs, if_neg (by decide)] at h
    obtain ⟨e1, e2, e3⟩ := by simpa only [Option.some.injEq, Prod.mk.injEq] using h
    rw [← e1, ← e2]
    exact neg_n _ _ _ e3 w

structure SubW (w : World) (m n r : Array Value) (w' : World) : Prop where
  k1 : w'.heap[w.heap.size]? = some (.cells m 40 (0, 0))
  k2 : w'.heap[w.heap.size + 1]? = some (.cells n 40 (0, 0))
  k3 : w'.heap[w.heap.size + 1 + 1]? = some (.cells r 40 (0, 0))
  k4 : Below w.heap.size w w'
theorem SubW.below {w w' w2 : World} {m n r : Array Value} (h : SubW w m n r w') (hb : Below w'.heap.size w' w2) : SubW w m n r w2 :=
  ⟨(hb.block _ (blk_lt h.k1)).trans h.k1, (hb.block _ (blk_lt h.k2)).trans h.k2, (hb.block _ (blk_lt h.k3)).trans h.k3, below_then h.k4 h.k4.size hb⟩
theorem SubW.drew {w w' : World} {m n r : Array Value} (h : SubW w m n r w') : SubW w m n r w'.drew := ⟨h.k1, h.k2, h.k3, h.k4.drew⟩

theorem SubW.set {w w' : World} {m n r : Array Value} (h : SubW w m n r w') (j : Nat) (v : Value) : SubW w m n (r.setIfInBounds j v) (w'.setCell ⟨w.heap.size + 1 + 1, j, none⟩ v) :=
  ⟨(Below.heap_setCell _ _ _ _ (show w.heap.size ≠ w.heap.size + 1 + 1 by omega)).trans h.k1, (Below.heap_setCell _ _ _ _ (show w.heap.size + 1 ≠ w.heap.size + 1 + 1 by omega)).trans h.k2, blk_set h.k3 j v, below_set h.k4 (by omega)⟩
def SubX (w : World) (m n : Array Value) (w' : World) : Prop := ∃ r0 r1 r2, SubW w m n #[r0, r1, r2] w'
theorem SubX.below {w w' w2 : World} {m n : Array Value} (h : SubX w m n w') (hb : Below w'.heap.size w' w2) : SubX w m n w2 := by
  obtain ⟨r0, r1, r2, h⟩ := h
  exact ⟨r0, r1, r2, h.below hb⟩
theorem SubX.drew {w w' : World} {m n : Array Value} (h : SubX w m n w') : SubX w m n w'.drew := by
  obtain ⟨r0, r1, r2, h⟩ := h
  exact ⟨r0, r1, r2, h.drew⟩
theorem SubX.sets {w w' : World} {m n : Array Value} (h : SubX w m n w') (x y z : Value) : SubX w m n (((w'.setCell ⟨w.heap.size + 1 + 1, 0, none⟩ x).setCell ⟨w.heap.size + 1 + 1, 1, none⟩ y).setCell ⟨w.heap.size + 1 + 1, 2, none⟩ z) := by
  obtain ⟨r0, r1, r2, h⟩ := h
  exact ⟨x, y, z, ((h.set 0 x).set 1 y).set 2 z⟩

theorem cell_sets {w : World} {g k j : Nat} {x y z v : Value} (h : w.cell? ⟨k, j, none⟩ = some v) (hk : k ≠ g) : (((w.setCell ⟨g, 0, none⟩ x).setCell ⟨g, 1, none⟩ y).setCell ⟨g, 2, none⟩ z).cell? ⟨k, j, none⟩ = some v := by
  have e : ∀ (W : World) (i : Nat) (u : Value), (W.setCell ⟨g, i, none⟩ u).cell? ⟨k, j, none⟩ = W.cell? ⟨k, j, none⟩ := fun W i u => World.cell?_setCell_far _ _ _ _ (fun e => hk e.symm)
  rw [e, e, e, h]

theorem sub_calls (a b : Int) (ha : Small a) (hb : Small b) (w : World) :
    Calls Try.prog 35 #[M a, M b] w fun e w' => e = .returned (.tuple #[M (addR (a - b)), .int .i64 (addE (a - b))]) ∧ Below w.heap.size w w' := by
  have HN := Aside0.mk (fun W => neg_calls b hb W)
  have HA := Aside0.mk (fun W => add_calls a (-b) ha (small_neg hb) W)
  obtain ⟨r, hr⟩ : ∃ r, r = addR (a - b) := ⟨_, rfl⟩
  obtain ⟨k, hk⟩ : ∃ k, k = addE (a - b) := ⟨_, rfl⟩
  have e0 : a + -b = a - b := rfl
  rw [← hr, ← hk]
  rw [e0, ← hr, ← hk] at HA
  clear hr hk e0
  unfold M at *
  generalize hiM a = h1 at *
  generalize loM a = l1 at *
  generalize mnM a = s at *
  generalize hiM b = h2 at *
  generalize loM b = l2 at *
  generalize mnM b = t at *
  generalize hiM r = x at *
  generalize loM r = y at *
  generalize mnM r = z at *
  generalize hiM (-b) = hn at *
  generalize loM (-b) = ln at *
  generalize mnM (-b) = sn at *
  obtain ⟨K1, K2, K3, K4⟩ := three_new w #[.int .u64 h1, .int .u64 l1, .bool s] #[.int .u64 h2, .int .u64 l2, .bool t] #[.int .u64 0, .int .u64 0, .bool false] 40 40 40
  have HK := Aside0.mk (SubW.mk K1 K2 K3 K4)
  clear K1 K2 K3 K4
  go_enter Try.func35, Try.ntmps35
  go_upto_region 1 with (fail)
  obtain ⟨w3, hw3⟩ : ∃ w3, w3 = ((w.alloc (.cells #[.int .u64 h1, .int .u64 l1, .bool s] 40)).alloc (.cells #[.int .u64 h2, .int .u64 l2, .bool t] 40)).alloc (.cells #[.int .u64 0, .int .u64 0, .bool false] 40) := ⟨_, rfl⟩
  rw [← hw3] at HK ⊢
  clear hw3
  have a0 : w3.cell? ⟨w.heap.size, 0, none⟩ = some (.int .u64 h1) := (blk_cell HK.out.k1 0).trans rfl
  have a1 : w3.cell? ⟨w.heap.size, 1, none⟩ = some (.int .u64 l1) := (blk_cell HK.out.k1 1).trans rfl
  have a2 : w3.cell? ⟨w.heap.size, 2, none⟩ = some (.bool s) := (blk_cell HK.out.k1 2).trans rfl
  have b0 : w3.cell? ⟨w.heap.size + 1, 0, none⟩ = some (.int .u64 h2) := (blk_cell HK.out.k2 0).trans rfl
  have b1 : w3.cell? ⟨w.heap.size + 1, 1, none⟩ = some (.int .u64 l2) := (blk_cell HK.out.k2 1).trans rfl
  have b2 : w3.cell? ⟨w.heap.size + 1, 2, none⟩ = some (.bool t) := (blk_cell HK.out.k2 2).trans rfl
  have HS : SubX w #[.int .u64 h1, .int .u64 l1, .bool s] #[.int .u64 h2, .int .u64 l2, .bool t] w3 := ⟨_, _, _, HK.out⟩
  go_region_held3 (fun w' => w'.cell? ⟨w.heap.size, 0, none⟩ = some (.int .u64 h1) ∧ w'.cell? ⟨w.heap.size, 1, none⟩ = some (.int .u64 l1) ∧ w'.cell? ⟨w.heap.size, 2, none⟩ = some (.bool s) ∧ w'.cell? ⟨w.heap.size + 1, 0, none⟩ = some (.int .u64 h2) ∧ w'.cell? ⟨w.heap.size + 1, 1, none⟩ = some (.int .u64 l2) ∧ w'.cell? ⟨w.heap.size + 1, 2, none⟩ = some (.bool t) ∧ SubX w #[.int .u64 h1, .int .u64 l1, .bool s] #[.int .u64 h2, .int .u64 l2, .bool t] w') ((go_split_ands; refine ⟨?_, ?_, ?_, ?_, ?_, ?_, ?_⟩ <;> first | (with_reducible assumption) | (with_reducible exact SubX.sets (by with_reducible assumption) _ _ _) | (with_reducible exact SubX.drew (by with_reducible assumption)) | (with_reducible exact SubX.below (by with_reducible assumption) (by with_reducible assumption)) | (with_reducible exact (pw_cell_below (by with_reducible assumption) (by with_reducible assumption))) | (with_reducible exact cell_sets (by with_reducible assumption) (by omega)) | go_keep))
    (first
      | (go_at_call 37; refine (HN.out _).mono ?_; rintro e w' ⟨rfl, hb⟩)
      | (go_at_call 34; refine (HA.out _).mono ?_; rintro e w5 ⟨rfl, hb⟩; (have S5 : SubX w #[.int .u64 h1, .int .u64 l1, .bool s] #[.int .u64 h2, .int .u64 l2, .bool t] w5 := SubX.below (by go_split_ands; assumption) hb); have S7 := S5; obtain ⟨r0, r1, r2, S6⟩ := S7; have hc0 : w5.cell? ⟨w.heap.size + 1 + 1, 0, none⟩ = some r0 := (blk_cell S6.k3 0).trans rfl; have hc1 : w5.cell? ⟨w.heap.size + 1 + 1, 1, none⟩ = some r1 := (blk_cell S6.k3 1).trans rfl; have hc2 : w5.cell? ⟨w.heap.size + 1 + 1, 2, none⟩ = some r2 := (blk_cell S6.k3 2).trans rfl; have hf0 := blk_frozen S6.k3 0; have hf1 := blk_frozen S6.k3 1; have hf2 := blk_frozen S6.k3 2))
  (have hg := ((S6.set 0 (.int .u64 x)).set 1 (.int .u64 y)).set 2 (.bool z)); go_wp2; refine bodyPost_ret (results_list (rs := [.cell 4 40, .tmp 5]) rfl (by simp) (.cell (w.heap.size + 1 + 1) 40 #[.int .u64 x, .int .u64 y, .bool z] (0, 0) _ rfl hg.k3 Try.underlying40 rfl (by kernel_rfl) (.tmp .nil))) rfl ?_; exact ⟨rfl, hg.k4⟩

theorem sign_t (h l : Int) (w : World) :
    Calls Try.prog 36 #[.agg #[.int .u64 h, .int .u64 l, .bool true]] w fun e w' => e = .returned (.int .i64 (-1)) ∧ Below w.heap.size w w' := by
  go_enter Try.func36, Try.ntmps36
  go_wp2
  go_ret
  exact ⟨rfl, (Below.refl _ _).alloc (Nat.le_refl _) _⟩
theorem sign_n (h l : Int) (w : World) :
    Calls Try.prog 36 #[.agg #[.int .u64 h, .int .u64 l, .bool false]] w fun e w' => e = .returned (.int .i64 (if h = 0 ∧ l = 0 then 0 else 1)) ∧ Below w.heap.size w w' := by
  go_enter Try.func36, Try.ntmps36
  go_wp2
  all_goals
    go_ret
    exact ⟨by simp [*], (Below.refl _ _).alloc (Nat.le_refl _) _⟩
theorem sign_calls (a : Int) (ha : Small a) (w : World) :
    Calls Try.prog 36 #[M a] w fun e w' => e = .returned (.int .i64 (if a < 0 then -1 else if a = 0 then 0 else 1)) ∧ Below w.heap.size w w' := by
  have h := sign_f a ha
  unfold num_Money_Sign.f at h
  unfold M
  cases hs : mnM a with
  | true =>
    rw [hs, if_pos rfl] at h
    rw [← Option.some.inj h]
    exact sign_t _ _ w
  | false =>
    rw [hs, if_neg (by decide)] at h
    have e : (if a < 0 then -1 else if a = 0 then 0 else 1 : Int) = if hiM a = 0 ∧ loM a = 0 then 0 else 1 := by
      by_cases c : hiM a = 0 ∧ loM a = 0
      · rw [if_pos (by simp [c])] at h
        rw [if_pos c]
        exact (Option.some.inj h).symm
      · rw [if_neg (by simpa using c)] at h
        rw [if_neg c]
        exact (Option.some.inj h).symm
    rw [e]
    exact sign_n _ _ w

def W2 (h l : Int) : Value := .agg #[.int .u64 h, .int .u64 l]
theorem words_n (h l : Int) (w : World) :
    Calls Try.prog 26 #[.agg #[.int .u64 h, .int .u64 l, .bool false]] w fun e w' => e = .returned (W2 h l) ∧ Below w.heap.size w w' := by
  unfold W2
  go_enter Try.func26, Try.ntmps26
  go_wp2
  exact bodyPost_ret (v := .agg #[.int .u64 h, .int .u64 l]) (by simp [results, Try.results26, go_sem]) rfl ⟨rfl, ((Below.refl _ _).alloc (Nat.le_refl _) _).alloc (by simp) _⟩
theorem words_t (h l r c r2 c2 : Int) (hA : bits_Sub64.f 0 l 0 = some (r, c)) (hB : bits_Sub64.f 0 h c = some (r2, c2)) (w : World) :
    Calls Try.prog 26 #[.agg #[.int .u64 h, .int .u64 l, .bool true]] w fun e w' => e = .returned (W2 r2 r) ∧ Below w.heap.size w w' := by
  have HA := Aside0.mk (And.intro hA hB)
  clear hA hB
  unfold W2
  go_enter Try.func26, Try.ntmps26
  go_wp2_with (first
    | ((with_reducible refine gate_callee (f := 44) rfl ?_); refine goesX_ (some 18) rfl rfl Try.func44 (by kernel_rfl) rfl #[.int .u64 0, .int .u64 l, .int .u64 0] rfl (by (try simp only [List.map_toArray, List.map_cons, List.map_nil]); first | done | rfl) ?_; (with_reducible refine (bits_Sub64.calls 0 l 0 r c _ HA.out.1).mono ?_); rintro e w' ⟨rfl, ⟨nd, rfl⟩⟩; refine ⟨_, rfl, ?_⟩; skip)
    | ((with_reducible refine gate_callee (f := 44) rfl ?_); refine goesX_ (some 25) rfl rfl Try.func44 (by kernel_rfl) rfl #[.int .u64 0, .int .u64 h, .int .u64 c] rfl (by (try simp only [List.map_toArray, List.map_cons, List.map_nil]); first | done | rfl) ?_; (with_reducible refine (bits_Sub64.calls 0 h c r2 c2 _ HA.out.2).mono ?_); rintro e w' ⟨rfl, ⟨nd, rfl⟩⟩; refine ⟨_, rfl, ?_⟩; skip))
  exact bodyPost_ret (v := .agg #[.int .u64 r2, .int .u64 r]) (by simp [results, Try.results26, go_sem]) rfl ⟨rfl, by repeat first | exact ((Below.refl _ _).alloc (Nat.le_refl _) _).alloc (by simp) _ | refine below_set ?_ (by omega) | refine pw_below_drewN ?_ _⟩
theorem words_calls (a : Int) (ha : Small a) (w : World) :
    Calls Try.prog 26 #[M a] w fun e w' => e = .returned (W2 (wd0 a) (wd1 a)) ∧ Below w.heap.size w w' := by
  have h := words_f a ha
  unfold num_Money_Words.f at h
  unfold M
  cases hs : mnM a with
  | true =>
    rw [hs, if_pos rfl] at h
    obtain ⟨⟨r, c⟩, hA, h⟩ := Option.bind_eq_some_iff.1 h
    obtain ⟨⟨r2, c2⟩, hB, h⟩ := Option.bind_eq_some_iff.1 h
    obtain ⟨e1, e2⟩ := by simpa only [Option.some.injEq, Prod.mk.injEq] using h
    rw [← e1, ← e2]
    exact words_t _ _ _ _ _ _ hA hB w
  | false =>
    rw [hs, if_neg (by decide)] at h
    obtain ⟨e1, e2⟩ := by simpa only [Option.some.injEq, Prod.mk.injEq] using h
    rw [← e1, ← e2]
    exact words_n _ _ w

theorem size22 : (Try.prog.info? 22).map (·.size) = some 1 := by kernel_rfl
theorem cells22 : Try.prog.cellsOf 22 = 1 := by kernel_rfl
theorem part22 (xs : Array Value) (i : Nat) (v : Value) (w : World) (h : xs[i]? = some v) : (part 22 xs (i * Try.prog.cellsOf 22)).run Try.prog w = .ok v w := by
  rw [cells22, Nat.mul_one]
  simp [part, go_sem, h]
theorem eqItems_two (d : Nat) (e : TypeId) (n : Nat) (xs ys : Array Value) (a b c f : Value) (r s : Bool) (w : World) (p0 : (part e xs (0 * n)).run Try.prog w = .ok a w) (p1 : (part e xs (1 * n)).run Try.prog w = .ok b w) (q0 : (part e ys (0 * n)).run Try.prog w = .ok c w) (q1 : (part e ys (1 * n)).run Try.prog w = .ok f w)
    (e0 : (Op.equalIn d e a c).run Try.prog w = .ok r w) (e1 : (Op.equalIn d e b f).run Try.prog w = .ok s w) : (Op.eqItems d e n xs ys [0, 1]).run Try.prog w = .ok (r && s) w := by
  simp only [Op.eqItems, Sem.run_bind, p0, q0, e0, Result.andThen_ok]
  cases r
  · rfl
  · simp only [Bool.not_true, Bool.false_eq_true, if_false, Sem.run_bind, p1, q1, e1, Result.andThen_ok, Bool.true_and]
    cases s <;> rfl
theorem eq38' (n : Nat) (w : World) (a b c d : Int) : (Op.equalIn (n + 1 + 1) 38 (.agg #[.int .u64 a, .int .u64 b]) (.agg #[.int .u64 c, .int .u64 d])).run Try.prog w = .ok (a == c && b == d) w := by
  obtain ⟨i, hi, hs⟩ := Option.map_eq_some_iff.1 size22
  refine (run_equalIn_array (P := Try.prog) (w := w) (n + 1) _ _ Try.underlying38 hi).trans ?_
  have e : ∀ a b : Int, (Op.equalIn (n + 1) 22 (.int .u64 a) (.int .u64 b)).run Try.prog w = .ok (a == b) w := fun a b => run_equalIn_int w n 22 .u64 .u64 a b Try.underlying22
  have p0 := part22 #[.int .u64 a, .int .u64 b] 0 (.int .u64 a) w rfl
  have p1 := part22 #[.int .u64 a, .int .u64 b] 1 (.int .u64 b) w rfl
  have q0 := part22 #[.int .u64 c, .int .u64 d] 0 (.int .u64 c) w rfl
  have q1 := part22 #[.int .u64 c, .int .u64 d] 1 (.int .u64 d) w rfl
  exact eqItems_two (n + 1) 22 (Try.prog.cellsOf 22) _ _ _ _ _ _ _ _ w p0 p1 q0 q1 (e a c) (e b d)
theorem eq38 (w : World) (a b c d : Int) : (Op.equalIn 10000 38 (.agg #[.int .u64 a, .int .u64 b]) (.agg #[.int .u64 c, .int .u64 d])).run Try.prog w = .ok (a == c && b == d) w := eq38' 9998 w a b c d
attribute [local go_sem] eq38
theorem from_bad (w : World) :
    Calls Try.prog 29 #[W2 9223372036854775808 0] w fun e w' => e = .returned (.tuple #[M 0, .int .i64 3]) ∧ Below w.heap.size w w' := by
  unfold W2
  go_enter Try.func29, Try.ntmps29
  go_wp2
  exact bodyPost_ret (v := .tuple #[M 0, .int .i64 3]) (by simp [results, Try.results29, go_sem, M, hiM, loM, mnM]) rfl ⟨rfl, ((Below.refl _ _).alloc (Nat.le_refl _) _).alloc (by simp) _⟩
theorem from_low (h l : Int) (hh : h < 9223372036854775808) (w : World) :
    Calls Try.prog 29 #[W2 h l] w fun e w' => e = .returned (.tuple #[.agg #[.int .u64 h, .int .u64 l, .bool false], .int .i64 0]) ∧ Below w.heap.size w w' := by
  unfold W2
  have e1 : (h == 9223372036854775808) = false := beq_eq_false_iff_ne.mpr (by omega)
  go_enter Try.func29, Try.ntmps29
  go_wp2
  exact bodyPost_ret (v := .tuple #[.agg #[.int .u64 h, .int .u64 l, .bool false], .int .i64 0]) (by simp [results, Try.results29, go_sem]) rfl ⟨rfl, ((Below.refl _ _).alloc (Nat.le_refl _) _).alloc (by simp) _⟩
theorem from_high1 (h l r c r2 c2 : Int) (hh : ¬ h < 9223372036854775808) (hz : h ≠ 9223372036854775808) (hA : bits_Sub64.f 0 l 0 = some (r, c)) (hB : bits_Sub64.f 0 h c = some (r2, c2)) (w : World) :
    Calls Try.prog 29 #[W2 h l] w fun e w' => e = .returned (.tuple #[.agg #[.int .u64 r2, .int .u64 r, .bool true], .int .i64 0]) ∧ Below w.heap.size w w' := by
  have HA := Aside0.mk (And.intro hA hB)
  clear hA hB
  unfold W2
  have e1 : (h == 9223372036854775808) = false := beq_eq_false_iff_ne.mpr hz
  go_enter Try.func29, Try.ntmps29
  go_wp2_with (first
    | ((with_reducible refine gate_callee (f := 44) rfl ?_); refine goesX_ (some 23) rfl rfl Try.func44 (by kernel_rfl) rfl #[.int .u64 0, .int .u64 l, .int .u64 0] rfl (by (try simp only [List.map_toArray, List.map_cons, List.map_nil]); first | done | rfl) ?_; (with_reducible refine (bits_Sub64.calls 0 l 0 r c _ HA.out.1).mono ?_); rintro e w' ⟨rfl, ⟨nd, rfl⟩⟩; refine ⟨_, rfl, ?_⟩; skip)
    | ((with_reducible refine gate_callee (f := 44) rfl ?_); refine goesX_ (some 30) rfl rfl Try.func44 (by kernel_rfl) rfl #[.int .u64 0, .int .u64 h, .int .u64 c] rfl (by (try simp only [List.map_toArray, List.map_cons, List.map_nil]); first | done | rfl) ?_; (with_reducible refine (bits_Sub64.calls 0 h c r2 c2 _ HA.out.2).mono ?_); rintro e w' ⟨rfl, ⟨nd, rfl⟩⟩; refine ⟨_, rfl, ?_⟩; skip))
  exact bodyPost_ret (v := .tuple #[.agg #[.int .u64 r2, .int .u64 r, .bool true], .int .i64 0]) (by simp [results, Try.results29, go_sem]) rfl ⟨rfl, by repeat first | exact ((Below.refl _ _).alloc (Nat.le_refl _) _).alloc (by simp) _ | refine below_set ?_ (by omega) | refine pw_below_drewN ?_ _⟩
theorem from_high2 (l r c r2 c2 : Int) (hz : l ≠ 0) (hA : bits_Sub64.f 0 l 0 = some (r, c)) (hB : bits_Sub64.f 0 9223372036854775808 c = some (r2, c2)) (w : World) :
    Calls Try.prog 29 #[W2 9223372036854775808 l] w fun e w' => e = .returned (.tuple #[.agg #[.int .u64 r2, .int .u64 r, .bool true], .int .i64 0]) ∧ Below w.heap.size w w' := by
  have HA := Aside0.mk (And.intro hA hB)
  clear hA hB
  unfold W2
  have e1 : (l == 0) = false := beq_eq_false_iff_ne.mpr hz
  go_enter Try.func29, Try.ntmps29
  go_wp2_with (first
    | ((with_reducible refine gate_callee (f := 44) rfl ?_); refine goesX_ (some 23) rfl rfl Try.func44 (by kernel_rfl) rfl #[.int .u64 0, .int .u64 l, .int .u64 0] rfl (by (try simp only [List.map_toArray, List.map_cons, List.map_nil]); first | done | rfl) ?_; (with_reducible refine (bits_Sub64.calls 0 l 0 r c _ HA.out.1).mono ?_); rintro e w' ⟨rfl, ⟨nd, rfl⟩⟩; refine ⟨_, rfl, ?_⟩; skip)
    | ((with_reducible refine gate_callee (f := 44) rfl ?_); refine goesX_ (some 30) rfl rfl Try.func44 (by kernel_rfl) rfl #[.int .u64 0, .int .u64 9223372036854775808, .int .u64 c] rfl (by (try simp only [List.map_toArray, List.map_cons, List.map_nil]); first | done | rfl) ?_; (with_reducible refine (bits_Sub64.calls 0 9223372036854775808 c r2 c2 _ HA.out.2).mono ?_); rintro e w' ⟨rfl, ⟨nd, rfl⟩⟩; refine ⟨_, rfl, ?_⟩; skip))
  exact bodyPost_ret (v := .tuple #[.agg #[.int .u64 r2, .int .u64 r, .bool true], .int .i64 0]) (by simp [results, Try.results29, go_sem]) rfl ⟨rfl, by repeat first | exact ((Below.refl _ _).alloc (Nat.le_refl _) _).alloc (by simp) _ | refine below_set ?_ (by omega) | refine pw_below_drewN ?_ _⟩
def fwB (h l : Int) : Bool := decide (h = 9223372036854775808 ∧ l = 0)
def fwR (h l : Int) : Int := if fwB h l then 0 else sgn h l
theorem small_fwR (h l : Int) (h0 : 0 ≤ h) (h1 : h < 18446744073709551616) (l0 : 0 ≤ l) (l1 : l < 18446744073709551616) : Small (fwR h l) := by
  unfold Small fwR fwB sgn
  by_cases c : h = 9223372036854775808 ∧ l = 0
  · rw [if_pos (decide_eq_true c)]; decide
  · rw [if_neg (by simpa using c)]
    by_cases d : h < 9223372036854775808
    · rw [if_pos d]; omega
    · rw [if_neg d]; omega
theorem from_calls (h l : Int) (h0 : 0 ≤ h) (h1 : h < 18446744073709551616) (l0 : 0 ≤ l) (l1 : l < 18446744073709551616) (w : World) :
    Calls Try.prog 29 #[W2 h l] w fun e w' => e = .returned (.tuple #[M (fwR h l), .int .i64 (if fwB h l then 3 else 0)]) ∧ Below w.heap.size w w' := by
  by_cases c : h = 9223372036854775808 ∧ l = 0
  · obtain ⟨rfl, rfl⟩ := c
    exact from_bad w
  · have eb : fwB h l = false := by unfold fwB; exact decide_eq_false c
    rw [eb]
    have er : fwR h l = sgn h l := by unfold fwR; rw [eb]; rfl
    rw [er]
    by_cases d : h < 9223372036854775808
    · have es : sgn h l = h * 18446744073709551616 + l := by unfold sgn; rw [if_pos d]
      have e1 : hiM (sgn h l) = h := by rw [es]; unfold hiM; omega
      have e2 : loM (sgn h l) = l := by rw [es]; unfold loM; omega
      have e3 : mnM (sgn h l) = false := by rw [es]; unfold mnM; exact decide_eq_false (by omega)
      have := from_low h l d w
      unfold M
      rw [e1, e2, e3]
      exact this
    · have es : sgn h l = h * 18446744073709551616 + l - 340282366920938463463374607431768211456 := by unfold sgn; rw [if_neg d]
      obtain ⟨A, hA⟩ : ∃ A : Nat, (A : Int) = h * 18446744073709551616 + l := ⟨(h * 18446744073709551616 + l).toNat, by omega⟩
      have eh : h = ((A / 18446744073709551616 : Nat) : Int) := by omega
      have el : l = ((A % 18446744073709551616 : Nat) : Int) := by omega
      have ew := neg_words A (by omega) (by omega)
      rw [← eh, ← el] at ew
      obtain ⟨⟨r, k⟩, hr, ew⟩ := Option.bind_eq_some_iff.1 ew
      obtain ⟨⟨r2, k2⟩, hr2, ew⟩ := Option.bind_eq_some_iff.1 ew
      obtain ⟨q1, q2⟩ := by simpa only [Option.some.injEq, Prod.mk.injEq] using ew
      have e0 : (sgn h l).natAbs = 340282366920938463463374607431768211456 - A := by rw [es]; omega
      have e1 : hiM (sgn h l) = r2 := by unfold hiM; rw [e0, q1]
      have e2 : loM (sgn h l) = r := by unfold loM; rw [e0, q2]
      have e3 : mnM (sgn h l) = true := by rw [es]; unfold mnM; exact decide_eq_true (by omega)
      unfold M
      rw [e1, e2, e3]
      by_cases g : h = 9223372036854775808
      · subst g
        exact from_high2 l r k r2 k2 (by omega) hr hr2 w
      · exact from_high1 h l r k r2 k2 d g hr hr2 w

def cmpR (h1 l1 h2 l2 : Int) (s t b : Bool) : Int := if h1 = h2 ∧ l1 = l2 ∧ s = t then 0 else if s != t then (if s then -1 else 1) else if b then (if s then 1 else -1) else (if s then -1 else 1)
theorem comp_eq (h1 l1 h2 l2 : Int) (c : h1 = h2) (d : l1 = l2) (s t b : Bool) (hl : num_Money_less.f h1 l1 s h2 l2 t = some b) (w : World) :
    Calls Try.prog 32 #[.agg #[.int .u64 h1, .int .u64 l1, .bool s], .agg #[.int .u64 h2, .int .u64 l2, .bool t]] w fun e w' => e = .returned (.int .i64 (cmpR h1 l1 h2 l2 s t b)) ∧ Below w.heap.size w w' := by
  have HL := Aside0.mk hl
  clear hl
  obtain ⟨w3, hw3⟩ : ∃ w3, w3 = (w.alloc (.cells #[.int .u64 h1, .int .u64 l1, .bool s] 40)).alloc (.cells #[.int .u64 h2, .int .u64 l2, .bool t] 40) := ⟨_, rfl⟩
  obtain ⟨K1, K2, K3⟩ := two_new w #[.int .u64 h1, .int .u64 l1, .bool s] #[.int .u64 h2, .int .u64 l2, .bool t] 40 40
  rw [← hw3] at K1 K2 K3
  have a0 : w3.cell? ⟨w.heap.size, 0, none⟩ = some (.int .u64 h1) := (blk_cell K1 0).trans rfl
  have a1 : w3.cell? ⟨w.heap.size, 1, none⟩ = some (.int .u64 l1) := (blk_cell K1 1).trans rfl
  have a2 : w3.cell? ⟨w.heap.size, 2, none⟩ = some (.bool s) := (blk_cell K1 2).trans rfl
  have b0 : w3.cell? ⟨w.heap.size + 1, 0, none⟩ = some (.int .u64 h2) := (blk_cell K2 0).trans rfl
  have b1 : w3.cell? ⟨w.heap.size + 1, 1, none⟩ = some (.int .u64 l2) := (blk_cell K2 1).trans rfl
  have b2 : w3.cell? ⟨w.heap.size + 1, 2, none⟩ = some (.bool t) := (blk_cell K2 2).trans rfl
  have HK := Aside0.mk K3
  have HW := Aside0.mk hw3
  clear K1 K2 K3 hw3
  subst c; subst d
  cases s <;> cases t <;> cases b
  all_goals
    go_enter Try.func32, Try.ntmps32
    go_upto_region 1 with (fail)
    rw [← HW.out]
  · go_wp2_with (first
      | ((with_reducible refine gate_callee (f := 61) rfl ?_); (try (refine gate_guard (by rfl) ?_; dsimp only)); refine goesL_ (some 21) rfl rfl Try.func61 (by kernel_rfl) rfl #[.agg #[.int .u64 h1, .int .u64 l1, .bool false], .agg #[.int .u64 h1, .int .u64 l1, .bool false]] rfl (by (try simp only [List.map_toArray, List.map_cons, List.map_nil]); first | done | rfl) ?_; (with_reducible refine (less_calls h1 l1 h1 l1 false false false HL.out _).mono ?_); rintro e w4 ⟨rfl, hb4⟩; refine ⟨_, rfl, ?_⟩; have a24 := pw_cell_below hb4 a2; have HB4 := Aside0.mk hb4; clear hb4))
    go_ret
    exact ⟨by simp [cmpR, *], by first | exact HK.out | exact below_then HK.out HK.out.size HB4.out⟩
  · go_wp2_with (first
      | ((with_reducible refine gate_callee (f := 61) rfl ?_); (try (refine gate_guard (by rfl) ?_; dsimp only)); refine goesL_ (some 21) rfl rfl Try.func61 (by kernel_rfl) rfl #[.agg #[.int .u64 h1, .int .u64 l1, .bool false], .agg #[.int .u64 h1, .int .u64 l1, .bool false]] rfl (by (try simp only [List.map_toArray, List.map_cons, List.map_nil]); first | done | rfl) ?_; (with_reducible refine (less_calls h1 l1 h1 l1 false false true HL.out _).mono ?_); rintro e w4 ⟨rfl, hb4⟩; refine ⟨_, rfl, ?_⟩; have a24 := pw_cell_below hb4 a2; have HB4 := Aside0.mk hb4; clear hb4))
    go_ret
    exact ⟨by simp [cmpR, *], by first | exact HK.out | exact below_then HK.out HK.out.size HB4.out⟩
  · go_wp2_with (first
      | ((with_reducible refine gate_callee (f := 61) rfl ?_); (try (refine gate_guard (by rfl) ?_; dsimp only)); refine goesL_ (some 21) rfl rfl Try.func61 (by kernel_rfl) rfl #[.agg #[.int .u64 h1, .int .u64 l1, .bool false], .agg #[.int .u64 h1, .int .u64 l1, .bool true]] rfl (by (try simp only [List.map_toArray, List.map_cons, List.map_nil]); first | done | rfl) ?_; (with_reducible refine (less_calls h1 l1 h1 l1 false true false HL.out _).mono ?_); rintro e w4 ⟨rfl, hb4⟩; refine ⟨_, rfl, ?_⟩; have a24 := pw_cell_below hb4 a2; have HB4 := Aside0.mk hb4; clear hb4))
    go_ret
    exact ⟨by simp [cmpR, *], by first | exact HK.out | exact below_then HK.out HK.out.size HB4.out⟩
  · go_wp2_with (first
      | ((with_reducible refine gate_callee (f := 61) rfl ?_); (try (refine gate_guard (by rfl) ?_; dsimp only)); refine goesL_ (some 21) rfl rfl Try.func61 (by kernel_rfl) rfl #[.agg #[.int .u64 h1, .int .u64 l1, .bool false], .agg #[.int .u64 h1, .int .u64 l1, .bool true]] rfl (by (try simp only [List.map_toArray, List.map_cons, List.map_nil]); first | done | rfl) ?_; (with_reducible refine (less_calls h1 l1 h1 l1 false true true HL.out _).mono ?_); rintro e w4 ⟨rfl, hb4⟩; refine ⟨_, rfl, ?_⟩; have a24 := pw_cell_below hb4 a2; have HB4 := Aside0.mk hb4; clear hb4))
    go_ret
    exact ⟨by simp [cmpR, *], by first | exact HK.out | exact below_then HK.out HK.out.size HB4.out⟩
  · go_wp2_with (first
      | ((with_reducible refine gate_callee (f := 61) rfl ?_); (try (refine gate_guard (by rfl) ?_; dsimp only)); refine goesL_ (some 21) rfl rfl Try.func61 (by kernel_rfl) rfl #[.agg #[.int .u64 h1, .int .u64 l1, .bool true], .agg #[.int .u64 h1, .int .u64 l1, .bool false]] rfl (by (try simp only [List.map_toArray, List.map_cons, List.map_nil]); first | done | rfl) ?_; (with_reducible refine (less_calls h1 l1 h1 l1 true false false HL.out _).mono ?_); rintro e w4 ⟨rfl, hb4⟩; refine ⟨_, rfl, ?_⟩; have a24 := pw_cell_below hb4 a2; have HB4 := Aside0.mk hb4; clear hb4))
    go_ret
    exact ⟨by simp [cmpR, *], by first | exact HK.out | exact below_then HK.out HK.out.size HB4.out⟩
  · go_wp2_with (first
      | ((with_reducible refine gate_callee (f := 61) rfl ?_); (try (refine gate_guard (by rfl) ?_; dsimp only)); refine goesL_ (some 21) rfl rfl Try.func61 (by kernel_rfl) rfl #[.agg #[.int .u64 h1, .int .u64 l1, .bool true], .agg #[.int .u64 h1, .int .u64 l1, .bool false]] rfl (by (try simp only [List.map_toArray, List.map_cons, List.map_nil]); first | done | rfl) ?_; (with_reducible refine (less_calls h1 l1 h1 l1 true false true HL.out _).mono ?_); rintro e w4 ⟨rfl, hb4⟩; refine ⟨_, rfl, ?_⟩; have a24 := pw_cell_below hb4 a2; have HB4 := Aside0.mk hb4; clear hb4))
    go_ret
    exact ⟨by simp [cmpR, *], by first | exact HK.out | exact below_then HK.out HK.out.size HB4.out⟩
  · go_wp2_with (first
      | ((with_reducible refine gate_callee (f := 61) rfl ?_); (try (refine gate_guard (by rfl) ?_; dsimp only)); refine goesL_ (some 21) rfl rfl Try.func61 (by kernel_rfl) rfl #[.agg #[.int .u64 h1, .int .u64 l1, .bool true], .agg #[.int .u64 h1, .int .u64 l1, .bool true]] rfl (by (try simp only [List.map_toArray, List.map_cons, List.map_nil]); first | done | rfl) ?_; (with_reducible refine (less_calls h1 l1 h1 l1 true true false HL.out _).mono ?_); rintro e w4 ⟨rfl, hb4⟩; refine ⟨_, rfl, ?_⟩; have a24 := pw_cell_below hb4 a2; have HB4 := Aside0.mk hb4; clear hb4))
    go_ret
    exact ⟨by simp [cmpR, *], by first | exact HK.out | exact below_then HK.out HK.out.size HB4.out⟩
  · go_wp2_with (first
      | ((with_reducible refine gate_callee (f := 61) rfl ?_); (try (refine gate_guard (by rfl) ?_; dsimp only)); refine goesL_ (some 21) rfl rfl Try.func61 (by kernel_rfl) rfl #[.agg #[.int .u64 h1, .int .u64 l1, .bool true], .agg #[.int .u64 h1, .int .u64 l1, .bool true]] rfl (by (try simp only [List.map_toArray, List.map_cons, List.map_nil]); first | done | rfl) ?_; (with_reducible refine (less_calls h1 l1 h1 l1 true true true HL.out _).mono ?_); rintro e w4 ⟨rfl, hb4⟩; refine ⟨_, rfl, ?_⟩; have a24 := pw_cell_below hb4 a2; have HB4 := Aside0.mk hb4; clear hb4))
    go_ret
    exact ⟨by simp [cmpR, *], by first | exact HK.out | exact below_then HK.out HK.out.size HB4.out⟩
theorem comp_lo (h1 l1 h2 l2 : Int) (c : h1 = h2) (d : l1 ≠ l2) (s t b : Bool) (hl : num_Money_less.f h1 l1 s h2 l2 t = some b) (w : World) :
    Calls Try.prog 32 #[.agg #[.int .u64 h1, .int .u64 l1, .bool s], .agg #[.int .u64 h2, .int .u64 l2, .bool t]] w fun e w' => e = .returned (.int .i64 (cmpR h1 l1 h2 l2 s t b)) ∧ Below w.heap.size w w' := by
  have HL := Aside0.mk hl
  clear hl
  obtain ⟨w3, hw3⟩ : ∃ w3, w3 = (w.alloc (.cells #[.int .u64 h1, .int .u64 l1, .bool s] 40)).alloc (.cells #[.int .u64 h2, .int .u64 l2, .bool t] 40) := ⟨_, rfl⟩
  obtain ⟨K1, K2, K3⟩ := two_new w #[.int .u64 h1, .int .u64 l1, .bool s] #[.int .u64 h2, .int .u64 l2, .bool t] 40 40
  rw [← hw3] at K1 K2 K3
  have a0 : w3.cell? ⟨w.heap.size, 0, none⟩ = some (.int .u64 h1) := (blk_cell K1 0).trans rfl
  have a1 : w3.cell? ⟨w.heap.size, 1, none⟩ = some (.int .u64 l1) := (blk_cell K1 1).trans rfl
  have a2 : w3.cell? ⟨w.heap.size, 2, none⟩ = some (.bool s) := (blk_cell K1 2).trans rfl
  have b0 : w3.cell? ⟨w.heap.size + 1, 0, none⟩ = some (.int .u64 h2) := (blk_cell K2 0).trans rfl
  have b1 : w3.cell? ⟨w.heap.size + 1, 1, none⟩ = some (.int .u64 l2) := (blk_cell K2 1).trans rfl
  have b2 : w3.cell? ⟨w.heap.size + 1, 2, none⟩ = some (.bool t) := (blk_cell K2 2).trans rfl
  have HK := Aside0.mk K3
  have HW := Aside0.mk hw3
  clear K1 K2 K3 hw3
  subst c; (have d' : (l1 == l2) = false := beq_eq_false_iff_ne.mpr d)
  cases s <;> cases t <;> cases b
  all_goals
    go_enter Try.func32, Try.ntmps32
    go_upto_region 1 with (fail)
    rw [← HW.out]
  · go_wp2_with (first
      | ((with_reducible refine gate_callee (f := 61) rfl ?_); (try (refine gate_guard (by rfl) ?_; dsimp only)); refine goesL_ (some 21) rfl rfl Try.func61 (by kernel_rfl) rfl #[.agg #[.int .u64 h1, .int .u64 l1, .bool false], .agg #[.int .u64 h1, .int .u64 l2, .bool false]] rfl (by (try simp only [List.map_toArray, List.map_cons, List.map_nil]); first | done | rfl) ?_; (with_reducible refine (less_calls h1 l1 h1 l2 false false false HL.out _).mono ?_); rintro e w4 ⟨rfl, hb4⟩; refine ⟨_, rfl, ?_⟩; have a24 := pw_cell_below hb4 a2; have HB4 := Aside0.mk hb4; clear hb4))
    go_ret
    exact ⟨by simp [cmpR, *], by first | exact HK.out | exact below_then HK.out HK.out.size HB4.out⟩
  · go_wp2_with (first
      | ((with_reducible refine gate_callee (f := 61) rfl ?_); (try (refine gate_guard (by rfl) ?_; dsimp only)); refine goesL_ (some 21) rfl rfl Try.func61 (by kernel_rfl) rfl #[.agg #[.int .u64 h1, .int .u64 l1, .bool false], .agg #[.int .u64 h1, .int .u64 l2, .bool false]] rfl (by (try simp only [List.map_toArray, List.map_cons, List.map_nil]); first | done | rfl) ?_; (with_reducible refine (less_calls h1 l1 h1 l2 false false true HL.out _).mono ?_); rintro e w4 ⟨rfl, hb4⟩; refine ⟨_, rfl, ?_⟩; have a24 := pw_cell_below hb4 a2; have HB4 := Aside0.mk hb4; clear hb4))
    go_ret
    exact ⟨by simp [cmpR, *], by first | exact HK.out | exact below_then HK.out HK.out.size HB4.out⟩
  · go_wp2_with (first
      | ((with_reducible refine gate_callee (f := 61) rfl ?_); (try (refine gate_guard (by rfl) ?_; dsimp only)); refine goesL_ (some 21) rfl rfl Try.func61 (by kernel_rfl) rfl #[.agg #[.int .u64 h1, .int .u64 l1, .bool false], .agg #[.int .u64 h1, .int .u64 l2, .bool true]] rfl (by (try simp only [List.map_toArray, List.map_cons, List.map_nil]); first | done | rfl) ?_; (with_reducible refine (less_calls h1 l1 h1 l2 false true false HL.out _).mono ?_); rintro e w4 ⟨rfl, hb4⟩; refine ⟨_, rfl, ?_⟩; have a24 := pw_cell_below hb4 a2; have HB4 := Aside0.mk hb4; clear hb4))
    go_ret
    exact ⟨by simp [cmpR, *], by first | exact HK.out | exact below_then HK.out HK.out.size HB4.out⟩
  · go_wp2_with (first
      | ((with_reducible refine gate_callee (f := 61) rfl ?_); (try (refine gate_guard (by rfl) ?_; dsimp only)); refine goesL_ (some 21) rfl rfl Try.func61 (by kernel_rfl) rfl #[.agg #[.int .u64 h1, .int .u64 l1, .bool false], .agg #[.int .u64 h1, .int .u64 l2, .bool true]] rfl (by (try simp only [List.map_toArray, List.map_cons, List.map_nil]); first | done | rfl) ?_; (with_reducible refine (less_calls h1 l1 h1 l2 false true true HL.out _).mono ?_); rintro e w4 ⟨rfl, hb4⟩; refine ⟨_, rfl, ?_⟩; have a24 := pw_cell_below hb4 a2; have HB4 := Aside0.mk hb4; clear hb4))
    go_ret
    exact ⟨by simp [cmpR, *], by first | exact HK.out | exact below_then HK.out HK.out.size HB4.out⟩
  · go_wp2_with (first
      | ((with_reducible refine gate_callee (f := 61) rfl ?_); (try (refine gate_guard (by rfl) ?_; dsimp only)); refine goesL_ (some 21) rfl rfl Try.func61 (by kernel_rfl) rfl #[.agg #[.int .u64 h1, .int .u64 l1, .bool true], .agg #[.int .u64 h1, .int .u64 l2, .bool false]] rfl (by (try simp only [List.map_toArray, List.map_cons, List.map_nil]); first | done | rfl) ?_; (with_reducible refine (less_calls h1 l1 h1 l2 true false false HL.out _).mono ?_); rintro e w4 ⟨rfl, hb4⟩; refine ⟨_, rfl, ?_⟩; have a24 := pw_cell_below hb4 a2; have HB4 := Aside0.mk hb4; clear hb4))
    go_ret
    exact ⟨by simp [cmpR, *], by first | exact HK.out | exact below_then HK.out HK.out.size HB4.out⟩
  · go_wp2_with (first
      | ((with_reducible refine gate_callee (f := 61) rfl ?_); (try (refine gate_guard (by rfl) ?_; dsimp only)); refine goesL_ (some 21) rfl rfl Try.func61 (by kernel_rfl) rfl #[.agg #[.int .u64 h1, .int .u64 l1, .bool true], .agg #[.int .u64 h1, .int .u64 l2, .bool false]] rfl (by (try simp only [List.map_toArray, List.map_cons, List.map_nil]); first | done | rfl) ?_; (with_reducible refine (less_calls h1 l1 h1 l2 true false true HL.out _).mono ?_); rintro e w4 ⟨rfl, hb4⟩; refine ⟨_, rfl, ?_⟩; have a24 := pw_cell_below hb4 a2; have HB4 := Aside0.mk hb4; clear hb4))
    go_ret
    exact ⟨by simp [cmpR, *], by first | exact HK.out | exact below_then HK.out HK.out.size HB4.out⟩
  · go_wp2_with (first
      | ((with_reducible refine gate_callee (f := 61) rfl ?_); (try (refine gate_guard (by rfl) ?_; dsimp only)); refine goesL_ (some 21) rfl rfl Try.func61 (by kernel_rfl) rfl #[.agg #[.int .u64 h1, .int .u64 l1, .bool true], .agg #[.int .u64 h1, .int .u64 l2, .bool true]] rfl (by (try simp only [List.map_toArray, List.map_cons, List.map_nil]); first | done | rfl) ?_; (with_reducible refine (less_calls h1 l1 h1 l2 true true false HL.out _).mono ?_); rintro e w4 ⟨rfl, hb4⟩; refine ⟨_, rfl, ?_⟩; have a24 := pw_cell_below hb4 a2; have HB4 := Aside0.mk hb4; clear hb4))
    go_ret
    exact ⟨by simp [cmpR, *], by first | exact HK.out | exact below_then HK.out HK.out.size HB4.out⟩
  · go_wp2_with (first
      | ((with_reducible refine gate_callee (f := 61) rfl ?_); (try (refine gate_guard (by rfl) ?_; dsimp only)); refine goesL_ (some 21) rfl rfl Try.func61 (by kernel_rfl) rfl #[.agg #[.int .u64 h1, .int .u64 l1, .bool true], .agg #[.int .u64 h1, .int .u64 l2, .bool true]] rfl (by (try simp only [List.map_toArray, List.map_cons, List.map_nil]); first | done | rfl) ?_; (with_reducible refine (less_calls h1 l1 h1 l2 true true true HL.out _).mono ?_); rintro e w4 ⟨rfl, hb4⟩; refine ⟨_, rfl, ?_⟩; have a24 := pw_cell_below hb4 a2; have HB4 := Aside0.mk hb4; clear hb4))
    go_ret
    exact ⟨by simp [cmpR, *], by first | exact HK.out | exact below_then HK.out HK.out.size HB4.out⟩
theorem comp_hi (h1 l1 h2 l2 : Int) (c : h1 ≠ h2) (s t b : Bool) (hl : num_Money_less.f h1 l1 s h2 l2 t = some b) (w : World) :
    Calls Try.prog 32 #[.agg #[.int .u64 h1, .int .u64 l1, .bool s], .agg #[.int .u64 h2, .int .u64 l2, .bool t]] w fun e w' => e = .returned (.int .i64 (cmpR h1 l1 h2 l2 s t b)) ∧ Below w.heap.size w w' := by
  have HL := Aside0.mk hl
  clear hl
  obtain ⟨w3, hw3⟩ : ∃ w3, w3 = (w.alloc (.cells #[.int .u64 h1, .int .u64 l1, .bool s] 40)).alloc (.cells #[.int .u64 h2, .int .u64 l2, .bool t] 40) := ⟨_, rfl⟩
  obtain ⟨K1, K2, K3⟩ := two_new w #[.int .u64 h1, .int .u64 l1, .bool s] #[.int .u64 h2, .int .u64 l2, .bool t] 40 40
  rw [← hw3] at K1 K2 K3
  have a0 : w3.cell? ⟨w.heap.size, 0, none⟩ = some (.int .u64 h1) := (blk_cell K1 0).trans rfl
  have a1 : w3.cell? ⟨w.heap.size, 1, none⟩ = some (.int .u64 l1) := (blk_cell K1 1).trans rfl
  have a2 : w3.cell? ⟨w.heap.size, 2, none⟩ = some (.bool s) := (blk_cell K1 2).trans rfl
  have b0 : w3.cell? ⟨w.heap.size + 1, 0, none⟩ = some (.int .u64 h2) := (blk_cell K2 0).trans rfl
  have b1 : w3.cell? ⟨w.heap.size + 1, 1, none⟩ = some (.int .u64 l2) := (blk_cell K2 1).trans rfl
  have b2 : w3.cell? ⟨w.heap.size + 1, 2, none⟩ = some (.bool t) := (blk_cell K2 2).trans rfl
  have HK := Aside0.mk K3
  have HW := Aside0.mk hw3
  clear K1 K2 K3 hw3
  have c' : (h1 == h2) = false := beq_eq_false_iff_ne.mpr c
  cases s <;> cases t <;> cases b
  all_goals
    go_enter Try.func32, Try.ntmps32
    go_upto_region 1 with (fail)
    rw [← HW.out]
  · go_wp2_with (first
      | ((with_reducible refine gate_callee (f := 61) rfl ?_); (try (refine gate_guard (by rfl) ?_; dsimp only)); refine goesL_ (some 21) rfl rfl Try.func61 (by kernel_rfl) rfl #[.agg #[.int .u64 h1, .int .u64 l1, .bool false], .agg #[.int .u64 h2, .int .u64 l2, .bool false]] rfl (by (try simp only [List.map_toArray, List.map_cons, List.map_nil]); first | done | rfl) ?_; (with_reducible refine (less_calls h1 l1 h2 l2 false false false HL.out _).mono ?_); rintro e w4 ⟨rfl, hb4⟩; refine ⟨_, rfl, ?_⟩; have a24 := pw_cell_below hb4 a2; have HB4 := Aside0.mk hb4; clear hb4))
    go_ret
    exact ⟨by simp [cmpR, *], by first | exact HK.out | exact below_then HK.out HK.out.size HB4.out⟩
  · go_wp2_with (first
      | ((with_reducible refine gate_callee (f := 61) rfl ?_); (try (refine gate_guard (by rfl) ?_; dsimp only)); refine goesL_ (some 21) rfl rfl Try.func61 (by kernel_rfl) rfl #[.agg #[.int .u64 h1, .int .u64 l1, .bool false], .agg #[.int .u64 h2, .int .u64 l2, .bool false]] rfl (by (try simp only [List.map_toArray, List.map_cons, List.map_nil]); first | done | rfl) ?_; (with_reducible refine (less_calls h1 l1 h2 l2 false false true HL.out _).mono ?_); rintro e w4 ⟨rfl, hb4⟩; refine ⟨_, rfl, ?_⟩; have a24 := pw_cell_below hb4 a2; have HB4 := Aside0.mk hb4; clear hb4))
    go_ret
    exact ⟨by simp [cmpR, *], by first | exact HK.out | exact below_then HK.out HK.out.size HB4.out⟩
  · go_wp2_with (first
      | ((with_reducible refine gate_callee (f := 61) rfl ?_); (try (refine gate_guard (by rfl) ?_; dsimp only)); refine goesL_ (some 21) rfl rfl Try.func61 (by kernel_rfl) rfl #[.agg #[.int .u64 h1, .int .u64 l1, .bool false], .agg #[.int .u64 h2, .int .u64 l2, .bool true]] rfl (by (try simp only [List.map_toArray, List.map_cons, List.map_nil]); first | done | rfl) ?_; (with_reducible refine (less_calls h1 l1 h2 l2 false true false HL.out _).mono ?_); rintro e w4 ⟨rfl, hb4⟩; refine ⟨_, rfl, ?_⟩; have a24 := pw_cell_below hb4 a2; have HB4 := Aside0.mk hb4; clear hb4))
    go_ret
    exact ⟨by simp [cmpR, *], by first | exact HK.out | exact below_then HK.out HK.out.size HB4.out⟩
  · go_wp2_with (first
      | ((with_reducible refine gate_callee (f := 61) rfl ?_); (try (refine gate_guard (by rfl) ?_; dsimp only)); refine goesL_ (some 21) rfl rfl Try.func61 (by kernel_rfl) rfl #[.agg #[.int .u64 h1, .int .u64 l1, .bool false], .agg #[.int .u64 h2, .int .u64 l2, .bool true]] rfl (by (try simp only [List.map_toArray, List.map_cons, List.map_nil]); first | done | rfl) ?_; (with_reducible refine (less_calls h1 l1 h2 l2 false true true HL.out _).mono ?_); rintro e w4 ⟨rfl, hb4⟩; refine ⟨_, rfl, ?_⟩; have a24 := pw_cell_below hb4 a2; have HB4 := Aside0.mk hb4; clear hb4))
    go_ret
    exact ⟨by simp [cmpR, *], by first | exact HK.out | exact below_then HK.out HK.out.size HB4.out⟩
  · go_wp2_with (first
      | ((with_reducible refine gate_callee (f := 61) rfl ?_); (try (refine gate_guard (by rfl) ?_; dsimp only)); refine goesL_ (some 21) rfl rfl Try.func61 (by kernel_rfl) rfl #[.agg #[.int .u64 h1, .int .u64 l1, .bool true], .agg #[.int .u64 h2, .int .u64 l2, .bool false]] rfl (by (try simp only [List.map_toArray, List.map_cons, List.map_nil]); first | done | rfl) ?_; (with_reducible refine (less_calls h1 l1 h2 l2 true false false HL.out _).mono ?_); rintro e w4 ⟨rfl, hb4⟩; refine ⟨_, rfl, ?_⟩; have a24 := pw_cell_below hb4 a2; have HB4 := Aside0.mk hb4; clear hb4))
    go_ret
    exact ⟨by simp [cmpR, *], by first | exact HK.out | exact below_then HK.out HK.out.size HB4.out⟩
  · go_wp2_with (first
      | ((with_reducible refine gate_callee (f := 61) rfl ?_); (try (refine gate_guard (by rfl) ?_; dsimp only)); refine goesL_ (some 21) rfl rfl Try.func61 (by kernel_rfl) rfl #[.agg #[.int .u64 h1, .int .u64 l1, .bool true], .agg #[.int .u64 h2, .int .u64 l2, .bool false]] rfl (by (try simp only [List.map_toArray, List.map_cons, List.map_nil]); first | done | rfl) ?_; (with_reducible refine (less_calls h1 l1 h2 l2 true false true HL.out _).mono ?_); rintro e w4 ⟨rfl, hb4⟩; refine ⟨_, rfl, ?_⟩; have a24 := pw_cell_below hb4 a2; have HB4 := Aside0.mk hb4; clear hb4))
    go_ret
    exact ⟨by simp [cmpR, *], by first | exact HK.out | exact below_then HK.out HK.out.size HB4.out⟩
  · go_wp2_with (first
      | ((with_reducible refine gate_callee (f := 61) rfl ?_); (try (refine gate_guard (by rfl) ?_; dsimp only)); refine goesL_ (some 21) rfl rfl Try.func61 (by kernel_rfl) rfl #[.agg #[.int .u64 h1, .int .u64 l1, .bool true], .agg #[.int .u64 h2, .int .u64 l2, .bool true]] rfl (by (try simp only [List.map_toArray, List.map_cons, List.map_nil]); first | done | rfl) ?_; (with_reducible refine (less_calls h1 l1 h2 l2 true true false HL.out _).mono ?_); rintro e w4 ⟨rfl, hb4⟩; refine ⟨_, rfl, ?_⟩; have a24 := pw_cell_below hb4 a2; have HB4 := Aside0.mk hb4; clear hb4))
    go_ret
    exact ⟨by simp [cmpR, *], by first | exact HK.out | exact below_then HK.out HK.out.size HB4.out⟩
  · go_wp2_with (first
      | ((with_reducible refine gate_callee (f := 61) rfl ?_); (try (refine gate_guard (by rfl) ?_; dsimp only)); refine goesL_ (some 21) rfl rfl Try.func61 (by kernel_rfl) rfl #[.agg #[.int .u64 h1, .int .u64 l1, .bool true], .agg #[.int .u64 h2, .int .u64 l2, .bool true]] rfl (by (try simp only [List.map_toArray, List.map_cons, List.map_nil]); first | done | rfl) ?_; (with_reducible refine (less_calls h1 l1 h2 l2 true true true HL.out _).mono ?_); rintro e w4 ⟨rfl, hb4⟩; refine ⟨_, rfl, ?_⟩; have a24 := pw_cell_below hb4 a2; have HB4 := Aside0.mk hb4; clear hb4))
    go_ret
    exact ⟨by simp [cmpR, *], by first | exact HK.out | exact below_then HK.out HK.out.size HB4.out⟩

theorem comp_calls (a b : Int) (ha : Small a) (hb : Small b) (w : World) :
    Calls Try.prog 32 #[M a, M b] w fun e w' => e = .returned (.int .i64 (if a = b then 0 else if a < b then -1 else 1)) ∧ Below w.heap.size w w' := by
  have hl : num_Money_less.f (hiM a) (loM a) (mnM a) (hiM b) (loM b) (mnM b) = some (decide (a.natAbs < b.natAbs)) := lessThan _ _ _ _
  have e : (if a = b then 0 else if a < b then -1 else 1 : Int) = cmpR (hiM a) (loM a) (hiM b) (loM b) (mnM a) (mnM b) (decide (a.natAbs < b.natAbs)) := by
    unfold Small at ha hb
    unfold cmpR
    by_cases c : a = b
    · subst c
      rw [if_pos rfl, if_pos ⟨rfl, rfl, rfl⟩]
    · have hne : ¬ (hiM a = hiM b ∧ loM a = loM b ∧ mnM a = mnM b) := by
        unfold hiM loM mnM
        intro ⟨h1, h2, h3⟩
        have h4 := decide_eq_decide.mp h3
        omega
      rw [if_neg c, if_neg hne]
      · unfold mnM
        by_cases sa : a < 0
        · by_cases sb : b < 0
          · rw [decide_eq_true sa, decide_eq_true sb]
            by_cases g : a.natAbs < b.natAbs
            · rw [decide_eq_true g, if_neg (by omega)]; rfl
            · rw [decide_eq_false g, if_pos (by omega)]; rfl
          · rw [decide_eq_true sa, decide_eq_false sb, if_pos (by omega)]; rfl
        · by_cases sb : b < 0
          · rw [decide_eq_false sa, decide_eq_true sb, if_neg (by omega)]; rfl
          · rw [decide_eq_false sa, decide_eq_false sb]
            by_cases g : a.natAbs < b.natAbs
            · rw [decide_eq_true g, if_pos (by omega)]; rfl
            · rw [decide_eq_false g, if_neg (by omega)]; rfl
  rw [e]
  unfold M
  by_cases c : hiM a = hiM b
  · by_cases d : loM a = loM b
    · exact comp_eq _ _ _ _ c d _ _ _ hl w
    · exact comp_lo _ _ _ _ c d _ _ _ hl w
  · exact comp_hi _ _ _ _ c _ _ _ hl w
end Go.Proofs.Ythmjmkbahneneaa.PMon
end
