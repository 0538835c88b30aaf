/- The document's set with a tick, and without one: walked. -/
import Derived.Test.YtgcelkndgjjbdaaDoorBmT
import Derived.Test.YtgcelkndgjjbdaaDoorBmI
import Derived.IntWalk
namespace Go.Proofs.YtgcelkndgjjbdaaDoor.PBm
open Go.RowKit Go.Proofs.YtgcelkndgjjbdaaDoorW.PrintWords Go.Proofs.YtgcelkndgjjbdaaDoorW.PrintLast Go.Proofs.YtgcelkndgjjbdaaDoorW.PrintMore
set_option linter.unusedVariables false
set_option linter.unusedSimpArgs false

theorem Li.nil (w : World) (B : Nat) : Li w B (.slice none 0 0) [] := by
  refine ⟨fun k hk => hk, [], ?_, ?_⟩
  · exact World.ownsRow_nil w B 3 kI.sz
  · exact ⟨rfl, fun j p hj => by simp at hj⟩

theorem Li.of_empty {W : World} {B g : Nat} (h : W.heap[g]? = some (.cells #[] 3 (0, 0))) (hB : B ≤ g) : Li W B (.slice (some ⟨g, 0, none⟩) 0 0) [] :=
  ⟨fun k hk => hk, [], ⟨rfl, .inr ⟨g, 0, #[], rfl, hB, h, Nat.le_refl _, Nat.zero_le _, rfl, rfl⟩⟩, ⟨rfl, fun j p hj => by simp at hj⟩⟩
theorem row_one {W : World} {g : Nat} {n : Int} (h : W.heap[g]? = some (.cells #[.int .i64 n] 3 (0, 0))) : ReadsRow (fun (x : Int) cs => cs = [.int .i64 x]) 1 W (some ⟨g, 0, none⟩) 1 [n] := by
  refine ⟨rfl, by decide, fun _ => ⟨_, rfl, fun j p hj => ?_⟩⟩
  match j, hj with
  | 0, hj =>
    obtain rfl : n = p := by simpa using hj
    refine ⟨_, rfl, rfl, fun i u hu => ?_⟩
    match i, hu with
    | 0, hu =>
      obtain rfl : Value.int .i64 n = u := by simpa using hu
      exact (blk_cell h 0).trans rfl
  | j + 1, hj => simp at hj
/-- A later world, in which all that was there is as it was. -/
structure Wk (W0 : World) (B : Nat) (W : World) : Prop where
  sz : W0.heap.size ≤ W.heap.size
  old : ∀ b, b < W0.heap.size → W.heap[b]? = W0.heap[b]?
  bel : Below B W0 W
namespace Wk
variable {W0 W W2 : World} {B : Nat}
theorem refl (W0 : World) (B : Nat) : Wk W0 B W0 := ⟨Nat.le_refl _, fun _ _ => rfl, Below.refl _ _⟩
theorem drew (h : Wk W0 B W) : Wk W0 B W.drew := ⟨h.sz, h.old, h.bel.drew⟩
theorem alloc (h : Wk W0 B W) (hB : B ≤ W0.heap.size) (o : Obj) : Wk W0 B (W.alloc o) :=
  ⟨Nat.le_trans h.sz (by rw [World.size_alloc]; omega), fun b hb => (Below.heap_alloc _ _ _ (Nat.lt_of_lt_of_le hb h.sz)).trans (h.old b hb), h.bel.alloc (Nat.le_trans hB h.sz) o⟩
theorem grown {row : Option Nat} (h : Wk W0 B W) (k : W.grownBy W2 row) (b : Below B W W2) (hr : ∀ i, row = some i → W0.heap.size ≤ i) : Wk W0 B W2 :=
  ⟨Nat.le_trans h.sz b.size, fun i hi => (k.block i (Nat.lt_of_lt_of_le hi h.sz) (fun e => by have := hr i e.symm; omega)).trans (h.old i hi), h.bel.trans b⟩
theorem li {v : Value} {L : List Int} {B' : Nat} (h : Wk W0 B W) (hl : Li W0 B' v L) : Li W B' v L := hl.keep fun i _ _ hi => h.old i hi
end Wk
/-- append of a part, as a step of a region that draws (a named type of lists). -/
theorem Li.append_set {ops : Array Oper} {o : Oper} {a : Act} {Q : Exit → Act → World → Prop} {Kc : Act → World → Prop} {W0 Wx : World} {B : Nat} {v : Value} {xs ys : List Int} {A : Option Addr} {m c : Nat}
    (hw : Region.wanted o (yielded ops a.tmps) = true) (s x : Operand) (ho : o.op = .call { callee := .builtin .append, args := #[s, x], argTypes := #[38, 38] }) (hs : a.eval s = v) (hx : a.eval x = .slice A m c)
    (HO : Li Wx B v xs) (HR : ReadsRow (fun (x : Int) cs => cs = [.int .i64 x]) 1 Wx A m ys) (HW : Wk W0 B Wx) (hV : ∀ i, v.ownBlock = some i → W0.heap.size ≤ i) (hbase : B ≤ W0.heap.size) (hl : xs.length + m ≤ 17592186044416)
    (h : ∀ v1 w1, Li w1 B v1 (xs ++ ys) → Wk W0 B w1 → (∀ i, v1.ownBlock = some i → W0.heap.size ≤ i) → (∀ i, i < Wx.heap.size → v.ownBlock ≠ some i → w1.heap[i]? = Wx.heap[i]?) → Kc (a.put o.dst v1) w1) :
    if Region.wanted o (yielded ops a.tmps) = true then Oper.wp Tryd.prog o a Wx Kc Q else Kc (a.put o.dst undef) Wx := by
  refine Kd.R_append_rows_step kI (w0 := Wx) B hw s x 38 3 _ 8 ho Tryd.underlying38 infoI rfl (by decide) (by decide) v xs ys A m c (fun k => B ≤ k) (fun _ => False) hs hx
    (Kd.R_mono HO (fun k hk => Kd.R_base HO k hk)) HR (fun y cs hy => hy) (fun _ hk => hk.elim) (fun k hk => by have := HW.sz; omega) (Below.refl _ _) (Nat.le_trans hbase HW.sz) (by omega) ?_
  intro v1 w1 h1 h2 h3 h4
  refine h v1 w1 (tight h1) (HW.grown h3 h2 hV) (fun i hi => ?_) (fun i hi hne => h3.block i hi hne.symm)
  rcases h4 with e | ⟨b, e, hb⟩
  · exact hV i (by rw [← e]; exact hi)
  · rw [e] at hi
    injection hi with hi
    have := HW.sz
    omega
theorem part_at {W : World} {B m c : Nat} {A : Option Addr} {l : List Int} (h : Li W B (.slice A m c) l) (hm : m = l.length) (hm2 : m ≤ 262144) (i k : Nat) (hik : i + k ≤ m) (A' : Option Addr) (hA : 0 < k → ∃ c0, A = some ⟨c0, 0, none⟩ ∧ A' = some ⟨c0, i, none⟩) :
    ReadsRow (fun (x : Int) cs => cs = [.int .i64 x]) 1 W A' k ((l.drop i).take k) := by
  by_cases hk : 0 < k
  · obtain ⟨c0, rfl, rfl⟩ := hA hk
    exact h.part (c := c0) (cap := c) (by rw [hm]) i k (by omega) (by omega) _ (fun _ => rfl)
  · obtain rfl : k = 0 := by omega
    exact ⟨by simp, by decide, fun h0 => by omega⟩

theorem place_calls {w : World} {B : Nat} {A : Option Addr} {m c : Nat} {l : List Int} {S : St} (h : Li w B (.slice A m c) l) (hr : Rep l S) (n : Int) (hm : m = l.length) :
    ∃ pre suf, l = pre ++ suf ∧ (∀ y ∈ pre, y < n) ∧ (∀ y ∈ suf, hasB S n = false → n < y) ∧ (hasB S n = true → ∃ t, suf = n :: t) ∧
      ∀ W, Li W B (.slice A m c) l → Calls Tryd.prog 34 #[.slice A m c, .int .i64 n] W fun e w' => e = .returned (.tuple #[.int .i64 (pre.length : Int), .bool (hasB S n)]) ∧ ∃ k, w' = W.drewN k := by
  obtain ⟨pre, suf, e, h1, h2, h3, h4⟩ := place_ev hr n
  refine ⟨pre, suf, e, h1, h2, h3, fun W hW => ?_⟩
  obtain ⟨k, hk⟩ := h4.rounds
  obtain ⟨q1, q2, q3⟩ := Kd.R_reads' hW
  subst hm
  refine (bourseref06_Set_place.calls k A c l n _ _ W q3 q2 hk).mono ?_
  rintro e w' ⟨he, ⟨hd⟩⟩
  exact ⟨he, hd⟩

/-- What a set is handed back as. -/
def SetP (B : Nat) (w : World) (b : Bool) (T : St) (e : Ending) (w' : World) : Prop := ∃ v' l', e = .returned (.tuple #[v', .bool b]) ∧ Li w' B v' l' ∧ Rep l' T ∧ Below B w w' ∧ Below w.heap.size w w'

set_option maxHeartbeats 16000000 in
set_option maxRecDepth 100000 in
theorem with_calls {w : World} {B : Nat} {v : Value} {l : List Int} {S : St} (h : Li w B v l) (hr : Rep l S) (hB : B ≤ w.heap.size) (n : Int) :
    Calls Tryd.prog 14 #[v, .int .i64 n] w (SetP B w (tickB n && !hasB S n) (put S n)) := by
  obtain ⟨A, c, rfl⟩ := h.form
  obtain ⟨m, hm⟩ : ∃ m, m = l.length := ⟨_, rfl⟩
  rw [← hm] at h ⊢
  obtain ⟨pre, suf, hl, hp, hs, hf, HP⟩ := place_calls h hr n hm
  have HPL := Aside0.mk HP
  have HL := Aside0.mk h
  have HR := Aside0.mk hr
  clear HP h hr
  cases hb : hasB S n with
  | true =>
    have e2 : Aside0 (Rep l (put S n)) := ⟨by
      have ht : tickB n = true := by unfold hasB at hb; exact (Bool.and_eq_true _ _ ▸ hb).1
      unfold put
      rw [if_pos ht]
      exact HR.out.ext fun t _ => (up_same (by unfold hasB at hb; exact (Bool.and_eq_true _ _ ▸ hb).2) t).symm⟩
    rw [hb] at HPL
    rw [show (tickB n && !true) = false from by simp]
    clear hm hl hp hs hf hb HR
    go_enter Tryd.func14, Tryd.ntmps14
    go_wp2_with (first
      | ((with_reducible refine gate_callee (f := 34) rfl ?_); (try (refine gate_guard (by rfl) ?_; dsimp only)); refine goesL_ (some 11) rfl rfl Tryd.func34 (by kernel_rfl) rfl #[.slice A m c, .int .i64 n] rfl (by (try simp only [List.map_toArray, List.map_cons, List.map_nil]); first | done | rfl) ?_; (with_reducible refine (HPL.out _ HL.out).mono ?_); rintro e w1 ⟨rfl, k, rfl⟩; refine ⟨_, rfl, ?_⟩; skip))
    go_ret2
    exact ⟨_, l, rfl, HL.out.keep (fun _ _ _ _ => rfl), e2.out, pw_below_drewN (Below.refl _ _) k, pw_below_drewN (Below.refl _ _) k⟩
  | false =>
    rw [hb] at HPL
    by_cases ht : tickB n = true
    · have e2 : Aside0 (Rep (pre ++ n :: suf) (put S n)) := ⟨by
        unfold put
        rw [if_pos ht]
        have := HR.out
        rw [hl] at this
        exact this.put hp (fun y hy => hs y hy hb) ht⟩
      rw [ht, show (true && !false) = true from rfl]
      obtain ⟨i, hi⟩ : ∃ i, i = pre.length := ⟨_, rfl⟩
      rw [← hi] at HPL
      have him : i ≤ m := by rw [hm, hl, hi, List.length_append]; omega
      have hm2 : m ≤ 262144 := by rw [hm]; exact HR.out.le
      have h1 : ¬ n < 0 := by have := of_decide_eq_true ht; omega
      have h2 : ¬ n ≥ 262144 := by have := of_decide_eq_true ht; omega
      have h2' : n < 262144 := by omega
      have d1 : decide (n < 0) = false := decide_eq_false h1
      have d2 : decide (262144 ≤ n) = false := decide_eq_false (by omega)
      have HM := Aside0.mk hm
      have HI := Aside0.mk hi
      have HLL := Aside0.mk hl
      clear hm hl hp hs hf hb HR hi ht
      go_enter Tryd.func14, Tryd.ntmps14
      go_upto_region 4 with (first
        | ((with_reducible refine gate_callee (f := 34) rfl ?_); (try (refine gate_guard (by rfl) ?_; dsimp only)); refine goesL_ (some 11) rfl rfl Tryd.func34 (by kernel_rfl) rfl #[.slice A m c, .int .i64 n] rfl (by (try simp only [List.map_toArray, List.map_cons, List.map_nil]); first | done | rfl) ?_; (with_reducible refine (HPL.out _ HL.out).mono ?_); rintro e w1 ⟨rfl, k, rfl⟩; refine ⟨_, rfl, ?_⟩; skip))
      obtain ⟨W0, hW0⟩ : ∃ W0, W0 = w.drewN k := ⟨_, rfl⟩
      rw [← hW0]
      have HL0 : Aside0 (Li W0 B (.slice A m c) l) := ⟨by rw [hW0]; exact HL.out.keep (fun _ _ _ _ => rfl)⟩
      have HB0 : Aside0 (Below B w W0) := ⟨by rw [hW0]; exact pw_below_drewN (Below.refl _ _) k⟩
      have HBW : Aside0 (∀ W2, Wk W0 B W2 → Below w.heap.size w W2) := ⟨fun W2 h2 => by rw [hW0] at h2; exact ⟨h2.bel.os, h2.bel.tape, h2.bel.output, h2.sz, fun k hk => h2.old k hk⟩⟩
      have HBs : Aside0 (B ≤ W0.heap.size) := ⟨Nat.le_trans hB (by rw [hW0]; exact Nat.le_refl _)⟩
      clear hW0 HL HPL hB
      have hmc : m ≤ c := HL0.out.cap
      have hi1 : (i : Int) ≤ (c : Int) := by omega
      have hi2 : (i : Int) ≤ (m : Int) := by omega
      have hi3 : (m : Int) ≤ (c : Int) := by omega
      have hi0 : (0 : Int) ≤ (i : Int) := by omega
      have hit : ((i : Int)).toNat = i := Int.toNat_natCast i
      have HT : Aside0 ((l.drop 0).take i = pre ∧ (l.drop i).take (m - i) = suf) := ⟨by
        refine ⟨by rw [List.drop_zero, HLL.out, HI.out, List.take_left], ?_⟩
        rw [List.take_of_length_le (by rw [List.length_drop, HM.out]; omega), HLL.out, HI.out, List.drop_left]⟩
      have HN2 : Aside0 (m ≤ 262144 ∧ i ≤ m) := ⟨hm2, him⟩
      have HCI : Aside0 (m ≤ c) := ⟨hmc⟩
      clear hm2 him hmc
      have hform : (A = none ∧ m = 0 ∧ c = 0) ∨ ∃ c0, A = some ⟨c0, 0, none⟩ := by
        obtain ⟨inner, _, ho⟩ := Kd.R_own HL0.out
        rcases ho with ⟨h1, _⟩ | ⟨g, cap, cur, h1, _⟩
        · injection h1 with h1 h2 h3
          exact .inl ⟨h1, h2, h3⟩
        · injection h1 with h1 _ _
          exact .inr ⟨g, h1⟩
      have s1 : (W0.alloc (.cells #[] 3)).heap.size = W0.heap.size + 1 := World.size_alloc _ _
      have s2 : (W0.alloc (.cells #[.int .i64 n] 3)).heap.size = W0.heap.size + 1 := World.size_alloc _ _
      have FC : Aside0 (Wk W0 B (W0.alloc (.cells #[] 3)).drew ∧ (W0.alloc (.cells #[] 3)).drew.heap[W0.heap.size]? = some (.cells #[] 3 (0, 0))) := ⟨((Wk.refl W0 B).alloc HBs.out _).drew, heap_alloc_new W0 _⟩
      have FA : Aside0 (Wk W0 B ((W0.alloc (.cells #[] 3)).alloc (.cells #[.int .i64 n] 3)).drew ∧ ((W0.alloc (.cells #[] 3)).alloc (.cells #[.int .i64 n] 3)).drew.heap[W0.heap.size]? = some (.cells #[] 3 (0, 0)) ∧ ((W0.alloc (.cells #[] 3)).alloc (.cells #[.int .i64 n] 3)).drew.heap[W0.heap.size + 1]? = some (.cells #[.int .i64 n] 3 (0, 0)) ∧ W0.heap.size + 1 < ((W0.alloc (.cells #[] 3)).alloc (.cells #[.int .i64 n] 3)).drew.heap.size) := ⟨(((Wk.refl W0 B).alloc HBs.out _).alloc HBs.out _).drew, (Below.heap_alloc _ _ _ (by rw [s1]; omega)).trans (heap_alloc_new W0 _), by have := heap_alloc_new (W0.alloc (.cells #[] 3)) (.cells #[.int .i64 n] 3); rw [s1] at this; exact this, by show W0.heap.size + 1 < ((W0.alloc (.cells #[] 3)).alloc _).heap.size; rw [World.size_alloc, s1]; omega⟩
      have FB : Aside0 (Wk W0 B ((W0.alloc (.cells #[.int .i64 n] 3)).alloc (.cells #[] 3)).drew ∧ ((W0.alloc (.cells #[.int .i64 n] 3)).alloc (.cells #[] 3)).drew.heap[W0.heap.size]? = some (.cells #[.int .i64 n] 3 (0, 0)) ∧ ((W0.alloc (.cells #[.int .i64 n] 3)).alloc (.cells #[] 3)).drew.heap[W0.heap.size + 1]? = some (.cells #[] 3 (0, 0)) ∧ W0.heap.size + 1 < ((W0.alloc (.cells #[.int .i64 n] 3)).alloc (.cells #[] 3)).drew.heap.size) := ⟨(((Wk.refl W0 B).alloc HBs.out _).alloc HBs.out _).drew, (Below.heap_alloc _ _ _ (by rw [s2]; omega)).trans (heap_alloc_new W0 _), by have := heap_alloc_new (W0.alloc (.cells #[.int .i64 n] 3)) (.cells #[] 3); rw [s2] at this; exact this, by show W0.heap.size + 1 < ((W0.alloc (.cells #[.int .i64 n] 3)).alloc _).heap.size; rw [World.size_alloc, s2]; omega⟩
      have HX1 : Aside0 (([] : List Int).length + i ≤ 17592186044416) := ⟨by have := HN2.out; simp only [List.length_nil]; omega⟩
      have HX2 : Aside0 (([] ++ pre).length + 1 ≤ 17592186044416) := ⟨by have := HN2.out; rw [List.nil_append, ← HI.out]; omega⟩
      have HX3 : Aside0 ((([] ++ pre) ++ [n]).length + (m - i) ≤ 17592186044416) := ⟨by have := HN2.out; rw [List.nil_append, List.length_append, ← HI.out, List.length_singleton]; omega⟩
      have HV0 : Aside0 (∀ g, W0.heap.size ≤ g → ∀ j, (Value.slice (some ⟨g, 0, none⟩) 0 0).ownBlock = some j → W0.heap.size ≤ j) := ⟨fun g hg j hj => by simp only [Value.ownBlock, Option.some.injEq] at hj; omega⟩
      clear s1 s2
      rcases hform with ⟨rfl, rfl, rfl⟩ | ⟨c0, rfl⟩
      · obtain rfl : i = 0 := by have := HN2.out.2; omega
        have HA3 : Aside0 (0 < 0 → ∃ c1, (none : Option Addr) = some ⟨c1, 0, none⟩ ∧ (none : Option Addr) = some ⟨c1, 0, none⟩) := ⟨fun h => absurd h (Nat.lt_irrefl 0)⟩
        have HA1 := HA3
        go_region_law (first
          | (apply Li.append_set (W0 := W0) (v := .slice (some ⟨W0.heap.size, 0, none⟩) 0 0) (xs := []) (A := none) (m := 0) (c := 0) (s := .tmp 24) (x := .tmp 27) (HW := FC.out.1) (HO := Li.of_empty FC.out.2 HBs.out) (HR := by rw [← HT.out.1]; exact part_at (FC.out.1.li HL0.out) HM.out HN2.out.1 0 0 (by have := HN2.out.2; omega) _ HA1.out) (hV := HV0.out _ (Nat.le_refl _)) (hbase := HBs.out) (hl := HX1.out) (ys := pre); (case hw => simp [Region.wanted]); (case ho => rfl); (case hs => simp [Act.eval, Act.put]); (case hx => simp [Act.eval, Act.put]; done); intro v1 w3 m1 m2 m3 m4; have M1 := Aside0.mk m1; have M2 := Aside0.mk m2; have M3 := Aside0.mk m3; have M4 : Aside0 (Wk W0 B (w3.alloc (.cells #[.int .i64 n] 3)) ∧ Li (w3.alloc (.cells #[.int .i64 n] 3)) B v1 ([] ++ pre) ∧ (w3.alloc (.cells #[.int .i64 n] 3)).heap[w3.heap.size]? = some (.cells #[.int .i64 n] 3 (0, 0))) := ⟨m2.alloc HBs.out _, m1.keep (fun _ _ _ hl => Below.heap_alloc _ _ _ hl), heap_alloc_new w3 _⟩; clear m1 m2 m3 m4)
          | (apply Li.append_set (W0 := W0) (v := .slice (some ⟨W0.heap.size, 0, none⟩) 0 0) (xs := []) (A := none) (m := 0) (c := 0) (s := .tmp 24) (x := .tmp 27) (HW := FA.out.1) (HO := Li.of_empty FA.out.2.1 HBs.out) (HR := by rw [← HT.out.1]; exact part_at (FA.out.1.li HL0.out) HM.out HN2.out.1 0 0 (by have := HN2.out.2; omega) _ HA1.out) (hV := HV0.out _ (Nat.le_refl _)) (hbase := HBs.out) (hl := HX1.out) (ys := pre); (case hw => simp [Region.wanted]); (case ho => rfl); (case hs => simp [Act.eval, Act.put]); (case hx => simp [Act.eval, Act.put]; done); intro v1 w3 m1 m2 m3 m4; have M1 := Aside0.mk m1; have M2 := Aside0.mk m2; have M3 := Aside0.mk m3; have M5 : Aside0 (w3.heap[W0.heap.size + 1]? = some (.cells #[.int .i64 n] 3 (0, 0))) := ⟨(m4 _ FA.out.2.2.2 (by simp [Value.ownBlock])).trans FA.out.2.2.1⟩; clear m1 m2 m3 m4)
          | (apply Li.append_set (W0 := W0) (v := .slice (some ⟨W0.heap.size + 1, 0, none⟩) 0 0) (xs := []) (A := none) (m := 0) (c := 0) (s := .tmp 24) (x := .tmp 27) (HW := FB.out.1) (HO := Li.of_empty FB.out.2.2.1 (Nat.le_succ_of_le HBs.out)) (HR := by rw [← HT.out.1]; exact part_at (FB.out.1.li HL0.out) HM.out HN2.out.1 0 0 (by have := HN2.out.2; omega) _ HA1.out) (hV := HV0.out _ (Nat.le_succ _)) (hbase := HBs.out) (hl := HX1.out) (ys := pre); (case hw => simp [Region.wanted]); (case ho => rfl); (case hs => simp [Act.eval, Act.put]); (case hx => simp [Act.eval, Act.put]; done); intro v1 w3 m1 m2 m3 m4; have M1 := Aside0.mk m1; have M2 := Aside0.mk m2; have M3 := Aside0.mk m3; have M5 : Aside0 (w3.heap[W0.heap.size]? = some (.cells #[.int .i64 n] 3 (0, 0))) := ⟨(m4 _ (Nat.lt_of_succ_lt FB.out.2.2.2) (by simp [Value.ownBlock])).trans FB.out.2.1⟩; clear m1 m2 m3 m4)
          | (apply Li.append_set (W0 := W0) (v := v1) (xs := [] ++ pre) (m := 1) (c := 1) (s := .tmp 28) (x := .tmp 30) (HW := M4.out.1) (HO := M4.out.2.1) (HR := row_one M4.out.2.2) (hV := M3.out) (hbase := HBs.out) (hl := HX2.out) (ys := [n]); (case hw => simp [Region.wanted]); (case ho => rfl); (case hs => simp [Act.eval, Act.put]); (case hx => simp [Act.eval, Act.put]; done); intro v2 w4 m1 m2 m3 m4; have M6 := Aside0.mk m1; have M7 := Aside0.mk m2; have M8 := Aside0.mk m3; clear m1 m2 m3 m4)
          | (apply Li.append_set (W0 := W0) (v := v1) (xs := [] ++ pre) (m := 1) (c := 1) (s := .tmp 28) (x := .tmp 30) (HW := M2.out) (HO := M1.out) (HR := row_one M5.out) (hV := M3.out) (hbase := HBs.out) (hl := HX2.out) (ys := [n]); (case hw => simp [Region.wanted]); (case ho => rfl); (case hs => simp [Act.eval, Act.put]); (case hx => simp [Act.eval, Act.put]; done); intro v2 w4 m1 m2 m3 m4; have M6 := Aside0.mk m1; have M7 := Aside0.mk m2; have M8 := Aside0.mk m3; clear m1 m2 m3 m4)
          | (apply Li.append_set (W0 := W0) (v := v2) (xs := ([] ++ pre) ++ [n]) (A := none) (m := 0) (c := 0) (s := .tmp 31) (x := .tmp 34) (HW := M7.out) (HO := M6.out) (HR := by rw [← HT.out.2]; exact part_at (M7.out.li HL0.out) HM.out HN2.out.1 0 0 (by have := HN2.out.2; omega) _ HA3.out) (hV := M8.out) (hbase := HBs.out) (hl := HX3.out) (ys := suf); (case hw => simp [Region.wanted]); (case ho => rfl); (case hs => simp [Act.eval, Act.put]); (case hx => simp [Act.eval, Act.put]; done); intro v3 w5 m1 m2 m3 m4; have M9 := Aside0.mk m1; have M10 := Aside0.mk m2; clear m1 m2 m3 m4))
        all_goals go_wp2
        all_goals go_ret2
        all_goals
          exact ⟨v3, pre ++ n :: suf, rfl, by have := M9.out; rw [List.nil_append, List.append_assoc, List.singleton_append] at this; exact this, e2.out, HB0.out.trans M10.out.bel, HBW.out _ M10.out⟩
      · have HA3 : Aside0 (0 < m - i → ∃ c1, some (⟨c0, 0, none⟩ : Addr) = some ⟨c1, 0, none⟩ ∧ (if c = i then some (⟨c0, 0, none⟩ : Addr) else some ⟨c0, i, none⟩) = some ⟨c1, i, none⟩) := ⟨fun h => ⟨c0, rfl, if_neg (by have := HCI.out; omega)⟩⟩
        have HA1 : Aside0 (0 < i → ∃ c1, some (⟨c0, 0, none⟩ : Addr) = some ⟨c1, 0, none⟩ ∧ some (⟨c0, 0, none⟩ : Addr) = some ⟨c1, 0, none⟩) := ⟨fun h => ⟨c0, rfl, rfl⟩⟩
        go_region_law (first
          | (apply Li.append_set (W0 := W0) (v := .slice (some ⟨W0.heap.size, 0, none⟩) 0 0) (xs := []) (A := some ⟨c0, 0, none⟩) (m := i) (c := c) (s := .tmp 24) (x := .tmp 27) (HW := FC.out.1) (HO := Li.of_empty FC.out.2 HBs.out) (HR := by rw [← HT.out.1]; exact part_at (FC.out.1.li HL0.out) HM.out HN2.out.1 0 i (by have := HN2.out.2; omega) _ HA1.out) (hV := HV0.out _ (Nat.le_refl _)) (hbase := HBs.out) (hl := HX1.out) (ys := pre); (case hw => simp [Region.wanted]); (case ho => rfl); (case hs => simp [Act.eval, Act.put]); (case hx => simp [Act.eval, Act.put]; done); intro v1 w3 m1 m2 m3 m4; have M1 := Aside0.mk m1; have M2 := Aside0.mk m2; have M3 := Aside0.mk m3; have M4 : Aside0 (Wk W0 B (w3.alloc (.cells #[.int .i64 n] 3)) ∧ Li (w3.alloc (.cells #[.int .i64 n] 3)) B v1 ([] ++ pre) ∧ (w3.alloc (.cells #[.int .i64 n] 3)).heap[w3.heap.size]? = some (.cells #[.int .i64 n] 3 (0, 0))) := ⟨m2.alloc HBs.out _, m1.keep (fun _ _ _ hl => Below.heap_alloc _ _ _ hl), heap_alloc_new w3 _⟩; clear m1 m2 m3 m4)
          | (apply Li.append_set (W0 := W0) (v := .slice (some ⟨W0.heap.size, 0, none⟩) 0 0) (xs := []) (A := some ⟨c0, 0, none⟩) (m := i) (c := c) (s := .tmp 24) (x := .tmp 27) (HW := FA.out.1) (HO := Li.of_empty FA.out.2.1 HBs.out) (HR := by rw [← HT.out.1]; exact part_at (FA.out.1.li HL0.out) HM.out HN2.out.1 0 i (by have := HN2.out.2; omega) _ HA1.out) (hV := HV0.out _ (Nat.le_refl _)) (hbase := HBs.out) (hl := HX1.out) (ys := pre); (case hw => simp [Region.wanted]); (case ho => rfl); (case hs => simp [Act.eval, Act.put]); (case hx => simp [Act.eval, Act.put]; done); intro v1 w3 m1 m2 m3 m4; have M1 := Aside0.mk m1; have M2 := Aside0.mk m2; have M3 := Aside0.mk m3; have M5 : Aside0 (w3.heap[W0.heap.size + 1]? = some (.cells #[.int .i64 n] 3 (0, 0))) := ⟨(m4 _ FA.out.2.2.2 (by simp [Value.ownBlock])).trans FA.out.2.2.1⟩; clear m1 m2 m3 m4)
          | (apply Li.append_set (W0 := W0) (v := .slice (some ⟨W0.heap.size + 1, 0, none⟩) 0 0) (xs := []) (A := some ⟨c0, 0, none⟩) (m := i) (c := c) (s := .tmp 24) (x := .tmp 27) (HW := FB.out.1) (HO := Li.of_empty FB.out.2.2.1 (Nat.le_succ_of_le HBs.out)) (HR := by rw [← HT.out.1]; exact part_at (FB.out.1.li HL0.out) HM.out HN2.out.1 0 i (by have := HN2.out.2; omega) _ HA1.out) (hV := HV0.out _ (Nat.le_succ _)) (hbase := HBs.out) (hl := HX1.out) (ys := pre); (case hw => simp [Region.wanted]); (case ho => rfl); (case hs => simp [Act.eval, Act.put]); (case hx => simp [Act.eval, Act.put]; done); intro v1 w3 m1 m2 m3 m4; have M1 := Aside0.mk m1; have M2 := Aside0.mk m2; have M3 := Aside0.mk m3; have M5 : Aside0 (w3.heap[W0.heap.size]? = some (.cells #[.int .i64 n] 3 (0, 0))) := ⟨(m4 _ (Nat.lt_of_succ_lt FB.out.2.2.2) (by simp [Value.ownBlock])).trans FB.out.2.1⟩; clear m1 m2 m3 m4)
          | (apply Li.append_set (W0 := W0) (v := v1) (xs := [] ++ pre) (m := 1) (c := 1) (s := .tmp 28) (x := .tmp 30) (HW := M4.out.1) (HO := M4.out.2.1) (HR := row_one M4.out.2.2) (hV := M3.out) (hbase := HBs.out) (hl := HX2.out) (ys := [n]); (case hw => simp [Region.wanted]); (case ho => rfl); (case hs => simp [Act.eval, Act.put]); (case hx => simp [Act.eval, Act.put]; done); intro v2 w4 m1 m2 m3 m4; have M6 := Aside0.mk m1; have M7 := Aside0.mk m2; have M8 := Aside0.mk m3; clear m1 m2 m3 m4)
          | (apply Li.append_set (W0 := W0) (v := v1) (xs := [] ++ pre) (m := 1) (c := 1) (s := .tmp 28) (x := .tmp 30) (HW := M2.out) (HO := M1.out) (HR := row_one M5.out) (hV := M3.out) (hbase := HBs.out) (hl := HX2.out) (ys := [n]); (case hw => simp [Region.wanted]); (case ho => rfl); (case hs => simp [Act.eval, Act.put]); (case hx => simp [Act.eval, Act.put]; done); intro v2 w4 m1 m2 m3 m4; have M6 := Aside0.mk m1; have M7 := Aside0.mk m2; have M8 := Aside0.mk m3; clear m1 m2 m3 m4)
          | (apply Li.append_set (W0 := W0) (v := v2) (xs := ([] ++ pre) ++ [n]) (m := m - i) (c := c - i) (s := .tmp 31) (x := .tmp 34) (HW := M7.out) (HO := M6.out) (HR := by rw [← HT.out.2]; exact part_at (M7.out.li HL0.out) HM.out HN2.out.1 i (m - i) (by have := HN2.out.2; omega) _ HA3.out) (hV := M8.out) (hbase := HBs.out) (hl := HX3.out) (ys := suf); (case hw => simp [Region.wanted]); (case ho => rfl); (case hs => simp [Act.eval, Act.put]); (case hx => simp [Act.eval, Act.put]; done); intro v3 w5 m1 m2 m3 m4; have M9 := Aside0.mk m1; have M10 := Aside0.mk m2; clear m1 m2 m3 m4))
        all_goals go_wp2
        all_goals go_ret2
        all_goals
          exact ⟨v3, pre ++ n :: suf, rfl, by have := M9.out; rw [List.nil_append, List.append_assoc, List.singleton_append] at this; exact this, e2.out, HB0.out.trans M10.out.bel, HBW.out _ M10.out⟩
    · have ht' : tickB n = false := by simpa using ht
      have e2 : Aside0 (Rep l (put S n)) := ⟨by unfold put; rw [if_neg ht]; exact HR.out⟩
      rw [ht', show (false && !false) = false from rfl]
      have hn : n < 0 ∨ 262144 ≤ n := by
        unfold tickB at ht'
        have := of_decide_eq_false ht'
        omega
      clear hm hl hp hs hf hb HR ht ht'
      by_cases h1 : n < 0
      · have d1 : decide (n < 0) = true := decide_eq_true h1
        clear hn
        go_enter Tryd.func14, Tryd.ntmps14
        go_wp2_with (first
          | ((with_reducible refine gate_callee (f := 34) rfl ?_); (try (refine gate_guard (by rfl) ?_; dsimp only)); refine goesL_ (some 11) rfl rfl Tryd.func34 (by kernel_rfl) rfl #[.slice A m c, .int .i64 n] rfl (by (try simp only [List.map_toArray, List.map_cons, List.map_nil]); first | done | rfl) ?_; (with_reducible refine (HPL.out _ HL.out).mono ?_); rintro e w1 ⟨rfl, k, rfl⟩; refine ⟨_, rfl, ?_⟩; skip))
        go_ret2
        exact ⟨_, l, rfl, HL.out.keep (fun _ _ _ _ => rfl), e2.out, pw_below_drewN (Below.refl _ _) k, pw_below_drewN (Below.refl _ _) k⟩
      · have h2 : 262144 ≤ n := by omega
        have d1 : decide (n < 0) = false := decide_eq_false h1
        have d2 : decide (262144 ≤ n) = true := decide_eq_true h2
        clear hn
        go_enter Tryd.func14, Tryd.ntmps14
        go_wp2_with (first
          | ((with_reducible refine gate_callee (f := 34) rfl ?_); (try (refine gate_guard (by rfl) ?_; dsimp only)); refine goesL_ (some 11) rfl rfl Tryd.func34 (by kernel_rfl) rfl #[.slice A m c, .int .i64 n] rfl (by (try simp only [List.map_toArray, List.map_cons, List.map_nil]); first | done | rfl) ?_; (with_reducible refine (HPL.out _ HL.out).mono ?_); rintro e w1 ⟨rfl, k, rfl⟩; refine ⟨_, rfl, ?_⟩; skip))
        go_ret2
        exact ⟨_, l, rfl, HL.out.keep (fun _ _ _ _ => rfl), e2.out, pw_below_drewN (Below.refl _ _) k, pw_below_drewN (Below.refl _ _) k⟩

set_option maxHeartbeats 16000000 in
set_option maxRecDepth 100000 in
theorem without_calls {w : World} {B : Nat} {v : Value} {l : List Int} {S : St} (h : Li w B v l) (hr : Rep l S) (hB : B ≤ w.heap.size) (n : Int) :
    Calls Tryd.prog 19 #[v, .int .i64 n] w (SetP B w (hasB S n) (del S n)) := by
  obtain ⟨A, c, rfl⟩ := h.form
  obtain ⟨m, hm⟩ : ∃ m, m = l.length := ⟨_, rfl⟩
  rw [← hm] at h ⊢
  obtain ⟨pre, suf, hl, hp, hs, hf, HP⟩ := place_calls h hr n hm
  have HPL := Aside0.mk HP
  have HL := Aside0.mk h
  have HR := Aside0.mk hr
  clear HP h hr
  cases hb : hasB S n with
  | false =>
    have e2 : Aside0 (Rep l (del S n)) := ⟨by
      unfold del
      by_cases ht : tickB n = true
      · rw [if_pos ht]
        have hs : S n.toNat = false := by unfold hasB at hb; rw [ht] at hb; simpa using hb
        exact HR.out.ext fun t _ => (up_same hs t).symm
      · rw [if_neg ht]
        exact HR.out⟩
    rw [hb] at HPL
    clear hm hl hp hs hf hb HR
    go_enter Tryd.func19, Tryd.ntmps19
    go_wp2_with (first
      | ((with_reducible refine gate_callee (f := 34) rfl ?_); (try (refine gate_guard (by rfl) ?_; dsimp only)); refine goesL_ (some 11) rfl rfl Tryd.func34 (by kernel_rfl) rfl #[.slice A m c, .int .i64 n] rfl (by (try simp only [List.map_toArray, List.map_cons, List.map_nil]); first | done | rfl) ?_; (with_reducible refine (HPL.out _ HL.out).mono ?_); rintro e w1 ⟨rfl, k, rfl⟩; refine ⟨_, rfl, ?_⟩; skip))
    go_ret2
    exact ⟨_, l, rfl, HL.out.keep (fun _ _ _ _ => rfl), e2.out, pw_below_drewN (Below.refl _ _) k, pw_below_drewN (Below.refl _ _) k⟩
  | true =>
    rw [hb] at HPL
    obtain ⟨t, rfl⟩ := hf hb
    have ht : tickB n = true := by unfold hasB at hb; exact (Bool.and_eq_true _ _ ▸ hb).1
    have e2 : Aside0 (Rep (pre ++ t) (del S n)) := ⟨by
      unfold del
      rw [if_pos ht]
      have := HR.out
      rw [hl] at this
      exact this.del⟩
    obtain ⟨i, hi⟩ : ∃ i, i = pre.length := ⟨_, rfl⟩
    rw [← hi] at HPL
    have him : i + 1 ≤ m := by rw [hm, hl, hi, List.length_append, List.length_cons]; omega
    have hm2 : m ≤ 262144 := by rw [hm]; exact HR.out.le
    have HM := Aside0.mk hm
    have HI := Aside0.mk hi
    have HLL := Aside0.mk hl
    clear hm hl hp hs hf hb HR hi ht
    go_enter Tryd.func19, Tryd.ntmps19
    go_upto_region 4 with (first
      | ((with_reducible refine gate_callee (f := 34) rfl ?_); (try (refine gate_guard (by rfl) ?_; dsimp only)); refine goesL_ (some 11) rfl rfl Tryd.func34 (by kernel_rfl) rfl #[.slice A m c, .int .i64 n] rfl (by (try simp only [List.map_toArray, List.map_cons, List.map_nil]); first | done | rfl) ?_; (with_reducible refine (HPL.out _ HL.out).mono ?_); rintro e w1 ⟨rfl, k, rfl⟩; refine ⟨_, rfl, ?_⟩; skip))
    obtain ⟨W0, hW0⟩ : ∃ W0, W0 = w.drewN k := ⟨_, rfl⟩
    rw [← hW0]
    have HL0 : Aside0 (Li W0 B (.slice A m c) l) := ⟨by rw [hW0]; exact HL.out.keep (fun _ _ _ _ => rfl)⟩
    have HB0 : Aside0 (Below B w W0) := ⟨by rw [hW0]; exact pw_below_drewN (Below.refl _ _) k⟩
    have HBW : Aside0 (∀ W2, Wk W0 B W2 → Below w.heap.size w W2) := ⟨fun W2 h2 => by rw [hW0] at h2; exact ⟨h2.bel.os, h2.bel.tape, h2.bel.output, h2.sz, fun k hk => h2.old k hk⟩⟩
    have HBs : Aside0 (B ≤ W0.heap.size) := ⟨Nat.le_trans hB (by rw [hW0]; exact Nat.le_refl _)⟩
    clear hW0 HL HPL hB
    have hmc : m ≤ c := HL0.out.cap
    have hi1 : (i : Int) ≤ (c : Int) := by omega
    have hi2 : (i : Int) + 1 ≤ (m : Int) := by omega
    have hi3 : (m : Int) ≤ (c : Int) := by omega
    have hi0 : (0 : Int) ≤ (i : Int) := by omega
    have hi5 : (0 : Int) ≤ (i : Int) + 1 := by omega
    have hi4 : (m : Int) ≤ 262144 := by omega
    have wi : IntKind.i64.wrap ((i : Int) + 1) = (i : Int) + 1 := IntWalk.i64_in _ (by omega)
    have hit : ((i : Int)).toNat = i := Int.toNat_natCast i
    have hit2 : ((i : Int) + 1).toNat = i + 1 := by omega
    have HT : Aside0 ((l.drop 0).take i = pre ∧ (l.drop (i + 1)).take (m - (i + 1)) = t) := ⟨by
      refine ⟨by rw [List.drop_zero, HLL.out, HI.out, List.take_left], ?_⟩
      rw [List.take_of_length_le (by rw [List.length_drop, HM.out]; omega), HLL.out, HI.out, ← List.drop_drop, List.drop_left]
      rfl⟩
    have HN2 : Aside0 (m ≤ 262144 ∧ i + 1 ≤ m) := ⟨hm2, him⟩
    have HCI : Aside0 (m ≤ c) := ⟨hmc⟩
    clear hm2 him hmc
    obtain ⟨c0, rfl⟩ : ∃ c0, A = some ⟨c0, 0, none⟩ := by
      obtain ⟨inner, _, ho⟩ := Kd.R_own HL0.out
      rcases ho with ⟨h1, _⟩ | ⟨g, cap, cur, h1, _⟩
      · injection h1 with h1 h2 h3
        have := HN2.out
        omega
      · injection h1 with h1 _ _
        exact ⟨g, h1⟩
    have FC : Aside0 (Wk W0 B (W0.alloc (.cells #[] 3)).drew ∧ (W0.alloc (.cells #[] 3)).drew.heap[W0.heap.size]? = some (.cells #[] 3 (0, 0))) := ⟨((Wk.refl W0 B).alloc HBs.out _).drew, heap_alloc_new W0 _⟩
    have HX1 : Aside0 (([] : List Int).length + i ≤ 17592186044416) := ⟨by have := HN2.out; simp only [List.length_nil]; omega⟩
    have HX3 : Aside0 (([] ++ pre).length + (m - (i + 1)) ≤ 17592186044416) := ⟨by have := HN2.out; rw [List.nil_append, ← HI.out]; omega⟩
    have HV0 : Aside0 (∀ g, W0.heap.size ≤ g → ∀ j, (Value.slice (some ⟨g, 0, none⟩) 0 0).ownBlock = some j → W0.heap.size ≤ j) := ⟨fun g hg j hj => by simp only [Value.ownBlock, Option.some.injEq] at hj; omega⟩
    have HA3 : Aside0 (0 < m - (i + 1) → ∃ c1, some (⟨c0, 0, none⟩ : Addr) = some ⟨c1, 0, none⟩ ∧ (if c = i + 1 then some (⟨c0, 0, none⟩ : Addr) else some ⟨c0, i + 1, none⟩) = some ⟨c1, i + 1, none⟩) := ⟨fun h => ⟨c0, rfl, if_neg (by have := HCI.out; omega)⟩⟩
    have HA1 : Aside0 (0 < i → ∃ c1, some (⟨c0, 0, none⟩ : Addr) = some ⟨c1, 0, none⟩ ∧ some (⟨c0, 0, none⟩ : Addr) = some ⟨c1, 0, none⟩) := ⟨fun h => ⟨c0, rfl, rfl⟩⟩
    go_region_law (first
      | (apply Li.append_set (W0 := W0) (v := .slice (some ⟨W0.heap.size, 0, none⟩) 0 0) (xs := []) (A := some ⟨c0, 0, none⟩) (m := i) (c := c) (s := .tmp 17) (x := .tmp 20) (HW := FC.out.1) (HO := Li.of_empty FC.out.2 HBs.out) (HR := by rw [← HT.out.1]; exact part_at (FC.out.1.li HL0.out) HM.out HN2.out.1 0 i (by have := HN2.out.2; omega) _ HA1.out) (hV := HV0.out _ (Nat.le_refl _)) (hbase := HBs.out) (hl := HX1.out) (ys := pre); (case hw => simp [Region.wanted]); (case ho => rfl); (case hs => simp [Act.eval, Act.put]); (case hx => simp [Act.eval, Act.put]; done); intro v1 w3 m1 m2 m3 m4; have M1 := Aside0.mk m1; have M2 := Aside0.mk m2; have M3 := Aside0.mk m3; clear m1 m2 m3 m4)
      | (apply Li.append_set (W0 := W0) (v := v1) (xs := [] ++ pre) (m := m - (i + 1)) (c := c - (i + 1)) (s := .tmp 21) (x := .tmp 25) (HW := M2.out) (HO := M1.out) (HR := by rw [← HT.out.2]; exact part_at (M2.out.li HL0.out) HM.out HN2.out.1 (i + 1) (m - (i + 1)) (by have := HN2.out.2; omega) _ HA3.out) (hV := M3.out) (hbase := HBs.out) (hl := HX3.out) (ys := t); (case hw => simp [Region.wanted]); (case ho => rfl); (case hs => simp [Act.eval, Act.put]); (case hx => simp [Act.eval, Act.put]; done); intro v3 w5 m1 m2 m3 m4; have M9 := Aside0.mk m1; have M10 := Aside0.mk m2; clear m1 m2 m3 m4))
    all_goals go_wp2
    all_goals go_ret2
    all_goals
      exact ⟨v3, pre ++ t, rfl, by have := M9.out; rw [List.nil_append] at this; exact this, e2.out, HB0.out.trans M10.out.bel, HBW.out _ M10.out⟩
end Go.Proofs.YtgcelkndgjjbdaaDoor.PBm
