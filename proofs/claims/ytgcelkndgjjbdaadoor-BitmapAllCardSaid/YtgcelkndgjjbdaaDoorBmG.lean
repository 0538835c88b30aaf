/- Equal. -/
import Derived.Test.YtgcelkndgjjbdaaDoorBmE
import Derived.Deep.QuietTactic
import Derived.BigQuiet
import Derived.DeepKeys
namespace Go.Proofs.YtgcelkndgjjbdaaDoor.PBm
open Go.RowKit Go.Proofs.YtgcelkndgjjbdaaDoorW.PrintWords Go.Proofs.YtgcelkndgjjbdaaDoorW.PrintLast Go.Proofs.YtgcelkndgjjbdaaDoorW.PrintMore
set_option linter.unusedVariables false
set_option linter.unusedSimpArgs false

theorem mapM_some {α β : Type} {f : α → Option β} {g : α → β} : ∀ l : List α, (∀ x ∈ l, f x = some (g x)) → l.mapM f = some (l.map g)
  | [], _ => rfl
  | x :: l, h => by
    rw [List.mapM_cons, h x (by simp), mapM_some l (fun y hy => h y (by simp [hy]))]
    rfl

theorem flat_one {α : Type} (g : Nat → α) : ∀ l : List Nat, (l.map fun i => [g i]).flatten = l.map g
  | [] => rfl
  | x :: l => by simp [flat_one g l]

theorem cells26 : Tryd.prog.cellsOf 33 = 1 := by kernel_rfl

theorem lit26 (d v : Nat) (hv : v < 18446744073709551616) : Tryd.prog.keyLits (d + 1) 33 [.int .u64 (v : Int)] = some [.int .u64 (v : Int)] := by
  unfold Program.keyLits
  rw [Tryd.underlying33]
  have : (Lit.int .u64 (v : Int)).wf = true := by
    have h0 : IntKind.u64.min = 0 := by decide
    have h1 : IntKind.u64.max = 18446744073709551615 := by decide
    simp only [Lit.wf, h0, h1, Bool.and_eq_true, decide_eq_true_eq]
    omega
  simp [this]

theorem lits_arr (d t n : Nat) (v : Nat → Nat) (hv : ∀ i, v i < 18446744073709551616) (hu : Tryd.prog.underlying t = some (.array n 33)) (hc : Tryd.prog.cellsOf t = n) :
    Tryd.prog.keyLits (d + 2) t ((List.range n).map fun i => .int .u64 (v i : Nat)) = some ((List.range n).map fun i => .int .u64 (v i : Nat)) := by
  rw [show d + 2 = (d + 1) + 1 from rfl]
  unfold Program.keyLits
  rw [hu]
  simp only
  rw [if_pos (by simp [hc])]
  rw [mapM_some (g := fun i => [Lit.int .u64 (v i : Nat)]) _ (fun i hi => by
    have hi' : i < n := List.mem_range.mp hi
    rw [cells26, Nat.mul_one]
    have e : ((((List.range n).map fun i => Value.int .u64 (v i : Nat)).drop i).take 1) = [Value.int .u64 (v i : Nat)] := by
      rw [List.drop_eq_getElem_cons (by simpa using hi')]
      simp
    rw [e]
    exact lit26 d (v i) (hv i))]
  rw [Option.map_some, flat_one]

/-- The cells as literals. -/
def lits (S : St) : List Lit := [.int .u64 (topW S : Nat)] ++ (((List.range 64).map fun i => Lit.int .u64 (midW S i : Nat)) ++ ((List.range 4096).map fun i => Lit.int .u64 (lowW S i : Nat)))

theorem cells_list (S : St) : (cells S).toList = [Value.int .u64 (topW S : Nat)] ++ (((List.range 64).map fun i => Value.int .u64 (midW S i : Nat)) ++ ((List.range 4096).map fun i => Value.int .u64 (lowW S i : Nat))) := by
  apply List.ext_getElem?
  intro k
  rw [Array.getElem?_toList]
  by_cases hk : k < 4161
  · rw [cells_at S k hk]
    unfold cv cw
    by_cases h0 : k = 0
    · subst h0; rfl
    · obtain ⟨j, rfl⟩ : ∃ j, k = j + 1 := ⟨k - 1, by omega⟩
      rw [if_neg h0]
      simp only [List.singleton_append, List.getElem?_cons_succ]
      by_cases h1 : j < 64
      · rw [if_pos (by omega), List.getElem?_append_left (by simpa using h1), List.getElem?_map, List.getElem?_range h1]
        rfl
      · rw [if_neg (by omega), List.getElem?_append_right (by simp; omega), List.getElem?_map]
        simp only [List.length_map, List.length_range]
        rw [List.getElem?_range (by omega)]
        simp only [Option.map_some]
        rw [show j + 1 - 65 = j - 64 by omega]
  · rw [Array.getElem?_eq_none (by rw [cells_size]; omega), List.getElem?_eq_none (by simp; omega)]

theorem cells30 : Tryd.prog.cellsOf 37 = 4161 := by kernel_rfl
theorem cells27 : Tryd.prog.cellsOf 34 = 64 := by kernel_rfl
theorem cells28 : Tryd.prog.cellsOf 35 = 4096 := by kernel_rfl

theorem keyLits_cells (S : St) : Tryd.prog.keyLits 4 37 (cells S).toList = some (lits S) := by
  have hlen : (cells S).toList.length = 4161 := by rw [Array.length_toList, cells_size]
  have hL := cells_list S
  generalize (cells S).toList = L at hlen hL
  rw [show (4 : Nat) = 3 + 1 from rfl]
  unfold Program.keyLits
  rw [Tryd.underlying37]
  simp only
  rw [if_pos ⟨by rw [hlen, cells30], by kernel_rfl⟩]
  have e0 : (L.drop 0).take (Tryd.prog.cellsOf 33) = [Value.int .u64 (topW S : Nat)] := by
    rw [cells26, hL]
    rfl
  have e1 : (L.drop 1).take (Tryd.prog.cellsOf 34) = (List.range 64).map fun i => Value.int .u64 (midW S i : Nat) := by
    rw [cells27, hL, List.singleton_append, List.drop_succ_cons, List.drop_zero, List.take_left' (by simp)]
  have e2 : (L.drop 65).take (Tryd.prog.cellsOf 35) = (List.range 4096).map fun i => Value.int .u64 (lowW S i : Nat) := by
    rw [cells28, hL, List.singleton_append, List.drop_succ_cons, List.drop_left' (by simp), List.take_of_length_le (by simp)]
  simp only [List.mapM_cons, List.mapM_nil, e0, e1, e2]
  rw [lit26 2 _ (topW_lt S), lits_arr 1 34 64 (midW S) (midW_lt S) Tryd.underlying34 cells27, lits_arr 1 35 4096 (lowW S) (lowW_lt S) Tryd.underlying35 cells28]
  simp [lits]

theorem lits_inj {S T : St} : lits S = lits T ↔ ∀ t, t < 262144 → S t = T t := by
  constructor
  · intro h
    unfold lits at h
    obtain ⟨_, h⟩ := List.append_inj h (by simp)
    obtain ⟨_, h⟩ := List.append_inj h (by simp)
    refine low_inj fun i hi => ?_
    have := congrArg (fun l => l[i]?) h
    simp only [List.getElem?_map, List.getElem?_range hi, Option.map_some, Option.some.injEq, Lit.int.injEq, true_and] at this
    omega
  · intro h
    unfold lits
    have h1 : ((List.range 64).map fun i => Lit.int .u64 (midW S i : Nat)) = (List.range 64).map fun i => Lit.int .u64 (midW T i : Nat) :=
      List.map_congr_left fun i hi => by rw [mid_ext h i (List.mem_range.mp hi)]
    have h2 : ((List.range 4096).map fun i => Lit.int .u64 (lowW S i : Nat)) = (List.range 4096).map fun i => Lit.int .u64 (lowW T i : Nat) :=
      List.map_congr_left fun i hi => by rw [low_ext h i (List.mem_range.mp hi)]
    rw [top_ext h, h1, h2]

/-- Are two sets the same? -/
def eqB (S T : St) : Bool := (List.range 262144).all fun t => S t == T t
theorem eqB_iff {S T : St} : eqB S T = true ↔ ∀ t, t < 262144 → S t = T t := by
  unfold eqB
  rw [List.all_eq_true]
  constructor
  · intro h t ht
    simpa using h t (List.mem_range.mpr ht)
  · intro h t ht
    simpa using h t (List.mem_range.mp ht)

theorem eq_run (S T : St) (W : World) : (binOp .eql 37 (.agg (cells S)) (.agg (cells T))).run Tryd.prog W = .ok (.bool (eqB S T)) W := by
  have f30 : ∀ S, (Value.agg (cells S)).formed Tryd.prog 37 = true := fun S => by
    unfold Value.formed
    rw [Tryd.underlying37]
    simp [cells_size, cells30]
  have kS := keyLits_cells S
  have kT := keyLits_cells T
  have fS := f30 S
  have fT := f30 T
  generalize cells S = X at kS fS ⊢
  generalize cells T = Y at kT fT ⊢
  obtain ⟨r, hr, hiff⟩ := run_equalIn_deep (P := Tryd.prog) 9997 3 37 (by kernel_rfl) W 4 4 (.agg X) (.agg Y) (lits S) (lits T) fS fT kS kT
  rw [run_eql_struct]
  have hr' : (Op.equalIn 10000 37 (.agg X) (.agg Y)).run Tryd.prog W = .ok r W := hr
  rw [hr']
  have : r = eqB S T := by
    rw [lits_inj, ← eqB_iff] at hiff
    cases r
    · cases h : eqB S T
      · rfl
      · rw [h] at hiff; simp at hiff
    · exact (hiff.mp rfl).symm
  rw [← this]
  rfl

theorem load30 {W : World} {g : Nat} {S : St} (h : Bm W g S) : (loadVar 37 ⟨g, 0, none⟩).run Tryd.prog W = .ok (.agg (cells S)) W :=
  run_loadVar_row W g 37 37 (cells S) (0, 0) _ h Tryd.underlying37 rfl (by rw [cells_size]; kernel_rfl)

theorem quiet_load30 {o : Oper} {a : Act} {C : World → Prop} {K : Act → Prop} (x : Operand) (ho : o.op = .load 37 x) (g : Nat) (hx : a.eval x = .pointer (some ⟨g, 0, none⟩)) {X : Array Value}
    (hC : ∀ w, C w → (loadVar 37 ⟨g, 0, none⟩).run Tryd.prog w = .ok (.agg X) w) (hk : K (a.put o.dst (.agg X))) : o.quiet Tryd.prog a C K :=
  ⟨.agg X, fun w hw => by
    unfold Oper.quietAt execOp
    simp only [ho, hx, Instr.loadAt, Instr.sureAddr, Sem.run_bind, Sem.run_pure, Result.andThen_ok, hC w hw]
    exact ⟨rfl, rfl⟩, hk⟩

set_option maxHeartbeats 8000000 in
set_option maxRecDepth 100000 in
theorem equal_calls {W : World} {g g2 : Nat} {S T : St} (h : Bm W g S) (h2 : Bm W g2 T) :
    Calls Tryd.prog 22 #[.pointer (some ⟨g, 0, none⟩), .pointer (some ⟨g2, 0, none⟩)] W fun e w' => e = .returned (.bool (eqB S T)) ∧ ∃ m, w' = W.drewN m := by
  have l1 : ∀ w, (∃ n, w = W.drewN n) → (loadVar 37 ⟨g, 0, none⟩).run Tryd.prog w = .ok (.agg (cells S)) w := fun w ⟨n, hn⟩ => by rw [hn]; exact load30 (W := W.drewN n) h
  have l2 : ∀ w, (∃ n, w = W.drewN n) → (loadVar 37 ⟨g2, 0, none⟩).run Tryd.prog w = .ok (.agg (cells T)) w := fun w ⟨n, hn⟩ => by rw [hn]; exact load30 (W := W.drewN n) h2
  have l3 := eq_run S T
  obtain ⟨r, hr⟩ : ∃ r, r = eqB S T := ⟨_, rfl⟩
  obtain ⟨X, hX⟩ : ∃ X, X = cells S := ⟨_, rfl⟩
  obtain ⟨Y, hY⟩ : ∃ X, X = cells T := ⟨_, rfl⟩
  rw [← hX, ← hY, ← hr] at l3
  rw [← hX] at l1
  rw [← hY] at l2
  rw [← hr]
  have L1 := Aside0.mk l1
  have L2 := Aside0.mk l2
  clear hr hX hY h h2 l1 l2
  go_enter Tryd.func22, Tryd.ntmps22
  go_wp2
  refine wp_region_quiet_lit (by kernel_rfl) (by kernel_rfl) ?_
  go_big_quiet_step (fail)
  go_big_quiet_step (fail)
  refine wpQuiet_step (fun K hK => ?_)
  rw [if_pos (by kernel_rfl)]
  refine quiet_load30 (.tmp 6) rfl g rfl L1.out (hK ⟨#[Value.pointer (some { block := g, off := 0 }), Value.pointer (some { block := g2, off := 0 }), undef, undef, Value.bool false, Value.pointer (some { block := g, off := 0 }), Value.pointer (some { block := g, off := 0 }), Value.agg X, undef, undef, undef, undef], []⟩ ?_)
  clear hK K
  go_big_quiet_step (fail)
  go_big_quiet_step (fail)
  refine wpQuiet_step (fun K hK => ?_)
  rw [if_pos (by kernel_rfl)]
  refine quiet_load30 (.tmp 9) rfl g2 rfl L2.out (hK ⟨#[Value.pointer (some { block := g, off := 0 }), Value.pointer (some { block := g2, off := 0 }), undef, undef, Value.bool false, Value.pointer (some { block := g, off := 0 }), Value.pointer (some { block := g, off := 0 }), Value.agg X, Value.pointer (some { block := g2, off := 0 }), Value.pointer (some { block := g2, off := 0 }), Value.agg Y, undef], []⟩ ?_)
  clear hK K
  go_big_quiet_step (fail)
  go_big_quiet_step (fail)
  refine wpQuiet_nil ?_
  rintro _ ⟨nq, rfl⟩
  go_wp2
  go_ret
  exact ⟨rfl, _, rfl⟩
end Go.Proofs.YtgcelkndgjjbdaaDoor.PBm
