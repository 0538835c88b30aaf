/- ask; alike. -/
import Derived.Test.YtgcelkndgjjbdaaDoorBmY
namespace Go.Proofs.YtgcelkndgjjbdaaDoor.PBm
open Go.RowKit Go.Proofs.YtgcelkndgjjbdaaDoorW.PrintWords Go.Proofs.YtgcelkndgjjbdaaDoorW.PrintLast Go.Proofs.YtgcelkndgjjbdaaDoorW.PrintMore
open Go.Shelf
set_option linter.unusedVariables false
set_option linter.unusedSimpArgs false

theorem li_reads {w : World} {B c q : Nat} {A : Option Addr} {l : List Int} (h : Li w B (.slice A q c) l) : q = l.length ∧ l.length ≤ c ∧ Kd.C (Kd.int .i64) w A l.length l := by
  obtain ⟨h1, h2, h3⟩ := Kd.R_reads' h
  exact ⟨h1, by omega, h3⟩
/-- What the document's functions answer, in memory that has only been drawn from. -/
structure RefC (w2 : World) (A0 : Option Addr) (q cp : Nat) (S : St) : Prop where
  has : ∀ (A : Int) w, (∃ n, w = w2.drewN n) → Calls Tryd.prog 35 #[.slice A0 q cp, .int .i64 A] w fun e w' => e = .returned (.bool (hasB S A)) ∧ ∃ m, w' = w.drewN m
  above : ∀ (A : Int), ∃ a is, AbR S A a is ∧ ∀ w, (∃ n, w = w2.drewN n) → Calls Tryd.prog 36 #[.slice A0 q cp, .int .i64 A] w fun e w' => e = .returned (.tuple #[.int .i64 a, .bool is]) ∧ ∃ m, w' = w.drewN m
  below : ∀ (A : Int), ∃ a is, BeR S A a is ∧ ∀ w, (∃ n, w = w2.drewN n) → Calls Tryd.prog 37 #[.slice A0 q cp, .int .i64 A] w fun e w' => e = .returned (.tuple #[.int .i64 a, .bool is]) ∧ ∃ m, w' = w.drewN m
  count : ∀ (A B : Int) w, (∃ n, w = w2.drewN n) → Calls Tryd.prog 38 #[.slice A0 q cp, .int .i64 A, .int .i64 B] w fun e w' => e = .returned (.int .i64 ((count S A B : Nat) : Int)) ∧ ∃ m, w' = w.drewN m
  at_ : ∀ (A : Int), ∃ a is, AtR S A a is ∧ ∀ w, (∃ n, w = w2.drewN n) → Calls Tryd.prog 39 #[.slice A0 q cp, .int .i64 A] w fun e w' => e = .returned (.tuple #[.int .i64 a, .bool is]) ∧ ∃ m, w' = w.drewN m
  top : ∀ w, (∃ n, w = w2.drewN n) → Calls Tryd.prog 40 #[.slice A0 q cp] w fun e w' => e = .returned (.int .u64 ((topW S : Nat) : Int)) ∧ ∃ m, w' = w.drewN m
  middle : ∀ (A : Int) w, (∃ n, w = w2.drewN n) → Calls Tryd.prog 42 #[.slice A0 q cp, .int .i64 A] w fun e w' => e = .returned (.int .u64 ((midV S A : Nat) : Int)) ∧ ∃ m, w' = w.drewN m
  low : ∀ (A : Int) w, (∃ n, w = w2.drewN n) → Calls Tryd.prog 43 #[.slice A0 q cp, .int .i64 A] w fun e w' => e = .returned (.int .u64 ((lowV S A : Nat) : Int)) ∧ ∃ m, w' = w.drewN m
theorem refC {w2 : World} {B0 q cp : Nat} {A0 : Option Addr} {l : List Int} {S : St} (h : Li w2 B0 (.slice A0 q cp) l) (hr : Rep l S) : RefC w2 A0 q cp S := by
  obtain ⟨rfl, h2, h3⟩ := li_reads h
  have hC : ∀ w, (∃ n, w = w2.drewN n) → Kd.C (Kd.int .i64) w A0 l.length l := fun w ⟨n, e⟩ => by rw [e]; exact (li_reads (h.keep (w' := w2.drewN n) (fun _ _ _ _ => rfl))).2.2
  constructor
  · intro A w hw
    obtain ⟨k, hk⟩ := (has_ev hr A).rounds
    exact (bourseref06_Set_Has.calls k A0 cp l A _ w (hC w hw) h2 hk).mono fun e w' ⟨he, ⟨hd⟩⟩ => ⟨he, hd⟩
  · intro A
    obtain ⟨a, is, ha, he⟩ := above_ev hr A
    obtain ⟨k, hk⟩ := he.rounds
    exact ⟨a, is, ha, fun w hw => (bourseref06_Set_Above.calls k A0 cp l A _ _ w (hC w hw) h2 hk).mono fun e w' ⟨he, ⟨hd⟩⟩ => ⟨he, hd⟩⟩
  · intro A
    obtain ⟨a, is, ha, he⟩ := below_ev hr A
    obtain ⟨k, hk⟩ := he.rounds
    exact ⟨a, is, ha, fun w hw => (bourseref06_Set_Below.calls k A0 cp l A _ _ w (hC w hw) h2 hk).mono fun e w' ⟨he, ⟨hd⟩⟩ => ⟨he, hd⟩⟩
  · intro A B w hw
    obtain ⟨k, hk⟩ := (count_ev hr A B).rounds
    exact (bourseref06_Set_Count.calls k A0 cp l A B _ w (hC w hw) h2 hk).mono fun e w' ⟨he, ⟨hd⟩⟩ => ⟨he, hd⟩
  · intro A
    obtain ⟨a, is, ha, he⟩ := at_f hr A
    exact ⟨a, is, ha, fun w hw => (bourseref06_Set_At.calls A0 cp l A _ _ w (hC w hw) h2 he).mono fun e w' ⟨he, ⟨hd⟩⟩ => ⟨he, hd⟩⟩
  · intro w hw
    obtain ⟨k, hk⟩ := (top_ev hr).rounds
    exact (bourseref06_Set_Top.calls k A0 cp l _ w (hC w hw) h2 hk).mono fun e w' ⟨he, ⟨hd⟩⟩ => ⟨he, hd⟩
  · intro A w hw
    obtain ⟨k, hk⟩ := (middle_ev hr A).rounds
    exact (bourseref06_Set_Middle.calls k A0 cp l A _ w (hC w hw) h2 hk).mono fun e w' ⟨he, ⟨hd⟩⟩ => ⟨he, hd⟩
  · intro A w hw
    obtain ⟨k, hk⟩ := (low_ev hr A).rounds
    exact (bourseref06_Set_Low.calls k A0 cp l A _ w (hC w hw) h2 hk).mono fun e w' ⟨he, ⟨hd⟩⟩ => ⟨he, hd⟩

theorem low_any {W : World} {g : Nat} {S : St} (h : Bm W g S) (i : Int) :
    Calls Tryd.prog 25 #[.pointer (some ⟨g, 0, none⟩), .int .i64 i] W fun e w' => e = .returned (.int .u64 ((lowV S i : Nat) : Int)) ∧ w' = W := by
  unfold lowV
  by_cases hi : 0 ≤ i ∧ i < 4096
  · obtain ⟨n, rfl⟩ : ∃ n : Nat, i = n := ⟨i.toNat, by omega⟩
    rw [if_pos hi, Int.toNat_natCast]
    exact low_in h n (by omega)
  · rw [if_neg hi]
    exact low_out W _ i (by omega)
theorem mid_any {W : World} {g : Nat} {S : St} (h : Bm W g S) (i : Int) :
    Calls Tryd.prog 41 #[.pointer (some ⟨g, 0, none⟩), .int .i64 i] W fun e w' => e = .returned (.int .u64 ((midV S i : Nat) : Int)) ∧ w' = W := by
  unfold midV
  by_cases hi : 0 ≤ i ∧ i < 64
  · obtain ⟨n, rfl⟩ : ∃ n : Nat, i = n := ⟨i.toNat, by omega⟩
    rw [if_pos hi, Int.toNat_natCast]
    exact mid_in h n (by omega)
  · rw [if_neg hi]
    exact mid_out W _ i (by omega)
theorem goes_calls {W : World} {g B0 : Nat} {S : St} {v : Value} {l : List Int} (kind on oth A B : Int) (h : Bm W g S) (hT : Tz W) (hl : Li W B0 v l) (hr : Rep l S) :
    Calls Tryd.prog 44 #[.agg #[.pointer (some ⟨g, 0, none⟩), v], .agg #[.int .i64 kind, .int .i64 on, .int .i64 oth, .int .i64 A, .int .i64 B]] W fun e W' => e = .returned (.bool true) ∧ Bm W' g S ∧ Fr (fun i => i = g) W W' := by
  by_cases hk : kind = 10
  · exact goes10_calls kind on oth A B hk h hT hl hr
  · exact goes9_calls kind on oth A B hk h hT hl hr

set_option maxHeartbeats 32000000 in
set_option maxRecDepth 100000 in
theorem ask2 {W : World} {g B0 : Nat} {S : St} {v : Value} {l : List Int} (kind on oth A B : Int) (hk : kind = 2) (h : Bm W g S) (hT : Tz W) (hl : Li W B0 v l) (hr : Rep l S) :
    Calls Tryd.prog 16 #[.agg #[.pointer (some ⟨g, 0, none⟩), v], .agg #[.int .i64 kind, .int .i64 on, .int .i64 oth, .int .i64 A, .int .i64 B]] W fun e W' => e = .returned (.bool true) ∧ Bm W' g S ∧ Fr (fun i => i = g) W W' := by
  obtain ⟨A0, cp, rfl⟩ := hl.form
  obtain ⟨q, hq⟩ : ∃ q, q = l.length := ⟨_, rfl⟩
  rw [← hq] at hl ⊢
  obtain ⟨w2, hw2⟩ : ∃ w2, w2 = (W.alloc (.cells #[.pointer (some ⟨g, 0, none⟩), .slice A0 q cp] 40)).alloc (.cells #[.int .i64 kind, .int .i64 on, .int .i64 oth, .int .i64 A, .int .i64 B] 45) := ⟨_, rfl⟩
  have s1 : (W.alloc (.cells #[.pointer (some ⟨g, 0, none⟩), .slice A0 q cp] 40)).heap.size = W.heap.size + 1 := World.size_alloc _ _
  have hB2 : Below W.heap.size W w2 := by rw [hw2]; exact ((Below.refl _ W).alloc (Nat.le_refl _) _).alloc (by rw [s1]; omega) _
  have hP : w2.heap[W.heap.size]? = some (.cells #[.pointer (some ⟨g, 0, none⟩), .slice A0 q cp] 40 (0, 0)) := by
    rw [hw2]
    exact (Below.heap_alloc _ _ _ (by rw [s1]; omega)).trans (heap_alloc_new W _)
  have hO : w2.heap[W.heap.size + 1]? = some (.cells #[.int .i64 kind, .int .i64 on, .int .i64 oth, .int .i64 A, .int .i64 B] 45 (0, 0)) := by
    have := heap_alloc_new (W.alloc (.cells #[.pointer (some ⟨g, 0, none⟩), .slice A0 q cp] 40)) (.cells #[.int .i64 kind, .int .i64 on, .int .i64 oth, .int .i64 A, .int .i64 B] 45)
    rw [s1] at this
    rw [hw2]
    exact this
  have HM : Aside0 (Bm w2 g S) := ⟨h.below hB2 h.lt⟩
  have HT : Aside0 (Tz w2) := ⟨hT.below hB2 hT.lt⟩
  have HL : Aside0 (Li w2 B0 (.slice A0 q cp) l) := ⟨hl.below hB2⟩
  have HF : Aside0 (Fr (fun k => k = g) W w2) := ⟨(Fr.refl _ W).below hB2⟩
  have HR := Aside0.mk hr
  have RC : Aside0 (RefC w2 A0 q cp S) := ⟨refC HL.out hr⟩
  have x0 : w2.cell? ⟨W.heap.size, 0, none⟩ = some (.pointer (some ⟨g, 0, none⟩)) := (blk_cell hP 0).trans rfl
  have x1 : w2.cell? ⟨W.heap.size, 1, none⟩ = some (.slice A0 q cp) := (blk_cell hP 1).trans rfl
  have o0 : w2.cell? ⟨W.heap.size + 1, 0, none⟩ = some (.int .i64 kind) := (blk_cell hO 0).trans rfl
  have o1 : w2.cell? ⟨W.heap.size + 1, 1, none⟩ = some (.int .i64 on) := (blk_cell hO 1).trans rfl
  have o2 : w2.cell? ⟨W.heap.size + 1, 2, none⟩ = some (.int .i64 oth) := (blk_cell hO 2).trans rfl
  have o3 : w2.cell? ⟨W.heap.size + 1, 3, none⟩ = some (.int .i64 A) := (blk_cell hO 3).trans rfl
  have o4 : w2.cell? ⟨W.heap.size + 1, 4, none⟩ = some (.int .i64 B) := (blk_cell hO 4).trans rfl
  have mD : ∀ w, (∃ n, w = w2.drewN n) → Bm w g S ∧ Tz w := fun w ⟨n, e⟩ => by rw [e]; exact ⟨HM.out.drewN n, HT.out.drewN n⟩
  have MD := Aside0.mk mD
  have C13 : Aside0 (∀ w, (∃ n, w = w2.drewN n) → Calls Tryd.prog 13 #[.pointer (some ⟨g, 0, none⟩), .int .i64 A] w fun e w' => e = .returned (.bool (hasB S A)) ∧ w' = w) := ⟨fun w hw => has_any S (mD w hw).1 A⟩
  have C35 := Aside0.mk (RC.out.has A)
  obtain ⟨b, hb⟩ : ∃ b, b = hasB S A := ⟨_, rfl⟩
  rw [← hb] at C13 C35
  have ebb : (b == b) = true := beq_self_eq_true b
  clear hb
  have e2 : (kind == 2) = true := beq_iff_eq.mpr hk
  clear hk
  clear h hT hl hr hq s1 hB2 hP hO mD
  go_enter Tryd.func16, Tryd.ntmps16
  go_upto_region 1 with (fail)
  rw [← hw2]
  clear hw2
  go_wp2_with (fail)
  go_quiet ((first
    | (go_at_call 13; exact Calls.quiet_of_same (C13.out _ ⟨_, rfl⟩))
    | (go_at_call 35; exact Calls.quiet_of (C35.out _ ⟨_, rfl⟩))))
  go_wp2
  go_ret
  exact ⟨rfl, HM.out.drewN _, HF.out.drewN _⟩

set_option maxHeartbeats 32000000 in
set_option maxRecDepth 100000 in
theorem ask3 {W : World} {g B0 : Nat} {S : St} {v : Value} {l : List Int} (kind on oth A B : Int) (hk : kind = 3) (h : Bm W g S) (hT : Tz W) (hl : Li W B0 v l) (hr : Rep l S) :
    Calls Tryd.prog 16 #[.agg #[.pointer (some ⟨g, 0, none⟩), v], .agg #[.int .i64 kind, .int .i64 on, .int .i64 oth, .int .i64 A, .int .i64 B]] W fun e W' => e = .returned (.bool true) ∧ Bm W' g S ∧ Fr (fun i => i = g) W W' := by
  obtain ⟨A0, cp, rfl⟩ := hl.form
  obtain ⟨q, hq⟩ : ∃ q, q = l.length := ⟨_, rfl⟩
  rw [← hq] at hl ⊢
  obtain ⟨w2, hw2⟩ : ∃ w2, w2 = (W.alloc (.cells #[.pointer (some ⟨g, 0, none⟩), .slice A0 q cp] 40)).alloc (.cells #[.int .i64 kind, .int .i64 on, .int .i64 oth, .int .i64 A, .int .i64 B] 45) := ⟨_, rfl⟩
  have s1 : (W.alloc (.cells #[.pointer (some ⟨g, 0, none⟩), .slice A0 q cp] 40)).heap.size = W.heap.size + 1 := World.size_alloc _ _
  have hB2 : Below W.heap.size W w2 := by rw [hw2]; exact ((Below.refl _ W).alloc (Nat.le_refl _) _).alloc (by rw [s1]; omega) _
  have hP : w2.heap[W.heap.size]? = some (.cells #[.pointer (some ⟨g, 0, none⟩), .slice A0 q cp] 40 (0, 0)) := by
    rw [hw2]
    exact (Below.heap_alloc _ _ _ (by rw [s1]; omega)).trans (heap_alloc_new W _)
  have hO : w2.heap[W.heap.size + 1]? = some (.cells #[.int .i64 kind, .int .i64 on, .int .i64 oth, .int .i64 A, .int .i64 B] 45 (0, 0)) := by
    have := heap_alloc_new (W.alloc (.cells #[.pointer (some ⟨g, 0, none⟩), .slice A0 q cp] 40)) (.cells #[.int .i64 kind, .int .i64 on, .int .i64 oth, .int .i64 A, .int .i64 B] 45)
    rw [s1] at this
    rw [hw2]
    exact this
  have HM : Aside0 (Bm w2 g S) := ⟨h.below hB2 h.lt⟩
  have HT : Aside0 (Tz w2) := ⟨hT.below hB2 hT.lt⟩
  have HL : Aside0 (Li w2 B0 (.slice A0 q cp) l) := ⟨hl.below hB2⟩
  have HF : Aside0 (Fr (fun k => k = g) W w2) := ⟨(Fr.refl _ W).below hB2⟩
  have HR := Aside0.mk hr
  have RC : Aside0 (RefC w2 A0 q cp S) := ⟨refC HL.out hr⟩
  have x0 : w2.cell? ⟨W.heap.size, 0, none⟩ = some (.pointer (some ⟨g, 0, none⟩)) := (blk_cell hP 0).trans rfl
  have x1 : w2.cell? ⟨W.heap.size, 1, none⟩ = some (.slice A0 q cp) := (blk_cell hP 1).trans rfl
  have o0 : w2.cell? ⟨W.heap.size + 1, 0, none⟩ = some (.int .i64 kind) := (blk_cell hO 0).trans rfl
  have o1 : w2.cell? ⟨W.heap.size + 1, 1, none⟩ = some (.int .i64 on) := (blk_cell hO 1).trans rfl
  have o2 : w2.cell? ⟨W.heap.size + 1, 2, none⟩ = some (.int .i64 oth) := (blk_cell hO 2).trans rfl
  have o3 : w2.cell? ⟨W.heap.size + 1, 3, none⟩ = some (.int .i64 A) := (blk_cell hO 3).trans rfl
  have o4 : w2.cell? ⟨W.heap.size + 1, 4, none⟩ = some (.int .i64 B) := (blk_cell hO 4).trans rfl
  have mD : ∀ w, (∃ n, w = w2.drewN n) → Bm w g S ∧ Tz w := fun w ⟨n, e⟩ => by rw [e]; exact ⟨HM.out.drewN n, HT.out.drewN n⟩
  have MD := Aside0.mk mD
  obtain ⟨a, is, ha, hc⟩ := RC.out.above A
  have CR := Aside0.mk hc
  have CP : Aside0 (∀ w, (∃ n, w = w2.drewN n) → Calls Tryd.prog 11 #[.pointer (some ⟨g, 0, none⟩), .int .i64 A] w fun e w' => e = .returned (.tuple #[.int .i64 a, .bool is]) ∧ w' = w) := ⟨fun w hw => by
    obtain ⟨a', is', h1, h2⟩ := above_calls (mD w hw).1 (mD w hw).2 A
    obtain ⟨rfl, rfl⟩ := above_uniq h1 ha
    exact h2⟩
  have eaa : (a == a) = true := beq_self_eq_true a
  have ebb : (is == is) = true := beq_self_eq_true is
  clear ha hc
  have e2 : (kind == 2) = false := beq_eq_false_iff_ne.mpr (by omega)
  have e3 : (kind == 3) = true := beq_iff_eq.mpr hk
  have CP0 := Aside0.mk (CP.out w2 ⟨0, rfl⟩)
  have CR0 := Aside0.mk (CR.out w2 ⟨0, rfl⟩)
  clear hk
  clear h hT hl hr hq s1 hB2 hP hO mD
  go_enter Tryd.func16, Tryd.ntmps16
  go_upto_region 1 with (fail)
  rw [← hw2]
  clear hw2
  go_wp2_with (first
    | ((with_reducible refine gate_callee (f := 11) rfl ?_); (try (refine gate_guard (by rfl) ?_; dsimp only)); refine goesL_ (some 39) rfl rfl Tryd.func11 (by kernel_rfl) rfl #[.pointer (some ⟨g, 0, none⟩), .int .i64 A] rfl (by (try simp only [List.map_toArray, List.map_cons, List.map_nil]); first | done | rfl) ?_; (with_reducible refine (CP0.out).mono ?_); rintro e w3 ⟨rfl, rfl⟩; refine ⟨_, rfl, ?_⟩; skip)
    | ((with_reducible refine gate_callee (f := 36) rfl ?_); (try (refine gate_guard (by rfl) ?_; dsimp only)); refine goesL_ (some 47) rfl rfl Tryd.func36 (by kernel_rfl) rfl #[.slice A0 q cp, .int .i64 A] rfl (by (try simp only [List.map_toArray, List.map_cons, List.map_nil]); first | done | rfl) ?_; (with_reducible refine (CR0.out).mono ?_); rintro e w4 ⟨rfl, m, rfl⟩; refine ⟨_, rfl, ?_⟩; skip))
  go_ret
  exact ⟨rfl, HM.out.drewN _, HF.out.drewN _⟩

set_option maxHeartbeats 32000000 in
set_option maxRecDepth 100000 in
theorem ask4 {W : World} {g B0 : Nat} {S : St} {v : Value} {l : List Int} (kind on oth A B : Int) (hk : kind = 4) (h : Bm W g S) (hT : Tz W) (hl : Li W B0 v l) (hr : Rep l S) :
    Calls Tryd.prog 16 #[.agg #[.pointer (some ⟨g, 0, none⟩), v], .agg #[.int .i64 kind, .int .i64 on, .int .i64 oth, .int .i64 A, .int .i64 B]] W fun e W' => e = .returned (.bool true) ∧ Bm W' g S ∧ Fr (fun i => i = g) W W' := by
  obtain ⟨A0, cp, rfl⟩ := hl.form
  obtain ⟨q, hq⟩ : ∃ q, q = l.length := ⟨_, rfl⟩
  rw [← hq] at hl ⊢
  obtain ⟨w2, hw2⟩ : ∃ w2, w2 = (W.alloc (.cells #[.pointer (some ⟨g, 0, none⟩), .slice A0 q cp] 40)).alloc (.cells #[.int .i64 kind, .int .i64 on, .int .i64 oth, .int .i64 A, .int .i64 B] 45) := ⟨_, rfl⟩
  have s1 : (W.alloc (.cells #[.pointer (some ⟨g, 0, none⟩), .slice A0 q cp] 40)).heap.size = W.heap.size + 1 := World.size_alloc _ _
  have hB2 : Below W.heap.size W w2 := by rw [hw2]; exact ((Below.refl _ W).alloc (Nat.le_refl _) _).alloc (by rw [s1]; omega) _
  have hP : w2.heap[W.heap.size]? = some (.cells #[.pointer (some ⟨g, 0, none⟩), .slice A0 q cp] 40 (0, 0)) := by
    rw [hw2]
    exact (Below.heap_alloc _ _ _ (by rw [s1]; omega)).trans (heap_alloc_new W _)
  have hO : w2.heap[W.heap.size + 1]? = some (.cells #[.int .i64 kind, .int .i64 on, .int .i64 oth, .int .i64 A, .int .i64 B] 45 (0, 0)) := by
    have := heap_alloc_new (W.alloc (.cells #[.pointer (some ⟨g, 0, none⟩), .slice A0 q cp] 40)) (.cells #[.int .i64 kind, .int .i64 on, .int .i64 oth, .int .i64 A, .int .i64 B] 45)
    rw [s1] at this
    rw [hw2]
    exact this
  have HM : Aside0 (Bm w2 g S) := ⟨h.below hB2 h.lt⟩
  have HT : Aside0 (Tz w2) := ⟨hT.below hB2 hT.lt⟩
  have HL : Aside0 (Li w2 B0 (.slice A0 q cp) l) := ⟨hl.below hB2⟩
  have HF : Aside0 (Fr (fun k => k = g) W w2) := ⟨(Fr.refl _ W).below hB2⟩
  have HR := Aside0.mk hr
  have RC : Aside0 (RefC w2 A0 q cp S) := ⟨refC HL.out hr⟩
  have x0 : w2.cell? ⟨W.heap.size, 0, none⟩ = some (.pointer (some ⟨g, 0, none⟩)) := (blk_cell hP 0).trans rfl
  have x1 : w2.cell? ⟨W.heap.size, 1, none⟩ = some (.slice A0 q cp) := (blk_cell hP 1).trans rfl
  have o0 : w2.cell? ⟨W.heap.size + 1, 0, none⟩ = some (.int .i64 kind) := (blk_cell hO 0).trans rfl
  have o1 : w2.cell? ⟨W.heap.size + 1, 1, none⟩ = some (.int .i64 on) := (blk_cell hO 1).trans rfl
  have o2 : w2.cell? ⟨W.heap.size + 1, 2, none⟩ = some (.int .i64 oth) := (blk_cell hO 2).trans rfl
  have o3 : w2.cell? ⟨W.heap.size + 1, 3, none⟩ = some (.int .i64 A) := (blk_cell hO 3).trans rfl
  have o4 : w2.cell? ⟨W.heap.size + 1, 4, none⟩ = some (.int .i64 B) := (blk_cell hO 4).trans rfl
  have mD : ∀ w, (∃ n, w = w2.drewN n) → Bm w g S ∧ Tz w := fun w ⟨n, e⟩ => by rw [e]; exact ⟨HM.out.drewN n, HT.out.drewN n⟩
  have MD := Aside0.mk mD
  obtain ⟨a, is, ha, hc⟩ := RC.out.below A
  have CR := Aside0.mk hc
  have CP : Aside0 (∀ w, (∃ n, w = w2.drewN n) → Calls Tryd.prog 12 #[.pointer (some ⟨g, 0, none⟩), .int .i64 A] w fun e w' => e = .returned (.tuple #[.int .i64 a, .bool is]) ∧ w' = w) := ⟨fun w hw => by
    obtain ⟨a', is', h1, h2⟩ := below_calls (mD w hw).1 A
    obtain ⟨rfl, rfl⟩ := below_uniq h1 ha
    exact h2⟩
  have eaa : (a == a) = true := beq_self_eq_true a
  have ebb : (is == is) = true := beq_self_eq_true is
  clear ha hc
  have e2 : (kind == 2) = false := beq_eq_false_iff_ne.mpr (by omega)
  have e3 : (kind == 3) = false := beq_eq_false_iff_ne.mpr (by omega)
  have e4 : (kind == 4) = true := beq_iff_eq.mpr hk
  have CP0 := Aside0.mk (CP.out w2 ⟨0, rfl⟩)
  have CR0 := Aside0.mk (CR.out w2 ⟨0, rfl⟩)
  clear hk
  clear h hT hl hr hq s1 hB2 hP hO mD
  go_enter Tryd.func16, Tryd.ntmps16
  go_upto_region 1 with (fail)
  rw [← hw2]
  clear hw2
  go_wp2_with (first
    | ((with_reducible refine gate_callee (f := 12) rfl ?_); (try (refine gate_guard (by rfl) ?_; dsimp only)); refine goesL_ (some 65) rfl rfl Tryd.func12 (by kernel_rfl) rfl #[.pointer (some ⟨g, 0, none⟩), .int .i64 A] rfl (by (try simp only [List.map_toArray, List.map_cons, List.map_nil]); first | done | rfl) ?_; (with_reducible refine (CP0.out).mono ?_); rintro e w3 ⟨rfl, rfl⟩; refine ⟨_, rfl, ?_⟩; skip)
    | ((with_reducible refine gate_callee (f := 37) rfl ?_); (try (refine gate_guard (by rfl) ?_; dsimp only)); refine goesL_ (some 73) rfl rfl Tryd.func37 (by kernel_rfl) rfl #[.slice A0 q cp, .int .i64 A] rfl (by (try simp only [List.map_toArray, List.map_cons, List.map_nil]); first | done | rfl) ?_; (with_reducible refine (CR0.out).mono ?_); rintro e w4 ⟨rfl, m, rfl⟩; refine ⟨_, rfl, ?_⟩; skip))
  go_ret
  exact ⟨rfl, HM.out.drewN _, HF.out.drewN _⟩

set_option maxHeartbeats 32000000 in
set_option maxRecDepth 100000 in
theorem ask5 {W : World} {g B0 : Nat} {S : St} {v : Value} {l : List Int} (kind on oth A B : Int) (hk : kind = 5) (h : Bm W g S) (hT : Tz W) (hl : Li W B0 v l) (hr : Rep l S) :
    Calls Tryd.prog 16 #[.agg #[.pointer (some ⟨g, 0, none⟩), v], .agg #[.int .i64 kind, .int .i64 on, .int .i64 oth, .int .i64 A, .int .i64 B]] W fun e W' => e = .returned (.bool true) ∧ Bm W' g S ∧ Fr (fun i => i = g) W W' := by
  obtain ⟨A0, cp, rfl⟩ := hl.form
  obtain ⟨q, hq⟩ : ∃ q, q = l.length := ⟨_, rfl⟩
  rw [← hq] at hl ⊢
  obtain ⟨w2, hw2⟩ : ∃ w2, w2 = (W.alloc (.cells #[.pointer (some ⟨g, 0, none⟩), .slice A0 q cp] 40)).alloc (.cells #[.int .i64 kind, .int .i64 on, .int .i64 oth, .int .i64 A, .int .i64 B] 45) := ⟨_, rfl⟩
  have s1 : (W.alloc (.cells #[.pointer (some ⟨g, 0, none⟩), .slice A0 q cp] 40)).heap.size = W.heap.size + 1 := World.size_alloc _ _
  have hB2 : Below W.heap.size W w2 := by rw [hw2]; exact ((Below.refl _ W).alloc (Nat.le_refl _) _).alloc (by rw [s1]; omega) _
  have hP : w2.heap[W.heap.size]? = some (.cells #[.pointer (some ⟨g, 0, none⟩), .slice A0 q cp] 40 (0, 0)) := by
    rw [hw2]
    exact (Below.heap_alloc _ _ _ (by rw [s1]; omega)).trans (heap_alloc_new W _)
  have hO : w2.heap[W.heap.size + 1]? = some (.cells #[.int .i64 kind, .int .i64 on, .int .i64 oth, .int .i64 A, .int .i64 B] 45 (0, 0)) := by
    have := heap_alloc_new (W.alloc (.cells #[.pointer (some ⟨g, 0, none⟩), .slice A0 q cp] 40)) (.cells #[.int .i64 kind, .int .i64 on, .int .i64 oth, .int .i64 A, .int .i64 B] 45)
    rw [s1] at this
    rw [hw2]
    exact this
  have HM : Aside0 (Bm w2 g S) := ⟨h.below hB2 h.lt⟩
  have HT : Aside0 (Tz w2) := ⟨hT.below hB2 hT.lt⟩
  have HL : Aside0 (Li w2 B0 (.slice A0 q cp) l) := ⟨hl.below hB2⟩
  have HF : Aside0 (Fr (fun k => k = g) W w2) := ⟨(Fr.refl _ W).below hB2⟩
  have HR := Aside0.mk hr
  have RC : Aside0 (RefC w2 A0 q cp S) := ⟨refC HL.out hr⟩
  have x0 : w2.cell? ⟨W.heap.size, 0, none⟩ = some (.pointer (some ⟨g, 0, none⟩)) := (blk_cell hP 0).trans rfl
  have x1 : w2.cell? ⟨W.heap.size, 1, none⟩ = some (.slice A0 q cp) := (blk_cell hP 1).trans rfl
  have o0 : w2.cell? ⟨W.heap.size + 1, 0, none⟩ = some (.int .i64 kind) := (blk_cell hO 0).trans rfl
  have o1 : w2.cell? ⟨W.heap.size + 1, 1, none⟩ = some (.int .i64 on) := (blk_cell hO 1).trans rfl
  have o2 : w2.cell? ⟨W.heap.size + 1, 2, none⟩ = some (.int .i64 oth) := (blk_cell hO 2).trans rfl
  have o3 : w2.cell? ⟨W.heap.size + 1, 3, none⟩ = some (.int .i64 A) := (blk_cell hO 3).trans rfl
  have o4 : w2.cell? ⟨W.heap.size + 1, 4, none⟩ = some (.int .i64 B) := (blk_cell hO 4).trans rfl
  have mD : ∀ w, (∃ n, w = w2.drewN n) → Bm w g S ∧ Tz w := fun w ⟨n, e⟩ => by rw [e]; exact ⟨HM.out.drewN n, HT.out.drewN n⟩
  have MD := Aside0.mk mD
  have CL : Aside0 (∀ w, (∃ n, w = w2.drewN n) → Calls Tryd.prog 9 #[.pointer (some ⟨g, 0, none⟩)] w fun e w' => e = .returned (.int .i64 (q : Int)) ∧ w' = w) := ⟨fun w hw => by
    have := len_calls (mD w hw).1
    rwa [count_len, ← hr.len, ← hq] at this⟩
  have eqq : ((q : Int) == (q : Int)) = true := beq_self_eq_true _
  have e2 : (kind == 2) = false := beq_eq_false_iff_ne.mpr (by omega)
  have e3 : (kind == 3) = false := beq_eq_false_iff_ne.mpr (by omega)
  have e4 : (kind == 4) = false := beq_eq_false_iff_ne.mpr (by omega)
  have e5 : (kind == 5) = true := beq_iff_eq.mpr hk
  clear hk
  clear h hT hl hr hq s1 hB2 hP hO mD
  go_enter Tryd.func16, Tryd.ntmps16
  go_upto_region 1 with (fail)
  rw [← hw2]
  clear hw2
  go_wp2_with (fail)
  go_quiet ((first
    | (go_at_call 9; exact Calls.quiet_of_same (CL.out _ ⟨_, rfl⟩))))
  go_wp2
  go_ret
  exact ⟨rfl, HM.out.drewN _, HF.out.drewN _⟩

set_option maxHeartbeats 32000000 in
set_option maxRecDepth 100000 in
theorem ask6 {W : World} {g B0 : Nat} {S : St} {v : Value} {l : List Int} (kind on oth A B : Int) (hk : kind = 6) (h : Bm W g S) (hT : Tz W) (hl : Li W B0 v l) (hr : Rep l S) :
    Calls Tryd.prog 16 #[.agg #[.pointer (some ⟨g, 0, none⟩), v], .agg #[.int .i64 kind, .int .i64 on, .int .i64 oth, .int .i64 A, .int .i64 B]] W fun e W' => e = .returned (.bool true) ∧ Bm W' g S ∧ Fr (fun i => i = g) W W' := by
  obtain ⟨A0, cp, rfl⟩ := hl.form
  obtain ⟨q, hq⟩ : ∃ q, q = l.length := ⟨_, rfl⟩
  rw [← hq] at hl ⊢
  obtain ⟨w2, hw2⟩ : ∃ w2, w2 = (W.alloc (.cells #[.pointer (some ⟨g, 0, none⟩), .slice A0 q cp] 40)).alloc (.cells #[.int .i64 kind, .int .i64 on, .int .i64 oth, .int .i64 A, .int .i64 B] 45) := ⟨_, rfl⟩
  have s1 : (W.alloc (.cells #[.pointer (some ⟨g, 0, none⟩), .slice A0 q cp] 40)).heap.size = W.heap.size + 1 := World.size_alloc _ _
  have hB2 : Below W.heap.size W w2 := by rw [hw2]; exact ((Below.refl _ W).alloc (Nat.le_refl _) _).alloc (by rw [s1]; omega) _
  have hP : w2.heap[W.heap.size]? = some (.cells #[.pointer (some ⟨g, 0, none⟩), .slice A0 q cp] 40 (0, 0)) := by
    rw [hw2]
    exact (Below.heap_alloc _ _ _ (by rw [s1]; omega)).trans (heap_alloc_new W _)
  have hO : w2.heap[W.heap.size + 1]? = some (.cells #[.int .i64 kind, .int .i64 on, .int .i64 oth, .int .i64 A, .int .i64 B] 45 (0, 0)) := by
    have := heap_alloc_new (W.alloc (.cells #[.pointer (some ⟨g, 0, none⟩), .slice A0 q cp] 40)) (.cells #[.int .i64 kind, .int .i64 on, .int .i64 oth, .int .i64 A, .int .i64 B] 45)
    rw [s1] at this
    rw [hw2]
    exact this
  have HM : Aside0 (Bm w2 g S) := ⟨h.below hB2 h.lt⟩
  have HT : Aside0 (Tz w2) := ⟨hT.below hB2 hT.lt⟩
  have HL : Aside0 (Li w2 B0 (.slice A0 q cp) l) := ⟨hl.below hB2⟩
  have HF : Aside0 (Fr (fun k => k = g) W w2) := ⟨(Fr.refl _ W).below hB2⟩
  have HR := Aside0.mk hr
  have RC : Aside0 (RefC w2 A0 q cp S) := ⟨refC HL.out hr⟩
  have x0 : w2.cell? ⟨W.heap.size, 0, none⟩ = some (.pointer (some ⟨g, 0, none⟩)) := (blk_cell hP 0).trans rfl
  have x1 : w2.cell? ⟨W.heap.size, 1, none⟩ = some (.slice A0 q cp) := (blk_cell hP 1).trans rfl
  have o0 : w2.cell? ⟨W.heap.size + 1, 0, none⟩ = some (.int .i64 kind) := (blk_cell hO 0).trans rfl
  have o1 : w2.cell? ⟨W.heap.size + 1, 1, none⟩ = some (.int .i64 on) := (blk_cell hO 1).trans rfl
  have o2 : w2.cell? ⟨W.heap.size + 1, 2, none⟩ = some (.int .i64 oth) := (blk_cell hO 2).trans rfl
  have o3 : w2.cell? ⟨W.heap.size + 1, 3, none⟩ = some (.int .i64 A) := (blk_cell hO 3).trans rfl
  have o4 : w2.cell? ⟨W.heap.size + 1, 4, none⟩ = some (.int .i64 B) := (blk_cell hO 4).trans rfl
  have mD : ∀ w, (∃ n, w = w2.drewN n) → Bm w g S ∧ Tz w := fun w ⟨n, e⟩ => by rw [e]; exact ⟨HM.out.drewN n, HT.out.drewN n⟩
  have MD := Aside0.mk mD
  have CP : Aside0 (∀ w, (∃ n, w = w2.drewN n) → Calls Tryd.prog 8 #[.pointer (some ⟨g, 0, none⟩), .int .i64 A, .int .i64 B] w fun e w' => e = .returned (.int .i64 ((count S A B : Nat) : Int)) ∧ w' = w) := ⟨fun w hw => count_calls (mD w hw).1 A B⟩
  have CR := Aside0.mk (RC.out.count A B)
  obtain ⟨n, hn⟩ : ∃ n, n = count S A B := ⟨_, rfl⟩
  rw [← hn] at CP CR
  have enn : ((n : Int) == (n : Int)) = true := beq_self_eq_true _
  clear hn
  have e2 : (kind == 2) = false := beq_eq_false_iff_ne.mpr (by omega)
  have e3 : (kind == 3) = false := beq_eq_false_iff_ne.mpr (by omega)
  have e4 : (kind == 4) = false := beq_eq_false_iff_ne.mpr (by omega)
  have e5 : (kind == 5) = false := beq_eq_false_iff_ne.mpr (by omega)
  have e6 : (kind == 6) = true := beq_iff_eq.mpr hk
  clear hk
  clear h hT hl hr hq s1 hB2 hP hO mD
  go_enter Tryd.func16, Tryd.ntmps16
  go_upto_region 1 with (fail)
  rw [← hw2]
  clear hw2
  go_wp2_with (fail)
  go_quiet ((first
    | (go_at_call 8; exact Calls.quiet_of_same (CP.out _ ⟨_, rfl⟩))
    | (go_at_call 38; exact Calls.quiet_of (CR.out _ ⟨_, rfl⟩))))
  go_wp2
  go_ret
  exact ⟨rfl, HM.out.drewN _, HF.out.drewN _⟩

set_option maxHeartbeats 32000000 in
set_option maxRecDepth 100000 in
theorem ask7 {W : World} {g B0 : Nat} {S : St} {v : Value} {l : List Int} (kind on oth A B : Int) (hk : kind = 7) (hA : A ≤ 9223372036854775807) (h : Bm W g S) (hT : Tz W) (hl : Li W B0 v l) (hr : Rep l S) :
    Calls Tryd.prog 16 #[.agg #[.pointer (some ⟨g, 0, none⟩), v], .agg #[.int .i64 kind, .int .i64 on, .int .i64 oth, .int .i64 A, .int .i64 B]] W fun e W' => e = .returned (.bool true) ∧ Bm W' g S ∧ Fr (fun i => i = g) W W' := by
  obtain ⟨A0, cp, rfl⟩ := hl.form
  obtain ⟨q, hq⟩ : ∃ q, q = l.length := ⟨_, rfl⟩
  rw [← hq] at hl ⊢
  obtain ⟨w2, hw2⟩ : ∃ w2, w2 = (W.alloc (.cells #[.pointer (some ⟨g, 0, none⟩), .slice A0 q cp] 40)).alloc (.cells #[.int .i64 kind, .int .i64 on, .int .i64 oth, .int .i64 A, .int .i64 B] 45) := ⟨_, rfl⟩
  have s1 : (W.alloc (.cells #[.pointer (some ⟨g, 0, none⟩), .slice A0 q cp] 40)).heap.size = W.heap.size + 1 := World.size_alloc _ _
  have hB2 : Below W.heap.size W w2 := by rw [hw2]; exact ((Below.refl _ W).alloc (Nat.le_refl _) _).alloc (by rw [s1]; omega) _
  have hP : w2.heap[W.heap.size]? = some (.cells #[.pointer (some ⟨g, 0, none⟩), .slice A0 q cp] 40 (0, 0)) := by
    rw [hw2]
    exact (Below.heap_alloc _ _ _ (by rw [s1]; omega)).trans (heap_alloc_new W _)
  have hO : w2.heap[W.heap.size + 1]? = some (.cells #[.int .i64 kind, .int .i64 on, .int .i64 oth, .int .i64 A, .int .i64 B] 45 (0, 0)) := by
    have := heap_alloc_new (W.alloc (.cells #[.pointer (some ⟨g, 0, none⟩), .slice A0 q cp] 40)) (.cells #[.int .i64 kind, .int .i64 on, .int .i64 oth, .int .i64 A, .int .i64 B] 45)
    rw [s1] at this
    rw [hw2]
    exact this
  have HM : Aside0 (Bm w2 g S) := ⟨h.below hB2 h.lt⟩
  have HT : Aside0 (Tz w2) := ⟨hT.below hB2 hT.lt⟩
  have HL : Aside0 (Li w2 B0 (.slice A0 q cp) l) := ⟨hl.below hB2⟩
  have HF : Aside0 (Fr (fun k => k = g) W w2) := ⟨(Fr.refl _ W).below hB2⟩
  have HR := Aside0.mk hr
  have RC : Aside0 (RefC w2 A0 q cp S) := ⟨refC HL.out hr⟩
  have x0 : w2.cell? ⟨W.heap.size, 0, none⟩ = some (.pointer (some ⟨g, 0, none⟩)) := (blk_cell hP 0).trans rfl
  have x1 : w2.cell? ⟨W.heap.size, 1, none⟩ = some (.slice A0 q cp) := (blk_cell hP 1).trans rfl
  have o0 : w2.cell? ⟨W.heap.size + 1, 0, none⟩ = some (.int .i64 kind) := (blk_cell hO 0).trans rfl
  have o1 : w2.cell? ⟨W.heap.size + 1, 1, none⟩ = some (.int .i64 on) := (blk_cell hO 1).trans rfl
  have o2 : w2.cell? ⟨W.heap.size + 1, 2, none⟩ = some (.int .i64 oth) := (blk_cell hO 2).trans rfl
  have o3 : w2.cell? ⟨W.heap.size + 1, 3, none⟩ = some (.int .i64 A) := (blk_cell hO 3).trans rfl
  have o4 : w2.cell? ⟨W.heap.size + 1, 4, none⟩ = some (.int .i64 B) := (blk_cell hO 4).trans rfl
  have mD : ∀ w, (∃ n, w = w2.drewN n) → Bm w g S ∧ Tz w := fun w ⟨n, e⟩ => by rw [e]; exact ⟨HM.out.drewN n, HT.out.drewN n⟩
  have MD := Aside0.mk mD
  obtain ⟨a, is, ha, hc⟩ := RC.out.at_ A
  have CR := Aside0.mk hc
  have CP : Aside0 (∀ w, (∃ n, w = w2.drewN n) → Calls Tryd.prog 10 #[.pointer (some ⟨g, 0, none⟩), .int .i64 A] w fun e w' => e = .returned (.tuple #[.int .i64 a, .bool is]) ∧ ∃ m, w' = w.drewN m) := ⟨fun w hw => by
    refine (at_calls (mD w hw).1 (mD w hw).2 A hA).mono ?_
    rintro e w' ⟨a', is', rfl, h1, h2⟩
    obtain ⟨rfl, rfl⟩ := at_uniq h1 ha
    exact ⟨rfl, h2⟩⟩
  have eaa : (a == a) = true := beq_self_eq_true a
  have ebb : (is == is) = true := beq_self_eq_true is
  clear ha hc hA
  have e2 : (kind == 2) = false := beq_eq_false_iff_ne.mpr (by omega)
  have e3 : (kind == 3) = false := beq_eq_false_iff_ne.mpr (by omega)
  have e4 : (kind == 4) = false := beq_eq_false_iff_ne.mpr (by omega)
  have e5 : (kind == 5) = false := beq_eq_false_iff_ne.mpr (by omega)
  have e6 : (kind == 6) = false := beq_eq_false_iff_ne.mpr (by omega)
  have e7 : (kind == 7) = true := beq_iff_eq.mpr hk
  have CP0 := Aside0.mk (CP.out w2 ⟨0, rfl⟩)
  have CR0 := Aside0.mk (fun m => CR.out (w2.drewN m) ⟨m, rfl⟩)
  clear hk
  clear h hT hl hr hq s1 hB2 hP hO mD
  go_enter Tryd.func16, Tryd.ntmps16
  go_upto_region 1 with (fail)
  rw [← hw2]
  clear hw2
  go_wp2_with (first
    | ((with_reducible refine gate_callee (f := 10) rfl ?_); (try (refine gate_guard (by rfl) ?_; dsimp only)); refine goesL_ (some 117) rfl rfl Tryd.func10 (by kernel_rfl) rfl #[.pointer (some ⟨g, 0, none⟩), .int .i64 A] rfl (by (try simp only [List.map_toArray, List.map_cons, List.map_nil]); first | done | rfl) ?_; (with_reducible refine (CP0.out).mono ?_); rintro e w3 ⟨rfl, m3, rfl⟩; refine ⟨_, rfl, ?_⟩; skip)
    | ((with_reducible refine gate_callee (f := 39) rfl ?_); (try (refine gate_guard (by rfl) ?_; dsimp only)); refine goesL_ (some 125) rfl rfl Tryd.func39 (by kernel_rfl) rfl #[.slice A0 q cp, .int .i64 A] rfl (by (try simp only [List.map_toArray, List.map_cons, List.map_nil]); first | done | rfl) ?_; (with_reducible refine (CR0.out m3).mono ?_); rintro e w4 ⟨rfl, m, rfl⟩; refine ⟨_, rfl, ?_⟩; skip))
  go_ret
  exact ⟨rfl, HM.out.drewN _, HF.out.drewN _⟩

set_option maxHeartbeats 32000000 in
set_option maxRecDepth 100000 in
theorem ask8 {W : World} {g B0 : Nat} {S : St} {v : Value} {l : List Int} (kind on oth A B : Int) (hk : kind = 8) (h : Bm W g S) (hT : Tz W) (hl : Li W B0 v l) (hr : Rep l S) :
    Calls Tryd.prog 16 #[.agg #[.pointer (some ⟨g, 0, none⟩), v], .agg #[.int .i64 kind, .int .i64 on, .int .i64 oth, .int .i64 A, .int .i64 B]] W fun e W' => e = .returned (.bool true) ∧ Bm W' g S ∧ Fr (fun i => i = g) W W' := by
  obtain ⟨A0, cp, rfl⟩ := hl.form
  obtain ⟨q, hq⟩ : ∃ q, q = l.length := ⟨_, rfl⟩
  rw [← hq] at hl ⊢
  obtain ⟨w2, hw2⟩ : ∃ w2, w2 = (W.alloc (.cells #[.pointer (some ⟨g, 0, none⟩), .slice A0 q cp] 40)).alloc (.cells #[.int .i64 kind, .int .i64 on, .int .i64 oth, .int .i64 A, .int .i64 B] 45) := ⟨_, rfl⟩
  have s1 : (W.alloc (.cells #[.pointer (some ⟨g, 0, none⟩), .slice A0 q cp] 40)).heap.size = W.heap.size + 1 := World.size_alloc _ _
  have hB2 : Below W.heap.size W w2 := by rw [hw2]; exact ((Below.refl _ W).alloc (Nat.le_refl _) _).alloc (by rw [s1]; omega) _
  have hP : w2.heap[W.heap.size]? = some (.cells #[.pointer (some ⟨g, 0, none⟩), .slice A0 q cp] 40 (0, 0)) := by
    rw [hw2]
    exact (Below.heap_alloc _ _ _ (by rw [s1]; omega)).trans (heap_alloc_new W _)
  have hO : w2.heap[W.heap.size + 1]? = some (.cells #[.int .i64 kind, .int .i64 on, .int .i64 oth, .int .i64 A, .int .i64 B] 45 (0, 0)) := by
    have := heap_alloc_new (W.alloc (.cells #[.pointer (some ⟨g, 0, none⟩), .slice A0 q cp] 40)) (.cells #[.int .i64 kind, .int .i64 on, .int .i64 oth, .int .i64 A, .int .i64 B] 45)
    rw [s1] at this
    rw [hw2]
    exact this
  have HM : Aside0 (Bm w2 g S) := ⟨h.below hB2 h.lt⟩
  have HT : Aside0 (Tz w2) := ⟨hT.below hB2 hT.lt⟩
  have HL : Aside0 (Li w2 B0 (.slice A0 q cp) l) := ⟨hl.below hB2⟩
  have HF : Aside0 (Fr (fun k => k = g) W w2) := ⟨(Fr.refl _ W).below hB2⟩
  have HR := Aside0.mk hr
  have RC : Aside0 (RefC w2 A0 q cp S) := ⟨refC HL.out hr⟩
  have x0 : w2.cell? ⟨W.heap.size, 0, none⟩ = some (.pointer (some ⟨g, 0, none⟩)) := (blk_cell hP 0).trans rfl
  have x1 : w2.cell? ⟨W.heap.size, 1, none⟩ = some (.slice A0 q cp) := (blk_cell hP 1).trans rfl
  have o0 : w2.cell? ⟨W.heap.size + 1, 0, none⟩ = some (.int .i64 kind) := (blk_cell hO 0).trans rfl
  have o1 : w2.cell? ⟨W.heap.size + 1, 1, none⟩ = some (.int .i64 on) := (blk_cell hO 1).trans rfl
  have o2 : w2.cell? ⟨W.heap.size + 1, 2, none⟩ = some (.int .i64 oth) := (blk_cell hO 2).trans rfl
  have o3 : w2.cell? ⟨W.heap.size + 1, 3, none⟩ = some (.int .i64 A) := (blk_cell hO 3).trans rfl
  have o4 : w2.cell? ⟨W.heap.size + 1, 4, none⟩ = some (.int .i64 B) := (blk_cell hO 4).trans rfl
  have mD : ∀ w, (∃ n, w = w2.drewN n) → Bm w g S ∧ Tz w := fun w ⟨n, e⟩ => by rw [e]; exact ⟨HM.out.drewN n, HT.out.drewN n⟩
  have MD := Aside0.mk mD
  have CT : Aside0 (∀ w, (∃ n, w = w2.drewN n) → Calls Tryd.prog 24 #[.pointer (some ⟨g, 0, none⟩)] w fun e w' => e = .returned (.int .u64 ((topW S : Nat) : Int)) ∧ w' = w) := ⟨fun w hw => top_calls (mD w hw).1⟩
  have CM : Aside0 (∀ w, (∃ n, w = w2.drewN n) → Calls Tryd.prog 41 #[.pointer (some ⟨g, 0, none⟩), .int .i64 A] w fun e w' => e = .returned (.int .u64 ((midV S A : Nat) : Int)) ∧ w' = w) := ⟨fun w hw => mid_any (mD w hw).1 A⟩
  have CL : Aside0 (∀ w, (∃ n, w = w2.drewN n) → Calls Tryd.prog 25 #[.pointer (some ⟨g, 0, none⟩), .int .i64 B] w fun e w' => e = .returned (.int .u64 ((lowV S B : Nat) : Int)) ∧ w' = w) := ⟨fun w hw => low_any (mD w hw).1 B⟩
  have RT := Aside0.mk RC.out.top
  have RM := Aside0.mk (RC.out.middle A)
  have RL := Aside0.mk (RC.out.low B)
  obtain ⟨n1, hn1⟩ : ∃ n, n = topW S := ⟨_, rfl⟩
  obtain ⟨n2, hn2⟩ : ∃ n, n = midV S A := ⟨_, rfl⟩
  obtain ⟨n3, hn3⟩ : ∃ n, n = lowV S B := ⟨_, rfl⟩
  rw [← hn1] at CT RT
  rw [← hn2] at CM RM
  rw [← hn3] at CL RL
  have en1 : ((n1 : Int) == (n1 : Int)) = true := beq_self_eq_true _
  have en2 : ((n2 : Int) == (n2 : Int)) = true := beq_self_eq_true _
  have en3 : ((n3 : Int) == (n3 : Int)) = true := beq_self_eq_true _
  clear hn1 hn2 hn3
  have e2 : (kind == 2) = false := beq_eq_false_iff_ne.mpr (by omega)
  have e3 : (kind == 3) = false := beq_eq_false_iff_ne.mpr (by omega)
  have e4 : (kind == 4) = false := beq_eq_false_iff_ne.mpr (by omega)
  have e5 : (kind == 5) = false := beq_eq_false_iff_ne.mpr (by omega)
  have e6 : (kind == 6) = false := beq_eq_false_iff_ne.mpr (by omega)
  have e7 : (kind == 7) = false := beq_eq_false_iff_ne.mpr (by omega)
  have e8 : (kind == 8) = true := beq_iff_eq.mpr hk
  clear hk
  clear h hT hl hr hq s1 hB2 hP hO mD
  go_enter Tryd.func16, Tryd.ntmps16
  go_upto_region 1 with (fail)
  rw [← hw2]
  clear hw2
  go_wp2_with (fail)
  go_quiet ((first
    | (go_at_call 24; exact Calls.quiet_of_same (CT.out _ ⟨_, rfl⟩))
    | (go_at_call 41; exact Calls.quiet_of_same (CM.out _ ⟨_, rfl⟩))
    | (go_at_call 25; exact Calls.quiet_of_same (CL.out _ ⟨_, rfl⟩))
    | (go_at_call 40; exact Calls.quiet_of (RT.out _ ⟨_, rfl⟩))
    | (go_at_call 42; exact Calls.quiet_of (RM.out _ ⟨_, rfl⟩))
    | (go_at_call 43; exact Calls.quiet_of (RL.out _ ⟨_, rfl⟩))))
  go_wp2
  go_ret
  exact ⟨rfl, HM.out.drewN _, HF.out.drewN _⟩

set_option maxHeartbeats 32000000 in
set_option maxRecDepth 100000 in
theorem ask9 {W : World} {g B0 : Nat} {S : St} {v : Value} {l : List Int} (kind on oth A B : Int) (hk : kind = 9) (h : Bm W g S) (hT : Tz W) (hl : Li W B0 v l) (hr : Rep l S) :
    Calls Tryd.prog 16 #[.agg #[.pointer (some ⟨g, 0, none⟩), v], .agg #[.int .i64 kind, .int .i64 on, .int .i64 oth, .int .i64 A, .int .i64 B]] W fun e W' => e = .returned (.bool true) ∧ Bm W' g S ∧ Fr (fun i => i = g) W W' := by
  obtain ⟨A0, cp, rfl⟩ := hl.form
  obtain ⟨q, hq⟩ : ∃ q, q = l.length := ⟨_, rfl⟩
  rw [← hq] at hl ⊢
  obtain ⟨w2, hw2⟩ : ∃ w2, w2 = (W.alloc (.cells #[.pointer (some ⟨g, 0, none⟩), .slice A0 q cp] 40)).alloc (.cells #[.int .i64 kind, .int .i64 on, .int .i64 oth, .int .i64 A, .int .i64 B] 45) := ⟨_, rfl⟩
  have s1 : (W.alloc (.cells #[.pointer (some ⟨g, 0, none⟩), .slice A0 q cp] 40)).heap.size = W.heap.size + 1 := World.size_alloc _ _
  have hB2 : Below W.heap.size W w2 := by rw [hw2]; exact ((Below.refl _ W).alloc (Nat.le_refl _) _).alloc (by rw [s1]; omega) _
  have hP : w2.heap[W.heap.size]? = some (.cells #[.pointer (some ⟨g, 0, none⟩), .slice A0 q cp] 40 (0, 0)) := by
    rw [hw2]
    exact (Below.heap_alloc _ _ _ (by rw [s1]; omega)).trans (heap_alloc_new W _)
  have hO : w2.heap[W.heap.size + 1]? = some (.cells #[.int .i64 kind, .int .i64 on, .int .i64 oth, .int .i64 A, .int .i64 B] 45 (0, 0)) := by
    have := heap_alloc_new (W.alloc (.cells #[.pointer (some ⟨g, 0, none⟩), .slice A0 q cp] 40)) (.cells #[.int .i64 kind, .int .i64 on, .int .i64 oth, .int .i64 A, .int .i64 B] 45)
    rw [s1] at this
    rw [hw2]
    exact this
  have HM : Aside0 (Bm w2 g S) := ⟨h.below hB2 h.lt⟩
  have HT : Aside0 (Tz w2) := ⟨hT.below hB2 hT.lt⟩
  have HL : Aside0 (Li w2 B0 (.slice A0 q cp) l) := ⟨hl.below hB2⟩
  have HF : Aside0 (Fr (fun k => k = g) W w2) := ⟨(Fr.refl _ W).below hB2⟩
  have HR := Aside0.mk hr
  have RC : Aside0 (RefC w2 A0 q cp S) := ⟨refC HL.out hr⟩
  have x0 : w2.cell? ⟨W.heap.size, 0, none⟩ = some (.pointer (some ⟨g, 0, none⟩)) := (blk_cell hP 0).trans rfl
  have x1 : w2.cell? ⟨W.heap.size, 1, none⟩ = some (.slice A0 q cp) := (blk_cell hP 1).trans rfl
  have o0 : w2.cell? ⟨W.heap.size + 1, 0, none⟩ = some (.int .i64 kind) := (blk_cell hO 0).trans rfl
  have o1 : w2.cell? ⟨W.heap.size + 1, 1, none⟩ = some (.int .i64 on) := (blk_cell hO 1).trans rfl
  have o2 : w2.cell? ⟨W.heap.size + 1, 2, none⟩ = some (.int .i64 oth) := (blk_cell hO 2).trans rfl
  have o3 : w2.cell? ⟨W.heap.size + 1, 3, none⟩ = some (.int .i64 A) := (blk_cell hO 3).trans rfl
  have o4 : w2.cell? ⟨W.heap.size + 1, 4, none⟩ = some (.int .i64 B) := (blk_cell hO 4).trans rfl
  have mD : ∀ w, (∃ n, w = w2.drewN n) → Bm w g S ∧ Tz w := fun w ⟨n, e⟩ => by rw [e]; exact ⟨HM.out.drewN n, HT.out.drewN n⟩
  have MD := Aside0.mk mD
  have CG : Aside0 (Calls Tryd.prog 44 #[.agg #[.pointer (some ⟨g, 0, none⟩), .slice A0 q cp], .agg #[.int .i64 kind, .int .i64 on, .int .i64 oth, .int .i64 A, .int .i64 B]] w2 fun e W' => e = .returned (.bool true) ∧ Bm W' g S ∧ Fr (fun i => i = g) w2 W') := ⟨goes_calls kind on oth A B HM.out HT.out HL.out hr⟩
  have e2 : (kind == 2) = false := beq_eq_false_iff_ne.mpr (by omega)
  have e3 : (kind == 3) = false := beq_eq_false_iff_ne.mpr (by omega)
  have e4 : (kind == 4) = false := beq_eq_false_iff_ne.mpr (by omega)
  have e5 : (kind == 5) = false := beq_eq_false_iff_ne.mpr (by omega)
  have e6 : (kind == 6) = false := beq_eq_false_iff_ne.mpr (by omega)
  have e7 : (kind == 7) = false := beq_eq_false_iff_ne.mpr (by omega)
  have e8 : (kind == 8) = false := beq_eq_false_iff_ne.mpr (by omega)
  have e9 : (kind == 9) = true := beq_iff_eq.mpr hk
  clear hk
  clear h hT hl hr hq s1 hB2 hP hO mD
  go_enter Tryd.func16, Tryd.ntmps16
  go_upto_region 1 with (fail)
  rw [← hw2]
  clear hw2
  go_wp2_with (first
    | ((with_reducible refine gate_callee (f := 44) rfl ?_); (try (refine gate_guard (by rfl) ?_; dsimp only)); refine goesL_ (some 176) rfl rfl Tryd.func44 (by kernel_rfl) rfl #[.agg #[.pointer (some ⟨g, 0, none⟩), .slice A0 q cp], .agg #[.int .i64 kind, .int .i64 on, .int .i64 oth, .int .i64 A, .int .i64 B]] rfl (by (try simp only [List.map_toArray, List.map_cons, List.map_nil]); first | done | rfl) ?_; (with_reducible refine (CG.out).mono ?_); rintro e w3 ⟨rfl, h3, f3⟩; refine ⟨_, rfl, ?_⟩; have H3 := Aside0.mk h3; have F3 := Aside0.mk f3; clear h3 f3))
  go_ret
  exact ⟨rfl, H3.out, HF.out.trans F3.out (fun i hi => .inl hi)⟩

set_option maxHeartbeats 32000000 in
set_option maxRecDepth 100000 in
theorem ask10 {W : World} {g B0 : Nat} {S : St} {v : Value} {l : List Int} (kind on oth A B : Int) (hk : kind = 10) (h : Bm W g S) (hT : Tz W) (hl : Li W B0 v l) (hr : Rep l S) :
    Calls Tryd.prog 16 #[.agg #[.pointer (some ⟨g, 0, none⟩), v], .agg #[.int .i64 kind, .int .i64 on, .int .i64 oth, .int .i64 A, .int .i64 B]] W fun e W' => e = .returned (.bool true) ∧ Bm W' g S ∧ Fr (fun i => i = g) W W' := by
  obtain ⟨A0, cp, rfl⟩ := hl.form
  obtain ⟨q, hq⟩ : ∃ q, q = l.length := ⟨_, rfl⟩
  rw [← hq] at hl ⊢
  obtain ⟨w2, hw2⟩ : ∃ w2, w2 = (W.alloc (.cells #[.pointer (some ⟨g, 0, none⟩), .slice A0 q cp] 40)).alloc (.cells #[.int .i64 kind, .int .i64 on, .int .i64 oth, .int .i64 A, .int .i64 B] 45) := ⟨_, rfl⟩
  have s1 : (W.alloc (.cells #[.pointer (some ⟨g, 0, none⟩), .slice A0 q cp] 40)).heap.size = W.heap.size + 1 := World.size_alloc _ _
  have hB2 : Below W.heap.size W w2 := by rw [hw2]; exact ((Below.refl _ W).alloc (Nat.le_refl _) _).alloc (by rw [s1]; omega) _
  have hP : w2.heap[W.heap.size]? = some (.cells #[.pointer (some ⟨g, 0, none⟩), .slice A0 q cp] 40 (0, 0)) := by
    rw [hw2]
    exact (Below.heap_alloc _ _ _ (by rw [s1]; omega)).trans (heap_alloc_new W _)
  have hO : w2.heap[W.heap.size + 1]? = some (.cells #[.int .i64 kind, .int .i64 on, .int .i64 oth, .int .i64 A, .int .i64 B] 45 (0, 0)) := by
    have := heap_alloc_new (W.alloc (.cells #[.pointer (some ⟨g, 0, none⟩), .slice A0 q cp] 40)) (.cells #[.int .i64 kind, .int .i64 on, .int .i64 oth, .int .i64 A, .int .i64 B] 45)
    rw [s1] at this
    rw [hw2]
    exact this
  have HM : Aside0 (Bm w2 g S) := ⟨h.below hB2 h.lt⟩
  have HT : Aside0 (Tz w2) := ⟨hT.below hB2 hT.lt⟩
  have HL : Aside0 (Li w2 B0 (.slice A0 q cp) l) := ⟨hl.below hB2⟩
  have HF : Aside0 (Fr (fun k => k = g) W w2) := ⟨(Fr.refl _ W).below hB2⟩
  have HR := Aside0.mk hr
  have RC : Aside0 (RefC w2 A0 q cp S) := ⟨refC HL.out hr⟩
  have x0 : w2.cell? ⟨W.heap.size, 0, none⟩ = some (.pointer (some ⟨g, 0, none⟩)) := (blk_cell hP 0).trans rfl
  have x1 : w2.cell? ⟨W.heap.size, 1, none⟩ = some (.slice A0 q cp) := (blk_cell hP 1).trans rfl
  have o0 : w2.cell? ⟨W.heap.size + 1, 0, none⟩ = some (.int .i64 kind) := (blk_cell hO 0).trans rfl
  have o1 : w2.cell? ⟨W.heap.size + 1, 1, none⟩ = some (.int .i64 on) := (blk_cell hO 1).trans rfl
  have o2 : w2.cell? ⟨W.heap.size + 1, 2, none⟩ = some (.int .i64 oth) := (blk_cell hO 2).trans rfl
  have o3 : w2.cell? ⟨W.heap.size + 1, 3, none⟩ = some (.int .i64 A) := (blk_cell hO 3).trans rfl
  have o4 : w2.cell? ⟨W.heap.size + 1, 4, none⟩ = some (.int .i64 B) := (blk_cell hO 4).trans rfl
  have mD : ∀ w, (∃ n, w = w2.drewN n) → Bm w g S ∧ Tz w := fun w ⟨n, e⟩ => by rw [e]; exact ⟨HM.out.drewN n, HT.out.drewN n⟩
  have MD := Aside0.mk mD
  have CG : Aside0 (Calls Tryd.prog 44 #[.agg #[.pointer (some ⟨g, 0, none⟩), .slice A0 q cp], .agg #[.int .i64 kind, .int .i64 on, .int .i64 oth, .int .i64 A, .int .i64 B]] w2 fun e W' => e = .returned (.bool true) ∧ Bm W' g S ∧ Fr (fun i => i = g) w2 W') := ⟨goes_calls kind on oth A B HM.out HT.out HL.out hr⟩
  have e2 : (kind == 2) = false := beq_eq_false_iff_ne.mpr (by omega)
  have e3 : (kind == 3) = false := beq_eq_false_iff_ne.mpr (by omega)
  have e4 : (kind == 4) = false := beq_eq_false_iff_ne.mpr (by omega)
  have e5 : (kind == 5) = false := beq_eq_false_iff_ne.mpr (by omega)
  have e6 : (kind == 6) = false := beq_eq_false_iff_ne.mpr (by omega)
  have e7 : (kind == 7) = false := beq_eq_false_iff_ne.mpr (by omega)
  have e8 : (kind == 8) = false := beq_eq_false_iff_ne.mpr (by omega)
  have e9 : (kind == 9) = false := beq_eq_false_iff_ne.mpr (by omega)
  have e10 : (kind == 10) = true := beq_iff_eq.mpr hk
  clear hk
  clear h hT hl hr hq s1 hB2 hP hO mD
  go_enter Tryd.func16, Tryd.ntmps16
  go_upto_region 1 with (fail)
  rw [← hw2]
  clear hw2
  go_wp2_with (first
    | ((with_reducible refine gate_callee (f := 44) rfl ?_); (try (refine gate_guard (by rfl) ?_; dsimp only)); refine goesL_ (some 176) rfl rfl Tryd.func44 (by kernel_rfl) rfl #[.agg #[.pointer (some ⟨g, 0, none⟩), .slice A0 q cp], .agg #[.int .i64 kind, .int .i64 on, .int .i64 oth, .int .i64 A, .int .i64 B]] rfl (by (try simp only [List.map_toArray, List.map_cons, List.map_nil]); first | done | rfl) ?_; (with_reducible refine (CG.out).mono ?_); rintro e w3 ⟨rfl, h3, f3⟩; refine ⟨_, rfl, ?_⟩; have H3 := Aside0.mk h3; have F3 := Aside0.mk f3; clear h3 f3))
  go_ret
  exact ⟨rfl, H3.out, HF.out.trans F3.out (fun i hi => .inl hi)⟩

set_option maxHeartbeats 32000000 in
set_option maxRecDepth 100000 in
theorem ask0 {W : World} {g B0 : Nat} {S : St} {v : Value} {l : List Int} (kind on oth A B : Int) (hk : kind ≠ 2 ∧ kind ≠ 3 ∧ kind ≠ 4 ∧ kind ≠ 5 ∧ kind ≠ 6 ∧ kind ≠ 7 ∧ kind ≠ 8 ∧ kind ≠ 9 ∧ kind ≠ 10) (h : Bm W g S) (hT : Tz W) (hl : Li W B0 v l) (hr : Rep l S) :
    Calls Tryd.prog 16 #[.agg #[.pointer (some ⟨g, 0, none⟩), v], .agg #[.int .i64 kind, .int .i64 on, .int .i64 oth, .int .i64 A, .int .i64 B]] W fun e W' => e = .returned (.bool true) ∧ Bm W' g S ∧ Fr (fun i => i = g) W W' := by
  obtain ⟨A0, cp, rfl⟩ := hl.form
  obtain ⟨q, hq⟩ : ∃ q, q = l.length := ⟨_, rfl⟩
  rw [← hq] at hl ⊢
  obtain ⟨w2, hw2⟩ : ∃ w2, w2 = (W.alloc (.cells #[.pointer (some ⟨g, 0, none⟩), .slice A0 q cp] 40)).alloc (.cells #[.int .i64 kind, .int .i64 on, .int .i64 oth, .int .i64 A, .int .i64 B] 45) := ⟨_, rfl⟩
  have s1 : (W.alloc (.cells #[.pointer (some ⟨g, 0, none⟩), .slice A0 q cp] 40)).heap.size = W.heap.size + 1 := World.size_alloc _ _
  have hB2 : Below W.heap.size W w2 := by rw [hw2]; exact ((Below.refl _ W).alloc (Nat.le_refl _) _).alloc (by rw [s1]; omega) _
  have hP : w2.heap[W.heap.size]? = some (.cells #[.pointer (some ⟨g, 0, none⟩), .slice A0 q cp] 40 (0, 0)) := by
    rw [hw2]
    exact (Below.heap_alloc _ _ _ (by rw [s1]; omega)).trans (heap_alloc_new W _)
  have hO : w2.heap[W.heap.size + 1]? = some (.cells #[.int .i64 kind, .int .i64 on, .int .i64 oth, .int .i64 A, .int .i64 B] 45 (0, 0)) := by
    have := heap_alloc_new (W.alloc (.cells #[.pointer (some ⟨g, 0, none⟩), .slice A0 q cp] 40)) (.cells #[.int .i64 kind, .int .i64 on, .int .i64 oth, .int .i64 A, .int .i64 B] 45)
    rw [s1] at this
    rw [hw2]
    exact this
  have HM : Aside0 (Bm w2 g S) := ⟨h.below hB2 h.lt⟩
  have HT : Aside0 (Tz w2) := ⟨hT.below hB2 hT.lt⟩
  have HL : Aside0 (Li w2 B0 (.slice A0 q cp) l) := ⟨hl.below hB2⟩
  have HF : Aside0 (Fr (fun k => k = g) W w2) := ⟨(Fr.refl _ W).below hB2⟩
  have HR := Aside0.mk hr
  have RC : Aside0 (RefC w2 A0 q cp S) := ⟨refC HL.out hr⟩
  have x0 : w2.cell? ⟨W.heap.size, 0, none⟩ = some (.pointer (some ⟨g, 0, none⟩)) := (blk_cell hP 0).trans rfl
  have x1 : w2.cell? ⟨W.heap.size, 1, none⟩ = some (.slice A0 q cp) := (blk_cell hP 1).trans rfl
  have o0 : w2.cell? ⟨W.heap.size + 1, 0, none⟩ = some (.int .i64 kind) := (blk_cell hO 0).trans rfl
  have o1 : w2.cell? ⟨W.heap.size + 1, 1, none⟩ = some (.int .i64 on) := (blk_cell hO 1).trans rfl
  have o2 : w2.cell? ⟨W.heap.size + 1, 2, none⟩ = some (.int .i64 oth) := (blk_cell hO 2).trans rfl
  have o3 : w2.cell? ⟨W.heap.size + 1, 3, none⟩ = some (.int .i64 A) := (blk_cell hO 3).trans rfl
  have o4 : w2.cell? ⟨W.heap.size + 1, 4, none⟩ = some (.int .i64 B) := (blk_cell hO 4).trans rfl
  have mD : ∀ w, (∃ n, w = w2.drewN n) → Bm w g S ∧ Tz w := fun w ⟨n, e⟩ => by rw [e]; exact ⟨HM.out.drewN n, HT.out.drewN n⟩
  have MD := Aside0.mk mD
  have e2 : (kind == 2) = false := beq_eq_false_iff_ne.mpr (by omega)
  have e3 : (kind == 3) = false := beq_eq_false_iff_ne.mpr (by omega)
  have e4 : (kind == 4) = false := beq_eq_false_iff_ne.mpr (by omega)
  have e5 : (kind == 5) = false := beq_eq_false_iff_ne.mpr (by omega)
  have e6 : (kind == 6) = false := beq_eq_false_iff_ne.mpr (by omega)
  have e7 : (kind == 7) = false := beq_eq_false_iff_ne.mpr (by omega)
  have e8 : (kind == 8) = false := beq_eq_false_iff_ne.mpr (by omega)
  have e9 : (kind == 9) = false := beq_eq_false_iff_ne.mpr (by omega)
  have e10 : (kind == 10) = false := beq_eq_false_iff_ne.mpr (by omega)
  clear hk
  clear h hT hl hr hq s1 hB2 hP hO mD
  go_enter Tryd.func16, Tryd.ntmps16
  go_upto_region 1 with (fail)
  rw [← hw2]
  clear hw2
  go_wp2
  go_ret
  exact ⟨rfl, HM.out, HF.out⟩

theorem ask_calls {W : World} {g B0 : Nat} {S : St} {v : Value} {l : List Int} (kind on oth A B : Int) (hA : A ≤ 9223372036854775807) (h : Bm W g S) (hT : Tz W) (hl : Li W B0 v l) (hr : Rep l S) :
    Calls Tryd.prog 16 #[.agg #[.pointer (some ⟨g, 0, none⟩), v], .agg #[.int .i64 kind, .int .i64 on, .int .i64 oth, .int .i64 A, .int .i64 B]] W fun e W' => e = .returned (.bool true) ∧ Bm W' g S ∧ Fr (fun i => i = g) W W' := by
  by_cases k2 : kind = 2
  · exact ask2 kind on oth A B k2 h hT hl hr
  by_cases k3 : kind = 3
  · exact ask3 kind on oth A B k3 h hT hl hr
  by_cases k4 : kind = 4
  · exact ask4 kind on oth A B k4 h hT hl hr
  by_cases k5 : kind = 5
  · exact ask5 kind on oth A B k5 h hT hl hr
  by_cases k6 : kind = 6
  · exact ask6 kind on oth A B k6 h hT hl hr
  by_cases k7 : kind = 7
  · exact ask7 kind on oth A B k7 hA h hT hl hr
  by_cases k8 : kind = 8
  · exact ask8 kind on oth A B k8 h hT hl hr
  by_cases k9 : kind = 9
  · exact ask9 kind on oth A B k9 h hT hl hr
  by_cases k10 : kind = 10
  · exact ask10 kind on oth A B k10 h hT hl hr
  exact ask0 kind on oth A B ⟨k2, k3, k4, k5, k6, k7, k8, k9, k10⟩ h hT hl hr

set_option maxHeartbeats 32000000 in
set_option maxRecDepth 100000 in
theorem alike_calls {W : World} {g B0 : Nat} {S : St} {v : Value} {l : List Int} (h : Bm W g S) (hT : Tz W) (hl : Li W B0 v l) (hr : Rep l S) :
    Calls Tryd.prog 17 #[.agg #[.pointer (some ⟨g, 0, none⟩), v]] W fun e W' => e = .returned (.bool true) ∧ Bm W' g S ∧ Fr (fun i => i = g) W W' := by
  obtain ⟨A0, cp, rfl⟩ := hl.form
  obtain ⟨q, hq⟩ : ∃ q, q = l.length := ⟨_, rfl⟩
  rw [← hq] at hl ⊢
  obtain ⟨w2, hw2⟩ : ∃ w2, w2 = W.alloc (.cells #[.pointer (some ⟨g, 0, none⟩), .slice A0 q cp] 40) := ⟨_, rfl⟩
  have hB2 : Below W.heap.size W w2 := by rw [hw2]; exact (Below.refl _ W).alloc (Nat.le_refl _) _
  have hP : w2.heap[W.heap.size]? = some (.cells #[.pointer (some ⟨g, 0, none⟩), .slice A0 q cp] 40 (0, 0)) := by rw [hw2]; exact heap_alloc_new W _
  have HM : Aside0 (Bm w2 g S) := ⟨h.below hB2 h.lt⟩
  have HT : Aside0 (Tz w2) := ⟨hT.below hB2 hT.lt⟩
  have HL : Aside0 (Li w2 B0 (.slice A0 q cp) l) := ⟨hl.below hB2⟩
  have HF : Aside0 (Fr (fun k => k = g) W w2) := ⟨(Fr.refl _ W).below hB2⟩
  have HR := Aside0.mk hr
  have RC : Aside0 (RefC w2 A0 q cp S) := ⟨refC HL.out hr⟩
  have x0 : w2.cell? ⟨W.heap.size, 0, none⟩ = some (.pointer (some ⟨g, 0, none⟩)) := (blk_cell hP 0).trans rfl
  have x1 : w2.cell? ⟨W.heap.size, 1, none⟩ = some (.slice A0 q cp) := (blk_cell hP 1).trans rfl
  have mD : ∀ w, (∃ n, w = w2.drewN n) → Bm w g S ∧ Tz w := fun w ⟨n, e⟩ => by rw [e]; exact ⟨HM.out.drewN n, HT.out.drewN n⟩
  have CLn : Aside0 (∀ w, (∃ n, w = w2.drewN n) → Calls Tryd.prog 9 #[.pointer (some ⟨g, 0, none⟩)] w fun e w' => e = .returned (.int .i64 (q : Int)) ∧ w' = w) := ⟨fun w hw => by
    have := len_calls (mD w hw).1
    rwa [count_len, ← hr.len, ← hq] at this⟩
  have CT : Aside0 (∀ w, (∃ n, w = w2.drewN n) → Calls Tryd.prog 24 #[.pointer (some ⟨g, 0, none⟩)] w fun e w' => e = .returned (.int .u64 ((topW S : Nat) : Int)) ∧ w' = w) := ⟨fun w hw => top_calls (mD w hw).1⟩
  have RT := Aside0.mk RC.out.top
  have CH : Aside0 (∀ (A : Int) w, (∃ n, w = w2.drewN n) → Calls Tryd.prog 13 #[.pointer (some ⟨g, 0, none⟩), .int .i64 A] w fun e w' => e = .returned (.bool (hasB S A)) ∧ w' = w) := ⟨fun A w hw => has_any S (mD w hw).1 A⟩
  have CM : Aside0 (∀ (A : Int) w, (∃ n, w = w2.drewN n) → Calls Tryd.prog 41 #[.pointer (some ⟨g, 0, none⟩), .int .i64 A] w fun e w' => e = .returned (.int .u64 ((midV S A : Nat) : Int)) ∧ w' = w) := ⟨fun A w hw => mid_any (mD w hw).1 A⟩
  have CL : Aside0 (∀ (A : Int) w, (∃ n, w = w2.drewN n) → Calls Tryd.prog 25 #[.pointer (some ⟨g, 0, none⟩), .int .i64 A] w fun e w' => e = .returned (.int .u64 ((lowV S A : Nat) : Int)) ∧ w' = w) := ⟨fun A w hw => low_any (mD w hw).1 A⟩
  have RM := Aside0.mk RC.out.middle
  have RL := Aside0.mk RC.out.low
  obtain ⟨n1, hn1⟩ : ∃ n, n = topW S := ⟨_, rfl⟩
  rw [← hn1] at CT RT
  have en1 : ((n1 : Int) != (n1 : Int)) = false := bne_self_eq_false' (a := (n1 : Int))
  have eqq : ((q : Int) != (q : Int)) = false := bne_self_eq_false' (a := (q : Int))
  have hq2 : q ≤ 262144 := by rw [hq]; exact hr.le
  have HQ := Aside0.mk hq
  clear hn1 h hT hl hr hq hB2 hP mD
  go_enter Tryd.func17, Tryd.ntmps17
  go_upto_region 1 with (fail)
  rw [← hw2]
  clear hw2
  go_quiet ((first
    | (go_at_call 9; exact Calls.quiet_of_same (CLn.out _ ⟨_, rfl⟩))
    | (go_at_call 24; exact Calls.quiet_of_same (CT.out _ ⟨_, rfl⟩))
    | (go_at_call 40; exact Calls.quiet_of (RT.out _ ⟨_, rfl⟩))))
  go_wp2_with (fail)
  go_loopg [3] q (fun kq v3 w' => ∃ i : Nat, v3 = .int .i64 (i : Int) ∧ i ≤ q ∧ Aside0 (kq + i = q) ∧ Aside0 (∃ n, w' = w2.drewN n))
  case atStart => exact ⟨0, rfl, Nat.zero_le _, ⟨by omega⟩, ⟨_, rfl⟩⟩
  case round =>
    obtain ⟨i, rfl, hi, HK, HW⟩ := hrel
    have HWN : Aside0 (∀ n, ∃ k, wr.drewN n = w2.drewN k) := ⟨fun n => by obtain ⟨n0, hn0⟩ := HW.out; exact ⟨n0 + n, by rw [hn0, World.drewN_drewN]⟩⟩
    have x0r : wr.cell? ⟨W.heap.size, 0, none⟩ = some (.pointer (some ⟨g, 0, none⟩)) := by obtain ⟨n0, hn0⟩ := HW.out; rw [hn0]; exact x0
    have x1r : wr.cell? ⟨W.heap.size, 1, none⟩ = some (.slice A0 q cp) := by obtain ⟨n0, hn0⟩ := HW.out; rw [hn0]; exact x1
    by_cases hlt : i < q
    · obtain ⟨kk, rfl⟩ : ∃ kk, gk = kk + 1 := ⟨gk - 1, by have := HK.out; omega⟩
      have hil : i < l.length := by rw [← HQ.out]; exact hlt
      obtain ⟨c, cap, hv, p0'⟩ := HL.out.at_ i hil
      have p0 : wr.cell? ⟨c, i, none⟩ = some (.int .i64 (l.getD i 0)) := by obtain ⟨n0, hn0⟩ := HW.out; rw [hn0]; exact p0'
      clear p0'
      injection hv with e1 e2 e3
      have hx := HR.out.tick (List.getElem_mem hil)
      rw [gD l i hil] at p0
      obtain ⟨x, hx'⟩ : ∃ x, x = l[i] := ⟨_, rfl⟩
      rw [← hx'] at hx p0
      have HH : Aside0 (hasB S x = true) := ⟨(hasB_iff S x).2 hx⟩
      have hx0 : 0 ≤ x := hx.1
      have hx1 : x < 262144 := hx.2.1
      have hxq : Int.tdiv x 64 = x / 64 := Int.tdiv_eq_ediv_of_nonneg hx0
      have hxq2 : Int.tdiv x 4096 = x / 4096 := Int.tdiv_eq_ediv_of_nonneg hx0
      subst e1
      subst e3
      clear e2 hx hx' hil
      have CHx := Aside0.mk (fun w hw => CH.out x w hw)
      rw [HH.out] at CHx
      obtain ⟨d1, hd1⟩ : ∃ d, d = lowV S (x / 64) := ⟨_, rfl⟩
      obtain ⟨d2, hd2⟩ : ∃ d, d = midV S (x / 4096) := ⟨_, rfl⟩
      have CLx := Aside0.mk (fun w hw => CL.out (x / 64) w hw)
      have CMx := Aside0.mk (fun w hw => CM.out (x / 4096) w hw)
      have RLx := Aside0.mk (fun w hw => RL.out (x / 64) w hw)
      have RMx := Aside0.mk (fun w hw => RM.out (x / 4096) w hw)
      rw [← hd1] at CLx RLx
      rw [← hd2] at CMx RMx
      have ed1 : ((d1 : Int) != (d1 : Int)) = false := bne_self_eq_false' (a := (d1 : Int))
      have ed2 : ((d2 : Int) != (d2 : Int)) = false := bne_self_eq_false' (a := (d2 : Int))
      have hi2 : (i : Int) < (q : Int) := by omega
      clear hd1 hd2
      go_wp2_with (fail)
      go_quiet ((first
        | (go_at_call 13; exact Calls.quiet_of_same (CHx.out _ (HWN.out _)))
        | (go_at_call 25; exact Calls.quiet_of_same (CLx.out _ (HWN.out _)))
        | (go_at_call 41; exact Calls.quiet_of_same (CMx.out _ (HWN.out _)))
        | (go_at_call 43; exact Calls.quiet_of (RLx.out _ (HWN.out _)))
        | (go_at_call 42; exact Calls.quiet_of (RMx.out _ (HWN.out _)))))
      go_wp2_with (fail)
      go_roundg kk
      case measure => omega
      case rel => exact ⟨i + 1, by simp, hlt, ⟨by have := HK.out; omega⟩, ⟨HWN.out _⟩⟩
    · obtain rfl : i = q := by omega
      go_wp2
      go_ret
      obtain ⟨n0, hn0⟩ := HW.out
      rw [hn0]
      exact ⟨rfl, HM.out.drewN _, HF.out.drewN _⟩
end Go.Proofs.YtgcelkndgjjbdaaDoor.PBm
