/- step: one call on both. -/
import Derived.Test.YtmcaoecmjibegaaIzI
import Derived.Test.YtmcaoecmjibegaaIzG
import Derived.Deep.RegionHeld3
import Derived.BigQuiet
import Derived.WalkSmall
namespace Go.Proofs.Ytmcaoecmjibegaa.PIx
open Go.RowKit Go.Proofs.YtmcaoecmjibegaaW.PrintWords Go.Proofs.YtmcaoecmjibegaaW.PrintLast Go.Proofs.YtmcaoecmjibegaaW.PrintMore
set_option linter.unusedVariables false
set_option linter.unusedSimpArgs false

/-- The two boxes lie where they lay. -/
theorem box_fr {W w2 w3 : World} {g b g2 b2 : Nat} {S : Nat → Prop} {o1 o2 : Obj} (h1 : w2.heap[W.heap.size]? = some o1) (h2 : w2.heap[W.heap.size + 1]? = some o2) (hS : ∀ i, S i → i < W.heap.size) (f : Fr S w2 w3) : w3.heap[W.heap.size]? = some o1 ∧ w3.heap[W.heap.size + 1]? = some o2 :=
  ⟨(f.block _ (Array.getElem?_eq_some_iff.1 h1).1 (fun e => by have := hS _ e; omega)).trans h1, (f.block _ (Array.getElem?_eq_some_iff.1 h2).1 (fun e => by have := hS _ e; omega)).trans h2⟩
theorem fr_of_below {W w2 w3 : World} {S : Nat → Prop} (h : Below W.heap.size W w2) (f : Fr S w2 w3) : Fr S W w3 := ((Fr.refl S W).below h).trans f (fun i hi => .inl hi)

theorem fit_clear {room keys : Int} {bits : Nat} {pl : List S72} (h : Fit room keys bits pl) : Fit room 0 bits (List.replicate (2 ^ bits) z72) := by
  have hz : ∀ i, us (List.replicate (2 ^ bits) z72) i = false := by
    intro i
    by_cases c : i < (List.replicate (2 ^ bits) z72).length
    · rw [us_get c, List.getElem_replicate]; rfl
    · exact us_out (by omega)
  refine ⟨by simp, h.hb, fun i j _ _ hu => ?_, fun i _ hu => ?_, ?_, by have := h.one; omega, h.one, h.two, fun i _ => ?_⟩
  · rw [hz] at hu; simp at hu
  · rw [hz] at hu; simp at hu
  · unfold cnt
    rw [List.countP_replicate]
    simp [z72, z59]
  · unfold vl pa
    rw [List.getD_eq_getElem?_getD]
    cases c : (List.replicate (2 ^ bits) z72)[i]? with
    | none => rfl
    | some x =>
      rw [List.getElem?_replicate] at c
      split at c
      · injection c with c; rw [← c]; rfl
      · cases c
theorem box_cells {W w2 w3 : World} {S : Nat → Prop} {g g2 : Nat} {kind key v n : Int} {oth : Bool} (h1 : w2.heap[W.heap.size]? = some (.cells #[.pointer (some ⟨g, 0, none⟩), .pointer (some ⟨g2, 0, none⟩)] 26 (0, 0))) (h2 : w2.heap[W.heap.size + 1]? = some (.cells #[.int .i64 kind, .bool oth, .int .u64 key, .int .i64 v, .int .i64 n] 62 (0, 0))) (hS : ∀ i, S i → i < W.heap.size) (f : Fr S w2 w3) :
    w3.cell? ⟨W.heap.size, 0, none⟩ = some (.pointer (some ⟨g, 0, none⟩)) ∧ w3.cell? ⟨W.heap.size, 1, none⟩ = some (.pointer (some ⟨g2, 0, none⟩)) ∧ w3.cell? ⟨W.heap.size + 1, 2, none⟩ = some (.int .u64 key) ∧ w3.cell? ⟨W.heap.size + 1, 3, none⟩ = some (.int .i64 v) := by
  have a1 := f.blk h1 (fun e => by have := hS _ e; omega)
  have a2 := f.blk h2 (fun e => by have := hS _ e; omega)
  exact ⟨(blk_cell a1 0).trans rfl, (blk_cell a1 1).trans rfl, (blk_cell a2 2).trans rfl, (blk_cell a2 3).trans rfl⟩
theorem clear_live {W : World} {g b : Nat} {room keys : Int} {bits : Nat} {pl : List S72} (h : Live W g b room keys bits pl) :
    Calls Try.prog 26 #[.pointer (some ⟨g, 0, none⟩)] W fun e W' => e = .returned (.tuple #[]) ∧ ∃ b, W.heap.size ≤ b ∧ Live W' g b room 0 bits (List.replicate (2 ^ bits) z72) ∧ Fr (fun k => k = g) W W' := by
  obtain ⟨hi, hf, hr⟩ := h
  obtain ⟨c, hh, _⟩ := hi
  refine (clear_calls g room keys bits _ W hf.hb hh).mono ?_
  rintro e w' ⟨rfl, b', h1, h2, h3⟩
  exact ⟨rfl, b', h1, ⟨h2, fit_clear hf, hr⟩, h3⟩

set_option maxHeartbeats 16000000 in
set_option maxRecDepth 100000 in
theorem step_0 {W : World} {g b g2 b2 : Nat} {room keys : Int} {bits : Nat} {pl : List S72} (oth : Bool) (key v n : Int) (h : Pr W g b g2 b2 room keys bits pl) :
    Calls Try.prog 23 #[.agg #[.pointer (some ⟨g, 0, none⟩), .pointer (some ⟨g2, 0, none⟩)], .agg #[.int .i64 0, .bool oth, .int .u64 key, .int .i64 v, .int .i64 n]] W fun e w' => e = .returned (.bool true) ∧ Stepped W g b g2 b2 room bits w' := by
  obtain ⟨p, hpe⟩ := h.x.2.1.wf.ends key
  have HPE := Aside0.mk hpe
  obtain ⟨w2, hw2⟩ : ∃ w2, w2 = (W.alloc (.cells #[.pointer (some ⟨g, 0, none⟩), .pointer (some ⟨g2, 0, none⟩)] 26)).alloc (.cells #[.int .i64 0, .bool oth, .int .u64 key, .int .i64 v, .int .i64 n] 62) := ⟨_, rfl⟩
  have s1 : (W.alloc (.cells #[.pointer (some ⟨g, 0, none⟩), .pointer (some ⟨g2, 0, none⟩)] 26)).heap.size = W.heap.size + 1 := World.size_alloc _ _
  have hB2 : Below W.heap.size W w2 := by rw [hw2]; exact ((Below.refl _ W).alloc (Nat.le_refl _) _).alloc (by rw [s1]; omega) _
  have hP2 : w2.heap[W.heap.size]? = some (.cells #[.pointer (some ⟨g, 0, none⟩), .pointer (some ⟨g2, 0, none⟩)] 26 (0, 0)) := by
    rw [hw2]
    exact (Below.heap_alloc _ _ _ (by rw [s1]; omega)).trans (heap_alloc_new W _)
  have hO2 : w2.heap[W.heap.size + 1]? = some (.cells #[.int .i64 0, .bool oth, .int .u64 key, .int .i64 v, .int .i64 n] 62 (0, 0)) := by
    have := heap_alloc_new (W.alloc (.cells #[.pointer (some ⟨g, 0, none⟩), .pointer (some ⟨g2, 0, none⟩)] 26)) (.cells #[.int .i64 0, .bool oth, .int .u64 key, .int .i64 v, .int .i64 n] 62)
    rw [s1] at this
    rw [hw2]
    exact this
  have K0 := Aside0.mk (And.intro hB2 (And.intro hP2 hO2))
  have HW2 := Aside0.mk hw2
  have HP2 : Aside0 (Pr w2 g b g2 b2 room keys bits pl) := ⟨h.below hB2⟩
  have HLT : Aside0 (g < W.heap.size ∧ b < W.heap.size ∧ g2 < W.heap.size ∧ b2 < W.heap.size) := ⟨h.lt⟩
  have cP0 : w2.cell? ⟨W.heap.size, 0, none⟩ = some (.pointer (some ⟨g, 0, none⟩)) := (blk_cell hP2 0).trans rfl
  have cP1 : w2.cell? ⟨W.heap.size, 1, none⟩ = some (.pointer (some ⟨g2, 0, none⟩)) := (blk_cell hP2 1).trans rfl
  have cO0 : w2.cell? ⟨W.heap.size + 1, 0, none⟩ = some (.int .i64 0) := (blk_cell hO2 0).trans rfl
  have cO1 : w2.cell? ⟨W.heap.size + 1, 1, none⟩ = some (.bool oth) := (blk_cell hO2 1).trans rfl
  have cO2 : w2.cell? ⟨W.heap.size + 1, 2, none⟩ = some (.int .u64 key) := (blk_cell hO2 2).trans rfl
  have cO3 : w2.cell? ⟨W.heap.size + 1, 3, none⟩ = some (.int .i64 v) := (blk_cell hO2 3).trans rfl
  have cO4 : w2.cell? ⟨W.heap.size + 1, 4, none⟩ = some (.int .i64 n) := (blk_cell hO2 4).trans rfl
  clear h hpe hw2 s1 hB2 hP2 hO2
  go_enter Try.func23, Try.ntmps23
  go_upto_region 1 with (fail)
  rw [← HW2.out]
  have HX : Aside0 (∀ w1, Live w1 g b room keys bits pl → Calls Try.prog 19 #[.pointer (some ⟨g, 0, none⟩), .int .u64 key, .int .i64 v] w1 fun e w' => e = .returned (.int .i64 (puR room keys pl p)) ∧ Live w' g b room (puK room keys pl p) bits (puL room keys pl p key v) ∧ Fr (fun i => i = g ∨ i = b) w1 w') := ⟨fun w1 h1 => put_all h1 key v HPE.out⟩
  have HY : Aside0 (∀ w1, Rt w1 g2 b2 room keys pl → Calls Try.prog 33 #[.pointer (some ⟨g2, 0, none⟩), .int .u64 key, .int .i64 v] w1 fun e w' => e = .returned (.int .i64 (puR room keys pl p)) ∧ Rt w' g2 b2 room (puK room keys pl p) (puL room keys pl p key v) ∧ Fr (fun i => i = g2 ∨ i = b2) w1 w') := ⟨fun w1 h1 => rput_all h1 HP2.out.x.2.1 HP2.out.x.2.2 key v HPE.out⟩
  obtain ⟨rc, hrc⟩ : ∃ rc, rc = puR room keys pl p := ⟨_, rfl⟩
  obtain ⟨k', hk'⟩ : ∃ k', k' = puK room keys pl p := ⟨_, rfl⟩
  obtain ⟨pl', hpl'⟩ : ∃ pl', pl' = puL room keys pl p key v := ⟨_, rfl⟩
  rw [← hrc, ← hk', ← hpl'] at HX HY
  clear hrc hk' hpl'
  have e0 : ((rc : Int) == rc) = true := beq_self_eq_true rc
  go_wp2_with (fail)
  have HS0 : Aside0 ((fun w' : World => w'.cell? ⟨W.heap.size, 0, none⟩ = some (.pointer (some ⟨g, 0, none⟩)) ∧ w'.cell? ⟨W.heap.size, 1, none⟩ = some (.pointer (some ⟨g2, 0, none⟩)) ∧ w'.cell? ⟨W.heap.size + 1, 2, none⟩ = some (.int .u64 key) ∧ w'.cell? ⟨W.heap.size + 1, 3, none⟩ = some (.int .i64 v)) w2.drew) := ⟨⟨cP0, cP1, cO2, cO3⟩⟩
  have HPD : Aside0 (Pr w2.drew g b g2 b2 room keys bits pl) := ⟨HP2.out.keep rfl rfl rfl rfl⟩
  clear cP0 cP1 cO0 cO1 cO2 cO3 cO4
  go_region_held3 (fun w' => w'.cell? ⟨W.heap.size, 0, none⟩ = some (.pointer (some ⟨g, 0, none⟩)) ∧ w'.cell? ⟨W.heap.size, 1, none⟩ = some (.pointer (some ⟨g2, 0, none⟩)) ∧ w'.cell? ⟨W.heap.size + 1, 2, none⟩ = some (.int .u64 key) ∧ w'.cell? ⟨W.heap.size + 1, 3, none⟩ = some (.int .i64 v))
    (first | exact HS4.out | exact HS3.out | exact HS0.out)
    (first
    | (go_at_call 19; refine (HX.out _ HPD.out.x).mono ?_; rintro e w3 ⟨rfl, l3, f3⟩; have HL3 := Aside0.mk l3; have HF3 := Aside0.mk f3; have HS3 := Aside0.mk (box_cells (w2 := w2.drew) K0.out.2.1 K0.out.2.2 (fun i hi => by have := HLT.out; omega) f3); clear l3 f3)
    | (go_at_call 33; refine (HY.out _ (HPD.out.y1 HF3.out)).mono ?_; rintro e w4 ⟨rfl, l4, f4⟩; have HB4 := Aside0.mk (HPD.out.both HL3.out HF3.out l4 f4); have HS4 := Aside0.mk (box_cells (w2 := w2.drew) K0.out.2.1 K0.out.2.2 (fun i hi => by have := HLT.out; omega) (HPD.out.both HL3.out HF3.out l4 f4).2); clear l4 f4))
  all_goals go_wp2
  all_goals go_ret
  all_goals exact ⟨rfl, b, b2, k', pl', HB4.out.1, .inl rfl, .inl rfl, fr_of_below (pw_below_drewN K0.out.1 1) HB4.out.2⟩

set_option maxHeartbeats 16000000 in
set_option maxRecDepth 100000 in
theorem step_1 {W : World} {g b g2 b2 : Nat} {room keys : Int} {bits : Nat} {pl : List S72} (oth : Bool) (key v n : Int) (h : Pr W g b g2 b2 room keys bits pl) :
    Calls Try.prog 23 #[.agg #[.pointer (some ⟨g, 0, none⟩), .pointer (some ⟨g2, 0, none⟩)], .agg #[.int .i64 1, .bool oth, .int .u64 key, .int .i64 v, .int .i64 n]] W fun e w' => e = .returned (.bool true) ∧ Stepped W g b g2 b2 room bits w' := by
  obtain ⟨p, hpe⟩ := h.x.2.1.wf.ends key
  have HPE := Aside0.mk hpe
  obtain ⟨w2, hw2⟩ : ∃ w2, w2 = (W.alloc (.cells #[.pointer (some ⟨g, 0, none⟩), .pointer (some ⟨g2, 0, none⟩)] 26)).alloc (.cells #[.int .i64 1, .bool oth, .int .u64 key, .int .i64 v, .int .i64 n] 62) := ⟨_, rfl⟩
  have s1 : (W.alloc (.cells #[.pointer (some ⟨g, 0, none⟩), .pointer (some ⟨g2, 0, none⟩)] 26)).heap.size = W.heap.size + 1 := World.size_alloc _ _
  have hB2 : Below W.heap.size W w2 := by rw [hw2]; exact ((Below.refl _ W).alloc (Nat.le_refl _) _).alloc (by rw [s1]; omega) _
  have hP2 : w2.heap[W.heap.size]? = some (.cells #[.pointer (some ⟨g, 0, none⟩), .pointer (some ⟨g2, 0, none⟩)] 26 (0, 0)) := by
    rw [hw2]
    exact (Below.heap_alloc _ _ _ (by rw [s1]; omega)).trans (heap_alloc_new W _)
  have hO2 : w2.heap[W.heap.size + 1]? = some (.cells #[.int .i64 1, .bool oth, .int .u64 key, .int .i64 v, .int .i64 n] 62 (0, 0)) := by
    have := heap_alloc_new (W.alloc (.cells #[.pointer (some ⟨g, 0, none⟩), .pointer (some ⟨g2, 0, none⟩)] 26)) (.cells #[.int .i64 1, .bool oth, .int .u64 key, .int .i64 v, .int .i64 n] 62)
    rw [s1] at this
    rw [hw2]
    exact this
  have K0 := Aside0.mk (And.intro hB2 (And.intro hP2 hO2))
  have HW2 := Aside0.mk hw2
  have HP2 : Aside0 (Pr w2 g b g2 b2 room keys bits pl) := ⟨h.below hB2⟩
  have HLT : Aside0 (g < W.heap.size ∧ b < W.heap.size ∧ g2 < W.heap.size ∧ b2 < W.heap.size) := ⟨h.lt⟩
  have cP0 : w2.cell? ⟨W.heap.size, 0, none⟩ = some (.pointer (some ⟨g, 0, none⟩)) := (blk_cell hP2 0).trans rfl
  have cP1 : w2.cell? ⟨W.heap.size, 1, none⟩ = some (.pointer (some ⟨g2, 0, none⟩)) := (blk_cell hP2 1).trans rfl
  have cO0 : w2.cell? ⟨W.heap.size + 1, 0, none⟩ = some (.int .i64 1) := (blk_cell hO2 0).trans rfl
  have cO1 : w2.cell? ⟨W.heap.size + 1, 1, none⟩ = some (.bool oth) := (blk_cell hO2 1).trans rfl
  have cO2 : w2.cell? ⟨W.heap.size + 1, 2, none⟩ = some (.int .u64 key) := (blk_cell hO2 2).trans rfl
  have cO3 : w2.cell? ⟨W.heap.size + 1, 3, none⟩ = some (.int .i64 v) := (blk_cell hO2 3).trans rfl
  have cO4 : w2.cell? ⟨W.heap.size + 1, 4, none⟩ = some (.int .i64 n) := (blk_cell hO2 4).trans rfl
  clear h hpe hw2 s1 hB2 hP2 hO2
  go_enter Try.func23, Try.ntmps23
  go_upto_region 1 with (fail)
  rw [← HW2.out]
  have HX := Aside0.mk (get_calls key p HP2.out.x.1 HP2.out.x.2.1 HPE.out)
  have HY : Aside0 (∀ w1, Rt w1 g2 b2 room keys pl → Calls Try.prog 34 #[.pointer (some ⟨g2, 0, none⟩), .int .u64 key] w1 fun e w' => e = .returned (.tuple #[.int .i64 (vl pl p), .bool (us pl p)]) ∧ ∃ m, w' = w1.drewN m) := ⟨fun w1 h1 => rget_calls key p h1 HP2.out.x.2.1 HPE.out⟩
  obtain ⟨x, hx⟩ : ∃ x, x = vl pl p := ⟨_, rfl⟩
  obtain ⟨u, hu⟩ : ∃ x, x = us pl p := ⟨_, rfl⟩
  rw [← hx, ← hu] at HX HY
  clear hx hu
  have e0 : ((x : Int) == x) = true := beq_self_eq_true x
  have e1 : (u == u) = true := beq_self_eq_true u
  go_wp2_with (first
    | ((with_reducible refine gate_callee (f := 20) rfl ?_); (try (refine gate_guard (by rfl) ?_; dsimp only)); refine goesL_ (some 39) rfl rfl Try.func20 (by kernel_rfl) rfl #[.pointer (some ⟨g, 0, none⟩), .int .u64 key] rfl (by (try simp only [List.map_toArray, List.map_cons, List.map_nil]); first | done | rfl) ?_; (with_reducible refine (HX.out).mono ?_); rintro e w3 ⟨rfl, hb3⟩; refine ⟨_, rfl, ?_⟩; have HB3 := Aside0.mk hb3; have dP1 : w3.cell? ⟨W.heap.size, 1, none⟩ = some (.pointer (some ⟨g2, 0, none⟩)) := (blk_cell (blk_below K0.out.2.1 hb3) 1).trans rfl; have dO2 : w3.cell? ⟨W.heap.size + 1, 2, none⟩ = some (.int .u64 key) := (blk_cell (blk_below K0.out.2.2 hb3) 2).trans rfl; have HY3 := Aside0.mk (HP2.out.below hb3).y; clear hb3)
    | ((with_reducible refine gate_callee (f := 34) rfl ?_); (try (refine gate_guard (by rfl) ?_; dsimp only)); refine goesL_ (some 47) rfl rfl Try.func34 (by kernel_rfl) rfl #[.pointer (some ⟨g2, 0, none⟩), .int .u64 key] rfl (by (try simp only [List.map_toArray, List.map_cons, List.map_nil]); first | done | rfl) ?_; (with_reducible refine (HY.out _ HY3.out).mono ?_); rintro e w4 ⟨rfl, m4, h4⟩; refine ⟨_, rfl, ?_⟩; subst w4))
  go_ret
  exact ⟨rfl, b, b2, keys, pl, (HP2.out.below HB3.out).keep rfl rfl rfl rfl, .inl rfl, .inl rfl, (fr_of_below K0.out.1 ((Fr.refl _ _).below HB3.out)).drewN m4⟩

set_option maxHeartbeats 16000000 in
set_option maxRecDepth 100000 in
theorem step_2 {W : World} {g b g2 b2 : Nat} {room keys : Int} {bits : Nat} {pl : List S72} (oth : Bool) (key v n : Int) (h : Pr W g b g2 b2 room keys bits pl) :
    Calls Try.prog 23 #[.agg #[.pointer (some ⟨g, 0, none⟩), .pointer (some ⟨g2, 0, none⟩)], .agg #[.int .i64 2, .bool oth, .int .u64 key, .int .i64 v, .int .i64 n]] W fun e w' => e = .returned (.bool true) ∧ Stepped W g b g2 b2 room bits w' := by
  obtain ⟨p, hpe⟩ := h.x.2.1.wf.ends key
  have HPE := Aside0.mk hpe
  obtain ⟨w2, hw2⟩ : ∃ w2, w2 = (W.alloc (.cells #[.pointer (some ⟨g, 0, none⟩), .pointer (some ⟨g2, 0, none⟩)] 26)).alloc (.cells #[.int .i64 2, .bool oth, .int .u64 key, .int .i64 v, .int .i64 n] 62) := ⟨_, rfl⟩
  have s1 : (W.alloc (.cells #[.pointer (some ⟨g, 0, none⟩), .pointer (some ⟨g2, 0, none⟩)] 26)).heap.size = W.heap.size + 1 := World.size_alloc _ _
  have hB2 : Below W.heap.size W w2 := by rw [hw2]; exact ((Below.refl _ W).alloc (Nat.le_refl _) _).alloc (by rw [s1]; omega) _
  have hP2 : w2.heap[W.heap.size]? = some (.cells #[.pointer (some ⟨g, 0, none⟩), .pointer (some ⟨g2, 0, none⟩)] 26 (0, 0)) := by
    rw [hw2]
    exact (Below.heap_alloc _ _ _ (by rw [s1]; omega)).trans (heap_alloc_new W _)
  have hO2 : w2.heap[W.heap.size + 1]? = some (.cells #[.int .i64 2, .bool oth, .int .u64 key, .int .i64 v, .int .i64 n] 62 (0, 0)) := by
    have := heap_alloc_new (W.alloc (.cells #[.pointer (some ⟨g, 0, none⟩), .pointer (some ⟨g2, 0, none⟩)] 26)) (.cells #[.int .i64 2, .bool oth, .int .u64 key, .int .i64 v, .int .i64 n] 62)
    rw [s1] at this
    rw [hw2]
    exact this
  have K0 := Aside0.mk (And.intro hB2 (And.intro hP2 hO2))
  have HW2 := Aside0.mk hw2
  have HP2 : Aside0 (Pr w2 g b g2 b2 room keys bits pl) := ⟨h.below hB2⟩
  have HLT : Aside0 (g < W.heap.size ∧ b < W.heap.size ∧ g2 < W.heap.size ∧ b2 < W.heap.size) := ⟨h.lt⟩
  have cP0 : w2.cell? ⟨W.heap.size, 0, none⟩ = some (.pointer (some ⟨g, 0, none⟩)) := (blk_cell hP2 0).trans rfl
  have cP1 : w2.cell? ⟨W.heap.size, 1, none⟩ = some (.pointer (some ⟨g2, 0, none⟩)) := (blk_cell hP2 1).trans rfl
  have cO0 : w2.cell? ⟨W.heap.size + 1, 0, none⟩ = some (.int .i64 2) := (blk_cell hO2 0).trans rfl
  have cO1 : w2.cell? ⟨W.heap.size + 1, 1, none⟩ = some (.bool oth) := (blk_cell hO2 1).trans rfl
  have cO2 : w2.cell? ⟨W.heap.size + 1, 2, none⟩ = some (.int .u64 key) := (blk_cell hO2 2).trans rfl
  have cO3 : w2.cell? ⟨W.heap.size + 1, 3, none⟩ = some (.int .i64 v) := (blk_cell hO2 3).trans rfl
  have cO4 : w2.cell? ⟨W.heap.size + 1, 4, none⟩ = some (.int .i64 n) := (blk_cell hO2 4).trans rfl
  clear h hpe hw2 s1 hB2 hP2 hO2
  go_enter Try.func23, Try.ntmps23
  go_upto_region 1 with (fail)
  rw [← HW2.out]
  have HX := Aside0.mk (drop_all HP2.out.x key HPE.out)
  have HY : Aside0 (∀ w1, Rt w1 g2 b2 room keys pl → Calls Try.prog 35 #[.pointer (some ⟨g2, 0, none⟩), .int .u64 key] w1 fun e w' => e = .returned (.tuple #[.int .i64 (dpV pl p), .bool (us pl p)]) ∧ Rt w' g2 b2 room (dpK keys pl p) (dpL bits pl p) ∧ Fr (fun i => i = g2 ∨ i = b2) w1 w') := ⟨fun w1 h1 => rdrop_all h1 HP2.out.x.2.1 HP2.out.x.2.2 key HPE.out⟩
  obtain ⟨x, hx⟩ : ∃ x, x = dpV pl p := ⟨_, rfl⟩
  obtain ⟨u, hu⟩ : ∃ x, x = us pl p := ⟨_, rfl⟩
  obtain ⟨k', hk'⟩ : ∃ k', k' = dpK keys pl p := ⟨_, rfl⟩
  obtain ⟨pl', hpl'⟩ : ∃ pl', pl' = dpL bits pl p := ⟨_, rfl⟩
  rw [← hx, ← hu, ← hk', ← hpl'] at HX HY
  clear hx hu hk' hpl'
  have e0 : ((x : Int) == x) = true := beq_self_eq_true x
  have e1 : (u == u) = true := beq_self_eq_true u
  go_wp2_with (first
    | ((with_reducible refine gate_callee (f := 18) rfl ?_); (try (refine gate_guard (by rfl) ?_; dsimp only)); refine goesL_ (some 65) rfl rfl Try.func18 (by kernel_rfl) rfl #[.pointer (some ⟨g, 0, none⟩), .int .u64 key] rfl (by (try simp only [List.map_toArray, List.map_cons, List.map_nil]); first | done | rfl) ?_; (with_reducible refine (HX.out).mono ?_); rintro e w3 ⟨rfl, l3, f3⟩; refine ⟨_, rfl, ?_⟩; have HL3 := Aside0.mk l3; have HF3 := Aside0.mk f3; have HC3 := Aside0.mk (box_cells K0.out.2.1 K0.out.2.2 (fun i hi => by have := HLT.out; omega) f3); have dP1 := HC3.out.2.1; have dO2 := HC3.out.2.2.1; have HY3 := Aside0.mk (HP2.out.y1 f3); clear l3 f3)
    | ((with_reducible refine gate_callee (f := 35) rfl ?_); (try (refine gate_guard (by rfl) ?_; dsimp only)); refine goesL_ (some 73) rfl rfl Try.func35 (by kernel_rfl) rfl #[.pointer (some ⟨g2, 0, none⟩), .int .u64 key] rfl (by (try simp only [List.map_toArray, List.map_cons, List.map_nil]); first | done | rfl) ?_; (with_reducible refine (HY.out _ HY3.out).mono ?_); rintro e w4 ⟨rfl, l4, f4⟩; refine ⟨_, rfl, ?_⟩; have HB4 := Aside0.mk (HP2.out.both HL3.out HF3.out l4 f4); clear l4 f4))
  go_ret
  exact ⟨rfl, b, b2, k', pl', HB4.out.1, .inl rfl, .inl rfl, fr_of_below K0.out.1 HB4.out.2⟩

set_option maxHeartbeats 16000000 in
set_option maxRecDepth 100000 in
theorem step_3 {W : World} {g b g2 b2 : Nat} {room keys : Int} {bits : Nat} {pl : List S72} (oth : Bool) (key v n : Int) (h : Pr W g b g2 b2 room keys bits pl) :
    Calls Try.prog 23 #[.agg #[.pointer (some ⟨g, 0, none⟩), .pointer (some ⟨g2, 0, none⟩)], .agg #[.int .i64 3, .bool oth, .int .u64 key, .int .i64 v, .int .i64 n]] W fun e w' => e = .returned (.bool true) ∧ Stepped W g b g2 b2 room bits w' := by
  obtain ⟨p, hpe⟩ := h.x.2.1.wf.ends key
  have HPE := Aside0.mk hpe
  obtain ⟨w2, hw2⟩ : ∃ w2, w2 = (W.alloc (.cells #[.pointer (some ⟨g, 0, none⟩), .pointer (some ⟨g2, 0, none⟩)] 26)).alloc (.cells #[.int .i64 3, .bool oth, .int .u64 key, .int .i64 v, .int .i64 n] 62) := ⟨_, rfl⟩
  have s1 : (W.alloc (.cells #[.pointer (some ⟨g, 0, none⟩), .pointer (some ⟨g2, 0, none⟩)] 26)).heap.size = W.heap.size + 1 := World.size_alloc _ _
  have hB2 : Below W.heap.size W w2 := by rw [hw2]; exact ((Below.refl _ W).alloc (Nat.le_refl _) _).alloc (by rw [s1]; omega) _
  have hP2 : w2.heap[W.heap.size]? = some (.cells #[.pointer (some ⟨g, 0, none⟩), .pointer (some ⟨g2, 0, none⟩)] 26 (0, 0)) := by
    rw [hw2]
    exact (Below.heap_alloc _ _ _ (by rw [s1]; omega)).trans (heap_alloc_new W _)
  have hO2 : w2.heap[W.heap.size + 1]? = some (.cells #[.int .i64 3, .bool oth, .int .u64 key, .int .i64 v, .int .i64 n] 62 (0, 0)) := by
    have := heap_alloc_new (W.alloc (.cells #[.pointer (some ⟨g, 0, none⟩), .pointer (some ⟨g2, 0, none⟩)] 26)) (.cells #[.int .i64 3, .bool oth, .int .u64 key, .int .i64 v, .int .i64 n] 62)
    rw [s1] at this
    rw [hw2]
    exact this
  have K0 := Aside0.mk (And.intro hB2 (And.intro hP2 hO2))
  have HW2 := Aside0.mk hw2
  have HP2 : Aside0 (Pr w2 g b g2 b2 room keys bits pl) := ⟨h.below hB2⟩
  have HLT : Aside0 (g < W.heap.size ∧ b < W.heap.size ∧ g2 < W.heap.size ∧ b2 < W.heap.size) := ⟨h.lt⟩
  have cP0 : w2.cell? ⟨W.heap.size, 0, none⟩ = some (.pointer (some ⟨g, 0, none⟩)) := (blk_cell hP2 0).trans rfl
  have cP1 : w2.cell? ⟨W.heap.size, 1, none⟩ = some (.pointer (some ⟨g2, 0, none⟩)) := (blk_cell hP2 1).trans rfl
  have cO0 : w2.cell? ⟨W.heap.size + 1, 0, none⟩ = some (.int .i64 3) := (blk_cell hO2 0).trans rfl
  have cO1 : w2.cell? ⟨W.heap.size + 1, 1, none⟩ = some (.bool oth) := (blk_cell hO2 1).trans rfl
  have cO2 : w2.cell? ⟨W.heap.size + 1, 2, none⟩ = some (.int .u64 key) := (blk_cell hO2 2).trans rfl
  have cO3 : w2.cell? ⟨W.heap.size + 1, 3, none⟩ = some (.int .i64 v) := (blk_cell hO2 3).trans rfl
  have cO4 : w2.cell? ⟨W.heap.size + 1, 4, none⟩ = some (.int .i64 n) := (blk_cell hO2 4).trans rfl
  clear h hpe hw2 s1 hB2 hP2 hO2
  go_enter Try.func23, Try.ntmps23
  go_upto_region 1 with (fail)
  rw [← HW2.out]
  have e0 : ((keys : Int) == keys) = true := beq_self_eq_true keys
  have e1 : ((room : Int) == room) = true := beq_self_eq_true room
  obtain ⟨c2, ⟨r0, r1, _⟩, _, _⟩ := HP2.out.y.cells
  have HI : Aside0 (∀ m, Ix (w2.drewN m) g b room keys bits pl) := ⟨fun m => HP2.out.x.1.keep rfl rfl⟩
  go_wp2_with (fail)
  go_quiet (first | (go_at_call 14; exact Calls.quiet_of_same (len_calls (HI.out _))) | (go_at_call 13; exact Calls.quiet_of_same (room_calls (HI.out _))))
  go_wp2
  go_ret
  exact ⟨rfl, b, b2, keys, pl, HP2.out.keep rfl rfl rfl rfl, .inl rfl, .inl rfl, (fr_of_below K0.out.1 (Fr.refl _ _)).drewN _⟩

set_option maxHeartbeats 16000000 in
set_option maxRecDepth 100000 in
theorem step_4 {W : World} {g b g2 b2 : Nat} {room keys : Int} {bits : Nat} {pl : List S72} (oth : Bool) (key v n : Int) (h : Pr W g b g2 b2 room keys bits pl) :
    Calls Try.prog 23 #[.agg #[.pointer (some ⟨g, 0, none⟩), .pointer (some ⟨g2, 0, none⟩)], .agg #[.int .i64 4, .bool oth, .int .u64 key, .int .i64 v, .int .i64 n]] W fun e w' => e = .returned (.bool true) ∧ Stepped W g b g2 b2 room bits w' := by
  obtain ⟨p, hpe⟩ := h.x.2.1.wf.ends key
  have HPE := Aside0.mk hpe
  obtain ⟨w2, hw2⟩ : ∃ w2, w2 = (W.alloc (.cells #[.pointer (some ⟨g, 0, none⟩), .pointer (some ⟨g2, 0, none⟩)] 26)).alloc (.cells #[.int .i64 4, .bool oth, .int .u64 key, .int .i64 v, .int .i64 n] 62) := ⟨_, rfl⟩
  have s1 : (W.alloc (.cells #[.pointer (some ⟨g, 0, none⟩), .pointer (some ⟨g2, 0, none⟩)] 26)).heap.size = W.heap.size + 1 := World.size_alloc _ _
  have hB2 : Below W.heap.size W w2 := by rw [hw2]; exact ((Below.refl _ W).alloc (Nat.le_refl _) _).alloc (by rw [s1]; omega) _
  have hP2 : w2.heap[W.heap.size]? = some (.cells #[.pointer (some ⟨g, 0, none⟩), .pointer (some ⟨g2, 0, none⟩)] 26 (0, 0)) := by
    rw [hw2]
    exact (Below.heap_alloc _ _ _ (by rw [s1]; omega)).trans (heap_alloc_new W _)
  have hO2 : w2.heap[W.heap.size + 1]? = some (.cells #[.int .i64 4, .bool oth, .int .u64 key, .int .i64 v, .int .i64 n] 62 (0, 0)) := by
    have := heap_alloc_new (W.alloc (.cells #[.pointer (some ⟨g, 0, none⟩), .pointer (some ⟨g2, 0, none⟩)] 26)) (.cells #[.int .i64 4, .bool oth, .int .u64 key, .int .i64 v, .int .i64 n] 62)
    rw [s1] at this
    rw [hw2]
    exact this
  have K0 := Aside0.mk (And.intro hB2 (And.intro hP2 hO2))
  have HW2 := Aside0.mk hw2
  have HP2 : Aside0 (Pr w2 g b g2 b2 room keys bits pl) := ⟨h.below hB2⟩
  have HLT : Aside0 (g < W.heap.size ∧ b < W.heap.size ∧ g2 < W.heap.size ∧ b2 < W.heap.size) := ⟨h.lt⟩
  have cP0 : w2.cell? ⟨W.heap.size, 0, none⟩ = some (.pointer (some ⟨g, 0, none⟩)) := (blk_cell hP2 0).trans rfl
  have cP1 : w2.cell? ⟨W.heap.size, 1, none⟩ = some (.pointer (some ⟨g2, 0, none⟩)) := (blk_cell hP2 1).trans rfl
  have cO0 : w2.cell? ⟨W.heap.size + 1, 0, none⟩ = some (.int .i64 4) := (blk_cell hO2 0).trans rfl
  have cO1 : w2.cell? ⟨W.heap.size + 1, 1, none⟩ = some (.bool oth) := (blk_cell hO2 1).trans rfl
  have cO2 : w2.cell? ⟨W.heap.size + 1, 2, none⟩ = some (.int .u64 key) := (blk_cell hO2 2).trans rfl
  have cO3 : w2.cell? ⟨W.heap.size + 1, 3, none⟩ = some (.int .i64 v) := (blk_cell hO2 3).trans rfl
  have cO4 : w2.cell? ⟨W.heap.size + 1, 4, none⟩ = some (.int .i64 n) := (blk_cell hO2 4).trans rfl
  clear h hpe hw2 s1 hB2 hP2 hO2
  go_enter Try.func23, Try.ntmps23
  go_upto_region 1 with (fail)
  rw [← HW2.out]
  have HX := Aside0.mk (goes_calls 4 oth key v n HP2.out.x HP2.out.y ⟨HP2.out.ne1, HP2.out.ne2, HP2.out.ne3, HP2.out.ne4⟩)
  go_wp2_with (first
    | ((with_reducible refine gate_callee (f := 36) rfl ?_); (try (refine gate_guard (by rfl) ?_; dsimp only)); refine goesL_ (some 110) rfl rfl Try.func36 (by kernel_rfl) rfl #[.agg #[.pointer (some ⟨g, 0, none⟩), .pointer (some ⟨g2, 0, none⟩)], .agg #[.int .i64 4, .bool oth, .int .u64 key, .int .i64 v, .int .i64 n]] rfl (by (try simp only [List.map_toArray, List.map_cons, List.map_nil]); first | done | rfl) ?_; (with_reducible refine (HX.out).mono ?_); rintro e w3 ⟨rfl, ⟨k', pl', l3, l4⟩, f3⟩; refine ⟨_, rfl, ?_⟩; have HL3 := Aside0.mk l3; have HL4 := Aside0.mk l4; have HF3 := Aside0.mk f3; clear l3 l4 f3))
  go_ret
  exact ⟨rfl, b, b2, k', pl', ⟨HL3.out, HL4.out, HP2.out.ne1, HP2.out.ne2, HP2.out.ne3, HP2.out.ne4⟩, .inl rfl, .inl rfl, fr_of_below K0.out.1 HF3.out⟩

set_option maxHeartbeats 16000000 in
set_option maxRecDepth 100000 in
theorem step_5 {W : World} {g b g2 b2 : Nat} {room keys : Int} {bits : Nat} {pl : List S72} (oth : Bool) (key v n : Int) (h : Pr W g b g2 b2 room keys bits pl) :
    Calls Try.prog 23 #[.agg #[.pointer (some ⟨g, 0, none⟩), .pointer (some ⟨g2, 0, none⟩)], .agg #[.int .i64 5, .bool oth, .int .u64 key, .int .i64 v, .int .i64 n]] W fun e w' => e = .returned (.bool true) ∧ Stepped W g b g2 b2 room bits w' := by
  obtain ⟨p, hpe⟩ := h.x.2.1.wf.ends key
  have HPE := Aside0.mk hpe
  obtain ⟨w2, hw2⟩ : ∃ w2, w2 = (W.alloc (.cells #[.pointer (some ⟨g, 0, none⟩), .pointer (some ⟨g2, 0, none⟩)] 26)).alloc (.cells #[.int .i64 5, .bool oth, .int .u64 key, .int .i64 v, .int .i64 n] 62) := ⟨_, rfl⟩
  have s1 : (W.alloc (.cells #[.pointer (some ⟨g, 0, none⟩), .pointer (some ⟨g2, 0, none⟩)] 26)).heap.size = W.heap.size + 1 := World.size_alloc _ _
  have hB2 : Below W.heap.size W w2 := by rw [hw2]; exact ((Below.refl _ W).alloc (Nat.le_refl _) _).alloc (by rw [s1]; omega) _
  have hP2 : w2.heap[W.heap.size]? = some (.cells #[.pointer (some ⟨g, 0, none⟩), .pointer (some ⟨g2, 0, none⟩)] 26 (0, 0)) := by
    rw [hw2]
    exact (Below.heap_alloc _ _ _ (by rw [s1]; omega)).trans (heap_alloc_new W _)
  have hO2 : w2.heap[W.heap.size + 1]? = some (.cells #[.int .i64 5, .bool oth, .int .u64 key, .int .i64 v, .int .i64 n] 62 (0, 0)) := by
    have := heap_alloc_new (W.alloc (.cells #[.pointer (some ⟨g, 0, none⟩), .pointer (some ⟨g2, 0, none⟩)] 26)) (.cells #[.int .i64 5, .bool oth, .int .u64 key, .int .i64 v, .int .i64 n] 62)
    rw [s1] at this
    rw [hw2]
    exact this
  have K0 := Aside0.mk (And.intro hB2 (And.intro hP2 hO2))
  have HW2 := Aside0.mk hw2
  have HP2 : Aside0 (Pr w2 g b g2 b2 room keys bits pl) := ⟨h.below hB2⟩
  have HLT : Aside0 (g < W.heap.size ∧ b < W.heap.size ∧ g2 < W.heap.size ∧ b2 < W.heap.size) := ⟨h.lt⟩
  have cP0 : w2.cell? ⟨W.heap.size, 0, none⟩ = some (.pointer (some ⟨g, 0, none⟩)) := (blk_cell hP2 0).trans rfl
  have cP1 : w2.cell? ⟨W.heap.size, 1, none⟩ = some (.pointer (some ⟨g2, 0, none⟩)) := (blk_cell hP2 1).trans rfl
  have cO0 : w2.cell? ⟨W.heap.size + 1, 0, none⟩ = some (.int .i64 5) := (blk_cell hO2 0).trans rfl
  have cO1 : w2.cell? ⟨W.heap.size + 1, 1, none⟩ = some (.bool oth) := (blk_cell hO2 1).trans rfl
  have cO2 : w2.cell? ⟨W.heap.size + 1, 2, none⟩ = some (.int .u64 key) := (blk_cell hO2 2).trans rfl
  have cO3 : w2.cell? ⟨W.heap.size + 1, 3, none⟩ = some (.int .i64 v) := (blk_cell hO2 3).trans rfl
  have cO4 : w2.cell? ⟨W.heap.size + 1, 4, none⟩ = some (.int .i64 n) := (blk_cell hO2 4).trans rfl
  clear h hpe hw2 s1 hB2 hP2 hO2
  go_enter Try.func23, Try.ntmps23
  go_upto_region 1 with (fail)
  rw [← HW2.out]
  have HX := Aside0.mk (placed_calls HP2.out.x.1 HP2.out.x.2.1 HP2.out.y)
  go_wp2_with (first
    | ((with_reducible refine gate_callee (f := 24) rfl ?_); (try (refine gate_guard (by rfl) ?_; dsimp only)); refine goesL_ (some 114) rfl rfl Try.func24 (by kernel_rfl) rfl #[.agg #[.pointer (some ⟨g, 0, none⟩), .pointer (some ⟨g2, 0, none⟩)]] rfl (by (try simp only [List.map_toArray, List.map_cons, List.map_nil]); first | done | rfl) ?_; (with_reducible refine (HX.out).mono ?_); rintro e w3 ⟨rfl, hb3⟩; refine ⟨_, rfl, ?_⟩; have HB3 := Aside0.mk hb3; clear hb3))
  go_ret
  exact ⟨rfl, b, b2, keys, pl, HP2.out.below HB3.out, .inl rfl, .inl rfl, fr_of_below K0.out.1 ((Fr.refl _ _).below HB3.out)⟩

set_option maxHeartbeats 16000000 in
set_option maxRecDepth 100000 in
theorem step_6 {W : World} {g b g2 b2 : Nat} {room keys : Int} {bits : Nat} {pl : List S72} (oth : Bool) (key v n : Int) (h : Pr W g b g2 b2 room keys bits pl) :
    Calls Try.prog 23 #[.agg #[.pointer (some ⟨g, 0, none⟩), .pointer (some ⟨g2, 0, none⟩)], .agg #[.int .i64 6, .bool oth, .int .u64 key, .int .i64 v, .int .i64 n]] W fun e w' => e = .returned (.bool true) ∧ Stepped W g b g2 b2 room bits w' := by
  obtain ⟨p, hpe⟩ := h.x.2.1.wf.ends key
  have HPE := Aside0.mk hpe
  obtain ⟨w2, hw2⟩ : ∃ w2, w2 = (W.alloc (.cells #[.pointer (some ⟨g, 0, none⟩), .pointer (some ⟨g2, 0, none⟩)] 26)).alloc (.cells #[.int .i64 6, .bool oth, .int .u64 key, .int .i64 v, .int .i64 n] 62) := ⟨_, rfl⟩
  have s1 : (W.alloc (.cells #[.pointer (some ⟨g, 0, none⟩), .pointer (some ⟨g2, 0, none⟩)] 26)).heap.size = W.heap.size + 1 := World.size_alloc _ _
  have hB2 : Below W.heap.size W w2 := by rw [hw2]; exact ((Below.refl _ W).alloc (Nat.le_refl _) _).alloc (by rw [s1]; omega) _
  have hP2 : w2.heap[W.heap.size]? = some (.cells #[.pointer (some ⟨g, 0, none⟩), .pointer (some ⟨g2, 0, none⟩)] 26 (0, 0)) := by
    rw [hw2]
    exact (Below.heap_alloc _ _ _ (by rw [s1]; omega)).trans (heap_alloc_new W _)
  have hO2 : w2.heap[W.heap.size + 1]? = some (.cells #[.int .i64 6, .bool oth, .int .u64 key, .int .i64 v, .int .i64 n] 62 (0, 0)) := by
    have := heap_alloc_new (W.alloc (.cells #[.pointer (some ⟨g, 0, none⟩), .pointer (some ⟨g2, 0, none⟩)] 26)) (.cells #[.int .i64 6, .bool oth, .int .u64 key, .int .i64 v, .int .i64 n] 62)
    rw [s1] at this
    rw [hw2]
    exact this
  have K0 := Aside0.mk (And.intro hB2 (And.intro hP2 hO2))
  have HW2 := Aside0.mk hw2
  have HP2 : Aside0 (Pr w2 g b g2 b2 room keys bits pl) := ⟨h.below hB2⟩
  have HLT : Aside0 (g < W.heap.size ∧ b < W.heap.size ∧ g2 < W.heap.size ∧ b2 < W.heap.size) := ⟨h.lt⟩
  have cP0 : w2.cell? ⟨W.heap.size, 0, none⟩ = some (.pointer (some ⟨g, 0, none⟩)) := (blk_cell hP2 0).trans rfl
  have cP1 : w2.cell? ⟨W.heap.size, 1, none⟩ = some (.pointer (some ⟨g2, 0, none⟩)) := (blk_cell hP2 1).trans rfl
  have cO0 : w2.cell? ⟨W.heap.size + 1, 0, none⟩ = some (.int .i64 6) := (blk_cell hO2 0).trans rfl
  have cO1 : w2.cell? ⟨W.heap.size + 1, 1, none⟩ = some (.bool oth) := (blk_cell hO2 1).trans rfl
  have cO2 : w2.cell? ⟨W.heap.size + 1, 2, none⟩ = some (.int .u64 key) := (blk_cell hO2 2).trans rfl
  have cO3 : w2.cell? ⟨W.heap.size + 1, 3, none⟩ = some (.int .i64 v) := (blk_cell hO2 3).trans rfl
  have cO4 : w2.cell? ⟨W.heap.size + 1, 4, none⟩ = some (.int .i64 n) := (blk_cell hO2 4).trans rfl
  clear h hpe hw2 s1 hB2 hP2 hO2
  go_enter Try.func23, Try.ntmps23
  go_upto_region 1 with (fail)
  rw [← HW2.out]
  have HI : Aside0 (∀ m, Ix (w2.drewN m) g b room keys bits pl ∧ Rt (w2.drewN m) g2 b2 room keys pl) := ⟨fun m => ⟨HP2.out.x.1.keep rfl rfl, HP2.out.y.keep rfl rfl⟩⟩
  have HF := Aside0.mk HP2.out.x.2.1
  obtain ⟨hh, hhh⟩ : ∃ x, x = homeN bits key := ⟨_, rfl⟩
  have HX : Aside0 (∀ m, Calls Try.prog 11 #[.pointer (some ⟨g, 0, none⟩), .int .u64 key] (w2.drewN m) fun e w' => e = .returned (.int .i64 (hh : Int)) ∧ w' = w2.drewN m) := ⟨fun m => by rw [hhh]; exact home_calls key (HI.out m).1 HF.out.hb⟩
  have HY : Aside0 (∀ m, Calls Try.prog 12 #[.pointer (some ⟨g2, 0, none⟩), .int .u64 key] (w2.drewN m) fun e w' => e = .returned (.int .i64 (hh : Int)) ∧ w' = w2.drewN m) := ⟨fun m => by rw [hhh]; exact rthome_calls key (HI.out m).2 HF.out.len HF.out.hb⟩
  clear hhh
  have e0 : ((hh : Int) == (hh : Int)) = true := beq_self_eq_true (hh : Int)
  go_wp2_with (fail)
  go_quiet (first | (go_at_call 11; exact Calls.quiet_of_same (HX.out _)) | (go_at_call 12; exact Calls.quiet_of_same (HY.out _)))
  go_wp2
  go_ret
  exact ⟨rfl, b, b2, keys, pl, HP2.out.keep rfl rfl rfl rfl, .inl rfl, .inl rfl, (fr_of_below K0.out.1 (Fr.refl _ _)).drewN _⟩

set_option maxHeartbeats 16000000 in
set_option maxRecDepth 100000 in
theorem step_7 {W : World} {g b g2 b2 : Nat} {room keys : Int} {bits : Nat} {pl : List S72} (oth : Bool) (key v n : Int) (h : Pr W g b g2 b2 room keys bits pl) :
    Calls Try.prog 23 #[.agg #[.pointer (some ⟨g, 0, none⟩), .pointer (some ⟨g2, 0, none⟩)], .agg #[.int .i64 7, .bool oth, .int .u64 key, .int .i64 v, .int .i64 n]] W fun e w' => e = .returned (.bool true) ∧ Stepped W g b g2 b2 room bits w' := by
  obtain ⟨p, hpe⟩ := h.x.2.1.wf.ends key
  have HPE := Aside0.mk hpe
  obtain ⟨w2, hw2⟩ : ∃ w2, w2 = (W.alloc (.cells #[.pointer (some ⟨g, 0, none⟩), .pointer (some ⟨g2, 0, none⟩)] 26)).alloc (.cells #[.int .i64 7, .bool oth, .int .u64 key, .int .i64 v, .int .i64 n] 62) := ⟨_, rfl⟩
  have s1 : (W.alloc (.cells #[.pointer (some ⟨g, 0, none⟩), .pointer (some ⟨g2, 0, none⟩)] 26)).heap.size = W.heap.size + 1 := World.size_alloc _ _
  have hB2 : Below W.heap.size W w2 := by rw [hw2]; exact ((Below.refl _ W).alloc (Nat.le_refl _) _).alloc (by rw [s1]; omega) _
  have hP2 : w2.heap[W.heap.size]? = some (.cells #[.pointer (some ⟨g, 0, none⟩), .pointer (some ⟨g2, 0, none⟩)] 26 (0, 0)) := by
    rw [hw2]
    exact (Below.heap_alloc _ _ _ (by rw [s1]; omega)).trans (heap_alloc_new W _)
  have hO2 : w2.heap[W.heap.size + 1]? = some (.cells #[.int .i64 7, .bool oth, .int .u64 key, .int .i64 v, .int .i64 n] 62 (0, 0)) := by
    have := heap_alloc_new (W.alloc (.cells #[.pointer (some ⟨g, 0, none⟩), .pointer (some ⟨g2, 0, none⟩)] 26)) (.cells #[.int .i64 7, .bool oth, .int .u64 key, .int .i64 v, .int .i64 n] 62)
    rw [s1] at this
    rw [hw2]
    exact this
  have K0 := Aside0.mk (And.intro hB2 (And.intro hP2 hO2))
  have HW2 := Aside0.mk hw2
  have HP2 : Aside0 (Pr w2 g b g2 b2 room keys bits pl) := ⟨h.below hB2⟩
  have HLT : Aside0 (g < W.heap.size ∧ b < W.heap.size ∧ g2 < W.heap.size ∧ b2 < W.heap.size) := ⟨h.lt⟩
  have cP0 : w2.cell? ⟨W.heap.size, 0, none⟩ = some (.pointer (some ⟨g, 0, none⟩)) := (blk_cell hP2 0).trans rfl
  have cP1 : w2.cell? ⟨W.heap.size, 1, none⟩ = some (.pointer (some ⟨g2, 0, none⟩)) := (blk_cell hP2 1).trans rfl
  have cO0 : w2.cell? ⟨W.heap.size + 1, 0, none⟩ = some (.int .i64 7) := (blk_cell hO2 0).trans rfl
  have cO1 : w2.cell? ⟨W.heap.size + 1, 1, none⟩ = some (.bool oth) := (blk_cell hO2 1).trans rfl
  have cO2 : w2.cell? ⟨W.heap.size + 1, 2, none⟩ = some (.int .u64 key) := (blk_cell hO2 2).trans rfl
  have cO3 : w2.cell? ⟨W.heap.size + 1, 3, none⟩ = some (.int .i64 v) := (blk_cell hO2 3).trans rfl
  have cO4 : w2.cell? ⟨W.heap.size + 1, 4, none⟩ = some (.int .i64 n) := (blk_cell hO2 4).trans rfl
  clear h hpe hw2 s1 hB2 hP2 hO2
  go_enter Try.func23, Try.ntmps23
  go_upto_region 1 with (fail)
  rw [← HW2.out]
  have HX := Aside0.mk (clear_live HP2.out.x)
  have HY : Aside0 (∀ w1, Rt w1 g2 b2 room keys pl → Calls Try.prog 37 #[.pointer (some ⟨g2, 0, none⟩)] w1 fun e W' => e = .returned (.tuple #[]) ∧ ∃ b, w1.heap.size ≤ b ∧ Rt W' g2 b room 0 (List.replicate (2 ^ bits) z72) ∧ Fr (fun k => k = g2) w1 W') := ⟨fun w1 h1 => rclear_calls h1 HP2.out.x.2.1.len HP2.out.x.2.1.hb⟩
  go_wp2_with (first
    | ((with_reducible refine gate_callee (f := 26) rfl ?_); (try (refine gate_guard (by rfl) ?_; dsimp only)); refine goesL_ (some 132) rfl rfl Try.func26 (by kernel_rfl) rfl #[.pointer (some ⟨g, 0, none⟩)] rfl (by (try simp only [List.map_toArray, List.map_cons, List.map_nil]); first | done | rfl) ?_; (with_reducible refine (HX.out).mono ?_); rintro e w3 ⟨rfl, b', hb', l3, f3⟩; refine ⟨_, rfl, ?_⟩; have HB := Aside0.mk hb'; have HL3 := Aside0.mk l3; have HF3 := Aside0.mk f3; have HC3 := Aside0.mk (box_cells K0.out.2.1 K0.out.2.2 (fun i hi => by have := HLT.out; omega) f3); have dP1 := HC3.out.2.1; have HY3 := Aside0.mk (HP2.out.y.fr f3 HP2.out.ne1 HP2.out.ne3); clear hb' l3 f3)
    | ((with_reducible refine gate_callee (f := 37) rfl ?_); (try (refine gate_guard (by rfl) ?_; dsimp only)); refine goesL_ (some 135) rfl rfl Try.func37 (by kernel_rfl) rfl #[.pointer (some ⟨g2, 0, none⟩)] rfl (by (try simp only [List.map_toArray, List.map_cons, List.map_nil]); first | done | rfl) ?_; (with_reducible refine (HY.out _ HY3.out).mono ?_); rintro e w4 ⟨rfl, b2', hb2', l4, f4⟩; refine ⟨_, rfl, ?_⟩; have HB2 := Aside0.mk hb2'; have HL4 := Aside0.mk l4; have HF4 := Aside0.mk f4; clear hb2' l4 f4))
  go_ret
  have a1 := HB.out
  have a2 := HB2.out
  have a3 := HLT.out
  have a4 := K0.out.1.size
  have a5 := HF3.out.size
  have a6 := HL3.out.1.ltb
  have hF : Fr (fun i => i = g ∨ i = b ∨ i = g2 ∨ i = b2) w2 w4 := (HF3.out.mono (S' := fun i => i = g ∨ i = b ∨ i = g2 ∨ i = b2) (fun i hi => .inl (.inl hi))).trans HF4.out (fun i hi => .inl (.inr (.inr (.inl hi))))
  exact ⟨rfl, b', b2', 0, _, ⟨HL3.out.fr HF4.out (fun e => HP2.out.ne1 e.symm) (fun e => by omega), HL4.out, HP2.out.ne1, by omega, by omega, by omega⟩, .inr (by omega), .inr (by omega), fr_of_below K0.out.1 hF⟩

set_option maxHeartbeats 16000000 in
set_option maxRecDepth 100000 in
theorem step_n {W : World} {g b g2 b2 : Nat} {room keys : Int} {bits : Nat} {pl : List S72} (kind : Int) (oth : Bool) (key v n : Int) (h : Pr W g b g2 b2 room keys bits pl) (h0 : kind ≠ 0) (h1 : kind ≠ 1) (h2 : kind ≠ 2) (h3 : kind ≠ 3) (h4 : kind ≠ 4) (h5 : kind ≠ 5) (h6 : kind ≠ 6) (h7 : kind ≠ 7) :
    Calls Try.prog 23 #[.agg #[.pointer (some ⟨g, 0, none⟩), .pointer (some ⟨g2, 0, none⟩)], .agg #[.int .i64 kind, .bool oth, .int .u64 key, .int .i64 v, .int .i64 n]] W fun e w' => e = .returned (.bool true) ∧ Stepped W g b g2 b2 room bits w' := by
  obtain ⟨p, hpe⟩ := h.x.2.1.wf.ends key
  have HPE := Aside0.mk hpe
  obtain ⟨w2, hw2⟩ : ∃ w2, w2 = (W.alloc (.cells #[.pointer (some ⟨g, 0, none⟩), .pointer (some ⟨g2, 0, none⟩)] 26)).alloc (.cells #[.int .i64 kind, .bool oth, .int .u64 key, .int .i64 v, .int .i64 n] 62) := ⟨_, rfl⟩
  have s1 : (W.alloc (.cells #[.pointer (some ⟨g, 0, none⟩), .pointer (some ⟨g2, 0, none⟩)] 26)).heap.size = W.heap.size + 1 := World.size_alloc _ _
  have hB2 : Below W.heap.size W w2 := by rw [hw2]; exact ((Below.refl _ W).alloc (Nat.le_refl _) _).alloc (by rw [s1]; omega) _
  have hP2 : w2.heap[W.heap.size]? = some (.cells #[.pointer (some ⟨g, 0, none⟩), .pointer (some ⟨g2, 0, none⟩)] 26 (0, 0)) := by
    rw [hw2]
    exact (Below.heap_alloc _ _ _ (by rw [s1]; omega)).trans (heap_alloc_new W _)
  have hO2 : w2.heap[W.heap.size + 1]? = some (.cells #[.int .i64 kind, .bool oth, .int .u64 key, .int .i64 v, .int .i64 n] 62 (0, 0)) := by
    have := heap_alloc_new (W.alloc (.cells #[.pointer (some ⟨g, 0, none⟩), .pointer (some ⟨g2, 0, none⟩)] 26)) (.cells #[.int .i64 kind, .bool oth, .int .u64 key, .int .i64 v, .int .i64 n] 62)
    rw [s1] at this
    rw [hw2]
    exact this
  have K0 := Aside0.mk (And.intro hB2 (And.intro hP2 hO2))
  have HW2 := Aside0.mk hw2
  have HP2 : Aside0 (Pr w2 g b g2 b2 room keys bits pl) := ⟨h.below hB2⟩
  have HLT : Aside0 (g < W.heap.size ∧ b < W.heap.size ∧ g2 < W.heap.size ∧ b2 < W.heap.size) := ⟨h.lt⟩
  have cP0 : w2.cell? ⟨W.heap.size, 0, none⟩ = some (.pointer (some ⟨g, 0, none⟩)) := (blk_cell hP2 0).trans rfl
  have cP1 : w2.cell? ⟨W.heap.size, 1, none⟩ = some (.pointer (some ⟨g2, 0, none⟩)) := (blk_cell hP2 1).trans rfl
  have cO0 : w2.cell? ⟨W.heap.size + 1, 0, none⟩ = some (.int .i64 kind) := (blk_cell hO2 0).trans rfl
  have cO1 : w2.cell? ⟨W.heap.size + 1, 1, none⟩ = some (.bool oth) := (blk_cell hO2 1).trans rfl
  have cO2 : w2.cell? ⟨W.heap.size + 1, 2, none⟩ = some (.int .u64 key) := (blk_cell hO2 2).trans rfl
  have cO3 : w2.cell? ⟨W.heap.size + 1, 3, none⟩ = some (.int .i64 v) := (blk_cell hO2 3).trans rfl
  have cO4 : w2.cell? ⟨W.heap.size + 1, 4, none⟩ = some (.int .i64 n) := (blk_cell hO2 4).trans rfl
  clear h hpe hw2 s1 hB2 hP2 hO2
  go_enter Try.func23, Try.ntmps23
  go_upto_region 1 with (fail)
  rw [← HW2.out]
  have e0 : (kind == 0) = false := beq_eq_false_iff_ne.mpr h0
  have e1 : (kind == 1) = false := beq_eq_false_iff_ne.mpr h1
  have e2 : (kind == 2) = false := beq_eq_false_iff_ne.mpr h2
  have e3 : (kind == 3) = false := beq_eq_false_iff_ne.mpr h3
  have e4 : (kind == 4) = false := beq_eq_false_iff_ne.mpr h4
  have e5 : (kind == 5) = false := beq_eq_false_iff_ne.mpr h5
  have e6 : (kind == 6) = false := beq_eq_false_iff_ne.mpr h6
  have e7 : (kind == 7) = false := beq_eq_false_iff_ne.mpr h7
  clear h0 h1 h2 h3 h4 h5 h6 h7
  go_wp2
  go_ret
  exact ⟨rfl, b, b2, keys, pl, HP2.out, .inl rfl, .inl rfl, fr_of_below K0.out.1 (Fr.refl _ _)⟩

theorem step_calls {W : World} {g b g2 b2 : Nat} {room keys : Int} {bits : Nat} {pl : List S72} (kind : Int) (oth : Bool) (key v n : Int) (h : Pr W g b g2 b2 room keys bits pl) :
    Calls Try.prog 23 #[.agg #[.pointer (some ⟨g, 0, none⟩), .pointer (some ⟨g2, 0, none⟩)], .agg #[.int .i64 kind, .bool oth, .int .u64 key, .int .i64 v, .int .i64 n]] W fun e w' => e = .returned (.bool true) ∧ Stepped W g b g2 b2 room bits w' := by
  by_cases c0 : kind = 0
  · rw [c0]; exact step_0 oth key v n h
  by_cases c1 : kind = 1
  · rw [c1]; exact step_1 oth key v n h
  by_cases c2 : kind = 2
  · rw [c2]; exact step_2 oth key v n h
  by_cases c3 : kind = 3
  · rw [c3]; exact step_3 oth key v n h
  by_cases c4 : kind = 4
  · rw [c4]; exact step_4 oth key v n h
  by_cases c5 : kind = 5
  · rw [c5]; exact step_5 oth key v n h
  by_cases c6 : kind = 6
  · rw [c6]; exact step_6 oth key v n h
  by_cases c7 : kind = 7
  · rw [c7]; exact step_7 oth key v n h
  exact step_n kind oth key v n h c0 c1 c2 c3 c4 c5 c6 c7
end Go.Proofs.Ytmcaoecmjibegaa.PIx
