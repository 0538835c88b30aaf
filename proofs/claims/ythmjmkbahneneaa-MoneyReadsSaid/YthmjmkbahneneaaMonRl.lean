/- MoneyReads, walked. -/
import Derived.Test.YthmjmkbahneneaaMonRw
section
namespace Go.Proofs.Ythmjmkbahneneaa.PMon
open Go.RowKit Go.Proofs.Ythmjmkbahneneaa.PBig Go.Proofs.YthmjmkbahneneaaW.PrintWords Go.Proofs.YthmjmkbahneneaaW.PrintLast Go.Proofs.YthmjmkbahneneaaW.PrintMore
set_option linter.unusedVariables false
set_option linter.unusedSimpArgs false

theorem box_ne {w : World} {g1 g2 : Nat} {c1 c2 : Array Value} {t1 t2 : TypeId} (h1 : w.heap[g1]? = some (.cells c1 t1 (0, 0))) (h2 : w.heap[g2]? = some (.cells c2 t2 (0, 0))) (ht : t1 ≠ t2) : g1 ≠ g2 := by
  rintro rfl
  rw [h1] at h2
  injection h2 with h2
  injection h2 with _ h2
  exact ht h2
/-- Boxes, and an amount of the reference. -/
def Bq (w W : World) (l : List (Nat × Array Value × TypeId)) (X : Value) (v : Int) : Prop := Bx w W l ∧ Rm W X v
theorem Bq.drew {w W : World} {l : List (Nat × Array Value × TypeId)} {X : Value} {v : Int} (h : Bq w W l X v) : Bq w W.drew l X v := ⟨h.1.drew, by have := h.2.drewN 1; exact this⟩
theorem Bq.below {w W W' : World} {l : List (Nat × Array Value × TypeId)} {X : Value} {v : Int} (h : Bq w W l X v) (hb : Below W.heap.size W W') : Bq w W' l X v := ⟨h.1.below hb, h.2.below hb⟩
theorem Bq.get {w W : World} {l : List (Nat × Array Value × TypeId)} {X : Value} {v : Int} (h : Bq w W l X v) (p : Nat × Array Value × TypeId) (hp : p ∈ l) : W.heap[p.1]? = some (.cells p.2.1 p.2.2 (0, 0)) := h.1.get p hp

set_option maxHeartbeats 32000000 in
set_option maxRecDepth 100000 in
theorem reads_zz (S T2 : ByteArray) (k k2 v v2 h l hm lm hn ln p0 p1 : Int) (sm sn : Bool) (w : World)
    (HP : Aside0 (∀ W, Calls Try.prog 24 #[.string S] W fun e w' => e = .returned (.tuple #[.agg #[.int .u64 hm, .int .u64 lm, .bool sm], .int .i64 k]) ∧ Below W.heap.size W w'))
    (HPr : Aside0 (∀ W, Calls Try.prog 25 #[.string S] W (RmE W v k)))
    (HW : Aside0 (∀ W, Calls Try.prog 26 #[.agg #[.int .u64 hm, .int .u64 lm, .bool sm]] W fun e w' => e = .returned (.agg #[.int .u64 p0, .int .u64 p1]) ∧ Below W.heap.size W w'))
    (HWr : Aside0 (∀ W X, Rm W X v → Calls Try.prog 27 #[X] W fun e w' => e = .returned (.agg #[.int .u64 p0, .int .u64 p1]) ∧ Below W.heap.size W w'))
    (HT : Aside0 (k = 0 → ∀ W, Calls Try.prog 28 #[.agg #[.int .u64 hm, .int .u64 lm, .bool sm]] W fun e w' => e = .returned (.string S) ∧ Below W.heap.size W w'))
    (HF : Aside0 (∀ W, Calls Try.prog 29 #[.agg #[.int .u64 h, .int .u64 l]] W fun e w' => e = .returned (.tuple #[.agg #[.int .u64 hn, .int .u64 ln, .bool sn], .int .i64 k2]) ∧ Below W.heap.size W w'))
    (HFr : Aside0 (∀ W, Calls Try.prog 30 #[.agg #[.int .u64 h, .int .u64 l]] W (RmE W v2 k2)))
    (HT2 : Aside0 (∀ W, Calls Try.prog 28 #[.agg #[.int .u64 hn, .int .u64 ln, .bool sn]] W fun e w' => e = .returned (.string T2) ∧ Below W.heap.size W w'))
    (HT2r : Aside0 (∀ W X, Rm W X v2 → Calls Try.prog 31 #[X] W fun e w' => e = .returned (.string T2) ∧ Below W.heap.size W w'))
    (HW2 : Aside0 (k2 = 0 → ∀ W, Calls Try.prog 26 #[.agg #[.int .u64 hn, .int .u64 ln, .bool sn]] W fun e w' => e = .returned (.agg #[.int .u64 h, .int .u64 l]) ∧ Below W.heap.size W w'))
    (HP1 : Aside0 (∀ W, Calls Try.prog 24 #[.string ⟨#[49, 46, 48, 48]⟩] W fun e w' => e = .returned (.tuple #[.agg #[.int .u64 0, .int .u64 100, .bool false], .int .i64 0]) ∧ Below W.heap.size W w'))
    (HC : Aside0 (∀ W, Calls Try.prog 33 #[.int .i64 100] W fun e w' => e = .returned (.agg #[.int .u64 0, .int .u64 100, .bool false]) ∧ Below W.heap.size W w'))
    (HCmp : Aside0 (∀ W, Calls Try.prog 32 #[.agg #[.int .u64 0, .int .u64 100, .bool false], .agg #[.int .u64 0, .int .u64 100, .bool false]] W fun e w' => e = .returned (.int .i64 0) ∧ Below W.heap.size W w'))
    (HE1 : ∀ W, (Op.equalIn 10000 38 (.agg #[.int .u64 p0, .int .u64 p1]) (.agg #[.int .u64 p0, .int .u64 p1])).run Try.prog W = .ok true W)
    (HE2 : ∀ W, (Op.equalIn 10000 38 (.agg #[.int .u64 h, .int .u64 l]) (.agg #[.int .u64 h, .int .u64 l])).run Try.prog W = .ok true W)
    (hk : k = 0) (hk2 : k2 = 0) :
    Calls Try.prog 8 #[.string S, .agg #[.int .u64 h, .int .u64 l]] w fun e w' => e = .returned (.bool true) ∧ Below w.heap.size w w' := by
  have HT' := Aside0.mk (HT.out hk)
  have HW2' := Aside0.mk (HW2.out hk2)
  have kb : (k == 0) = true := beq_iff_eq.mpr hk
  have kb2 : (k2 == 0) = true := beq_iff_eq.mpr hk2
  have kk : (k != k) = false := bne_self_eq_false' (a := k)
  have kk2 : (k2 != k2) = false := bne_self_eq_false' (a := k2)
  clear hk hk2
  go_enter Try.func8, Try.ntmps8
  go_upto_region 1 with (fail)
  obtain ⟨W1, hW⟩ : ∃ W, W = (w.alloc (.cells #[.int .u64 h, .int .u64 l] 38)) := ⟨_, rfl⟩
  obtain ⟨gW, hgW⟩ : ∃ g, g = w.heap.size := ⟨_, rfl⟩
  have HBW1 : Aside0 (Bx w W1 [(gW, #[.int .u64 h, .int .u64 l], 38)]) := ⟨by rw [hW, hgW]; exact Bx.allocs1 _ _ _⟩
  rw [← hW, ← hgW]
  clear hW hgW
  go_upto_region 2 with (first
    | ((with_reducible refine gate_callee (f := 24) rfl ?_); (try (refine gate_guard (by rfl) ?_; dsimp only)); refine goesL_ (some 13) rfl rfl Try.func24 (by kernel_rfl) rfl #[.string S] rfl (by (try simp only [List.map_toArray, List.map_cons, List.map_nil]); first | done | rfl) ?_; (with_reducible refine (HP.out _).mono ?_); rintro e wW2 ⟨rfl, hb⟩; refine ⟨_, rfl, ?_⟩; have HVW2 := Aside0.mk (Bx.below HBW1.out hb); clear hb))
  obtain ⟨W2, hW⟩ : ∃ W, W = wW2.alloc (.cells #[.int .u64 hm, .int .u64 lm, .bool sm] 40) := ⟨_, rfl⟩
  obtain ⟨gM, hg⟩ : ∃ g, g = wW2.heap.size := ⟨_, rfl⟩
  have HBW2 : Aside0 (Bx w W2 [(gW, #[.int .u64 h, .int .u64 l], 38), (gM, #[.int .u64 hm, .int .u64 lm, .bool sm], 40)]) := ⟨by have h := Bx.alloc HVW2.out #[.int .u64 hm, .int .u64 lm, .bool sm] 40; rw [← hW, ← hg] at h; exact h⟩
  rw [← hW, ← hg]
  clear hW hg
  go_upto_region 3 with (first
    | ((with_reducible refine gate_callee (f := 25) rfl ?_); (try (refine gate_guard (by rfl) ?_; dsimp only)); refine goesL_ (some 18) rfl rfl Try.func25 (by kernel_rfl) rfl #[.string S] rfl (by (try simp only [List.map_toArray, List.map_cons, List.map_nil]); first | done | rfl) ?_; (with_reducible refine (HPr.out _).mono ?_); rintro e wW3 ⟨X1, rfl, hr, hb⟩; refine ⟨_, rfl, ?_⟩; have HVW3 := Aside0.mk (Bx.below HBW2.out hb); clear hb; obtain ⟨u1, rfl, hr⟩ := hr; obtain ⟨A1, c1, e1⟩ := Kd.R_slice hr; subst e1; have HR1 := Aside0.mk hr; clear hr))
  obtain ⟨W3, hW⟩ : ∃ W, W = wW3.alloc (.cells #[.bool (mnM v), .slice A1 (D v.natAbs).length c1] 46) := ⟨_, rfl⟩
  obtain ⟨gN, hg⟩ : ∃ g, g = wW3.heap.size := ⟨_, rfl⟩
  have HBW3 : Aside0 (Bx w W3 [(gW, #[.int .u64 h, .int .u64 l], 38), (gM, #[.int .u64 hm, .int .u64 lm, .bool sm], 40), (gN, #[.bool (mnM v), .slice A1 (D v.natAbs).length c1], 46)]) := ⟨by have h := Bx.alloc HVW3.out #[.bool (mnM v), .slice A1 (D v.natAbs).length c1] 46; rw [← hW, ← hg] at h; exact h⟩
  have HX1 : Aside0 (Rm W3 (.agg #[.bool (mnM v), .slice A1 (D v.natAbs).length c1]) v) := ⟨by rw [hW]; exact Rm.below ⟨_, rfl, HR1.out⟩ ((Below.refl _ _).alloc (Nat.le_refl _) _)⟩
  rw [← hW, ← hg]
  clear hW hg
  obtain ⟨N, fw, hf0, hfs, hfc⟩ := calm_class (fun W => Bq w W [(gW, #[.int .u64 h, .int .u64 l], 38), (gM, #[.int .u64 hm, .int .u64 lm, .bool sm], 40), (gN, #[.bool (mnM v), .slice A1 (D v.natAbs).length c1], 46)] (.agg #[.bool (mnM v), .slice A1 (D v.natAbs).length c1]) v) W3 (Bq.drew ⟨HBW3.out, HX1.out⟩) (fun W w' h hb => h.below hb)
  have hne : Nonempty N := ⟨hf0.choose⟩
  have HFC := Aside0.mk hfc
  have HFS := Aside0.mk hfs
  have HRX := Aside0.mk (fun n => (hfs n).2)
  have qgM0 : ∀ n, (fw n).cell? ⟨gM, 0, none⟩ = some (.int .u64 hm) := fun n => (blk_cell (Bq.get (hfs n) (gM, #[.int .u64 hm, .int .u64 lm, .bool sm], 40) (by simp)) 0).trans rfl
  have qgM1 : ∀ n, (fw n).cell? ⟨gM, 1, none⟩ = some (.int .u64 lm) := fun n => (blk_cell (Bq.get (hfs n) (gM, #[.int .u64 hm, .int .u64 lm, .bool sm], 40) (by simp)) 1).trans rfl
  have qgM2 : ∀ n, (fw n).cell? ⟨gM, 2, none⟩ = some (.bool sm) := fun n => (blk_cell (Bq.get (hfs n) (gM, #[.int .u64 hm, .int .u64 lm, .bool sm], 40) (by simp)) 2).trans rfl
  have qgN0 : ∀ n, (fw n).cell? ⟨gN, 0, none⟩ = some (.bool (mnM v)) := fun n => (blk_cell (Bq.get (hfs n) (gN, #[.bool (mnM v), .slice A1 (D v.natAbs).length c1], 46) (by simp)) 0).trans rfl
  have qgN1 : ∀ n, (fw n).cell? ⟨gN, 1, none⟩ = some (.slice A1 (D v.natAbs).length c1) := fun n => (blk_cell (Bq.get (hfs n) (gN, #[.bool (mnM v), .slice A1 (D v.natAbs).length c1], 46) (by simp)) 1).trans rfl
  clear hfs hfc
  refine wp_region_calm fw (by kernel_rfl) (by kernel_rfl) hf0 ?_
  repeat (go_big_quiet_step ((first
    | (go_at_call 26; with_reducible exact Calls.calm HFC (HW.out _))
    | (go_at_call 27; with_reducible exact Calls.calm HFC (HWr.out _ _ (HRX.out _)))
    | (go_at_call 28; with_reducible exact Calls.calm HFC (HT'.out _)))))
  refine wpQuiet_nil ?_
  intro _ hw'
  obtain ⟨nq, hw''⟩ := hw'
  subst hw''
  have HBW4 : Aside0 (Bx w (fw nq) [(gW, #[.int .u64 h, .int .u64 l], 38), (gM, #[.int .u64 hm, .int .u64 lm, .bool sm], 40), (gN, #[.bool (mnM v), .slice A1 (D v.natAbs).length c1], 46)]) := ⟨(HFS.out nq).1⟩
  obtain ⟨W4, hW⟩ : ∃ W, W = fw nq := ⟨_, rfl⟩
  rw [← hW] at HBW4 ⊢
  clear hW
  clear HFC HFS HRX hf0 hne qgM0 qgM1 qgM2 qgN0 qgN1
  have qgW0 : W4.cell? ⟨gW, 0, none⟩ = some (.int .u64 h) := (blk_cell (Bx.get HBW4.out (gW, #[.int .u64 h, .int .u64 l], 38) (by simp)) 0).trans rfl
  have qgW1 : W4.cell? ⟨gW, 1, none⟩ = some (.int .u64 l) := (blk_cell (Bx.get HBW4.out (gW, #[.int .u64 h, .int .u64 l], 38) (by simp)) 1).trans rfl
  have f0 : W4.frozen? ⟨gM, 0, none⟩ = false := blk_frozen (Bx.get HBW4.out (gM, #[.int .u64 hm, .int .u64 lm, .bool sm], 40) (by simp)) 0
  have f1 : W4.frozen? ⟨gM, 1, none⟩ = false := blk_frozen (Bx.get HBW4.out (gM, #[.int .u64 hm, .int .u64 lm, .bool sm], 40) (by simp)) 1
  have f2 : W4.frozen? ⟨gM, 2, none⟩ = false := blk_frozen (Bx.get HBW4.out (gM, #[.int .u64 hm, .int .u64 lm, .bool sm], 40) (by simp)) 2
  go_upto_region 6 with (first
    | ((with_reducible refine gate_callee (f := 29) rfl ?_); (try (refine gate_guard (by rfl) ?_; dsimp only)); refine goesL_ (some 43) rfl rfl Try.func29 (by kernel_rfl) rfl #[.agg #[.int .u64 h, .int .u64 l]] rfl (by (try simp only [List.map_toArray, List.map_cons, List.map_nil]); first | done | rfl) ?_; (with_reducible refine (HF.out _).mono ?_); rintro e wW5 ⟨rfl, hb⟩; refine ⟨_, rfl, ?_⟩; have HVW5 := Aside0.mk (Bx.below HBW4.out hb); clear hb; have e0 : wW5.cell? ⟨gM, 0, none⟩ = some (.int .u64 hm) := (blk_cell (Bx.get HVW5.out (gM, #[.int .u64 hm, .int .u64 lm, .bool sm], 40) (by simp)) 0).trans rfl; have g0 : wW5.frozen? ⟨gM, 0, none⟩ = false := blk_frozen (Bx.get HVW5.out (gM, #[.int .u64 hm, .int .u64 lm, .bool sm], 40) (by simp)) 0; have e1 : wW5.cell? ⟨gM, 1, none⟩ = some (.int .u64 lm) := (blk_cell (Bx.get HVW5.out (gM, #[.int .u64 hm, .int .u64 lm, .bool sm], 40) (by simp)) 1).trans rfl; have g1 : wW5.frozen? ⟨gM, 1, none⟩ = false := blk_frozen (Bx.get HVW5.out (gM, #[.int .u64 hm, .int .u64 lm, .bool sm], 40) (by simp)) 1; have e2 : wW5.cell? ⟨gM, 2, none⟩ = some (.bool sm) := (blk_cell (Bx.get HVW5.out (gM, #[.int .u64 hm, .int .u64 lm, .bool sm], 40) (by simp)) 2).trans rfl; have g2 : wW5.frozen? ⟨gM, 2, none⟩ = false := blk_frozen (Bx.get HVW5.out (gM, #[.int .u64 hm, .int .u64 lm, .bool sm], 40) (by simp)) 2; skip))
  clear qgW0 qgW1
  obtain ⟨W5, hW⟩ : ∃ W, W = (((wW5.setCell ⟨gM, 0, none⟩ (.int .u64 hn)).setCell ⟨gM, 1, none⟩ (.int .u64 ln)).setCell ⟨gM, 2, none⟩ (.bool sn)) := ⟨_, rfl⟩
  have HNE : Aside0 (∀ p ∈ ([(gW, #[.int .u64 h, .int .u64 l], 38), (gN, #[.bool (mnM v), .slice A1 (D v.natAbs).length c1], 46)] : List (Nat × Array Value × TypeId)), p.1 ≠ gM) := ⟨by
    intro p hp
    have hg := Bx.get HVW5.out (gM, #[.int .u64 hm, .int .u64 lm, .bool sm], 40) (by simp)
    simp only [List.mem_cons, List.not_mem_nil, or_false] at hp
    rcases hp with rfl | rfl
    · exact box_ne (Bx.get HVW5.out (gW, #[.int .u64 h, .int .u64 l], 38) (by simp)) hg (show (38 : Nat) ≠ 40 by decide)
    · exact box_ne (Bx.get HVW5.out (gN, #[.bool (mnM v), .slice A1 (D v.natAbs).length c1], 46) (by simp)) hg (show (46 : Nat) ≠ 40 by decide)
  ⟩
  have HBW5 : Aside0 (Bx w W5 [(gM, #[.int .u64 hn, .int .u64 ln, .bool sn], 40), (gW, #[.int .u64 h, .int .u64 l], 38), (gN, #[.bool (mnM v), .slice A1 (D v.natAbs).length c1], 46)]) := ⟨by rw [hW]; exact (Bx.set (Bx.set (Bx.set (Bx.sub HVW5.out (l2 := [(gM, #[.int .u64 hm, .int .u64 lm, .bool sm], 40), (gW, #[.int .u64 h, .int .u64 l], 38), (gN, #[.bool (mnM v), .slice A1 (D v.natAbs).length c1], 46)]) (by simp)) HNE.out 0 (.int .u64 hn)) HNE.out 1 (.int .u64 ln)) HNE.out 2 (.bool sn))⟩
  rw [← hW]
  clear hW HNE f0 e0 g0 f1 e1 g1 f2 e2 g2
  have qgW0 : W5.cell? ⟨gW, 0, none⟩ = some (.int .u64 h) := (blk_cell (Bx.get HBW5.out (gW, #[.int .u64 h, .int .u64 l], 38) (by simp)) 0).trans rfl
  have qgW1 : W5.cell? ⟨gW, 1, none⟩ = some (.int .u64 l) := (blk_cell (Bx.get HBW5.out (gW, #[.int .u64 h, .int .u64 l], 38) (by simp)) 1).trans rfl
  have f0 : W5.frozen? ⟨gN, 0, none⟩ = false := blk_frozen (Bx.get HBW5.out (gN, #[.bool (mnM v), .slice A1 (D v.natAbs).length c1], 46) (by simp)) 0
  have f1 : W5.frozen? ⟨gN, 1, none⟩ = false := blk_frozen (Bx.get HBW5.out (gN, #[.bool (mnM v), .slice A1 (D v.natAbs).length c1], 46) (by simp)) 1
  go_upto_region 7 with (first
    | ((with_reducible refine gate_callee (f := 30) rfl ?_); (try (refine gate_guard (by rfl) ?_; dsimp only)); refine goesL_ (some 48) rfl rfl Try.func30 (by kernel_rfl) rfl #[.agg #[.int .u64 h, .int .u64 l]] rfl (by (try simp only [List.map_toArray, List.map_cons, List.map_nil]); first | done | rfl) ?_; (with_reducible refine (HFr.out _).mono ?_); rintro e wW6 ⟨X2, rfl, hr, hb⟩; refine ⟨_, rfl, ?_⟩; have HVW6 := Aside0.mk (Bx.below HBW5.out hb); clear hb; obtain ⟨u2, rfl, hr⟩ := hr; obtain ⟨A2, c2, e2⟩ := Kd.R_slice hr; subst e2; have HR2 := Aside0.mk hr; clear hr; have e0 : wW6.cell? ⟨gN, 0, none⟩ = some (.bool (mnM v)) := (blk_cell (Bx.get HVW6.out (gN, #[.bool (mnM v), .slice A1 (D v.natAbs).length c1], 46) (by simp)) 0).trans rfl; have g0 : wW6.frozen? ⟨gN, 0, none⟩ = false := blk_frozen (Bx.get HVW6.out (gN, #[.bool (mnM v), .slice A1 (D v.natAbs).length c1], 46) (by simp)) 0; have e1 : wW6.cell? ⟨gN, 1, none⟩ = some (.slice A1 (D v.natAbs).length c1) := (blk_cell (Bx.get HVW6.out (gN, #[.bool (mnM v), .slice A1 (D v.natAbs).length c1], 46) (by simp)) 1).trans rfl; have g1 : wW6.frozen? ⟨gN, 1, none⟩ = false := blk_frozen (Bx.get HVW6.out (gN, #[.bool (mnM v), .slice A1 (D v.natAbs).length c1], 46) (by simp)) 1; skip))
  clear qgW0 qgW1
  obtain ⟨W6, hW⟩ : ∃ W, W = ((wW6.setCell ⟨gN, 0, none⟩ (.bool (mnM v2))).setCell ⟨gN, 1, none⟩ (.slice A2 (D v2.natAbs).length c2)) := ⟨_, rfl⟩
  have HNE : Aside0 (∀ p ∈ ([(gM, #[.int .u64 hn, .int .u64 ln, .bool sn], 40), (gW, #[.int .u64 h, .int .u64 l], 38)] : List (Nat × Array Value × TypeId)), p.1 ≠ gN) := ⟨by
    intro p hp
    have hg := Bx.get HVW6.out (gN, #[.bool (mnM v), .slice A1 (D v.natAbs).length c1], 46) (by simp)
    simp only [List.mem_cons, List.not_mem_nil, or_false] at hp
    rcases hp with rfl | rfl
    · exact box_ne (Bx.get HVW6.out (gM, #[.int .u64 hn, .int .u64 ln, .bool sn], 40) (by simp)) hg (show (40 : Nat) ≠ 46 by decide)
    · exact box_ne (Bx.get HVW6.out (gW, #[.int .u64 h, .int .u64 l], 38) (by simp)) hg (show (38 : Nat) ≠ 46 by decide)
  ⟩
  have HBW6 : Aside0 (Bx w W6 [(gN, #[.bool (mnM v2), .slice A2 (D v2.natAbs).length c2], 46), (gM, #[.int .u64 hn, .int .u64 ln, .bool sn], 40), (gW, #[.int .u64 h, .int .u64 l], 38)]) := ⟨by rw [hW]; exact (Bx.set (Bx.set (Bx.sub HVW6.out (l2 := [(gN, #[.bool (mnM v), .slice A1 (D v.natAbs).length c1], 46), (gM, #[.int .u64 hn, .int .u64 ln, .bool sn], 40), (gW, #[.int .u64 h, .int .u64 l], 38)]) (by simp)) HNE.out 0 (.bool (mnM v2))) HNE.out 1 (.slice A2 (D v2.natAbs).length c2))⟩
  have hb0 := Bx.get HVW6.out (gN, #[.bool (mnM v), .slice A1 (D v.natAbs).length c1], 46) (by simp)
  have HX2 : Aside0 (Rm W6 (.agg #[.bool (mnM v2), .slice A2 (D v2.natAbs).length c2]) v2) := ⟨by rw [hW]; exact Rm.set (Rm.set ⟨_, rfl, HR2.out⟩ hb0 (show (46 : Nat) ≠ 67 by decide) 0 _) (blk_set hb0 0 _) (show (46 : Nat) ≠ 67 by decide) 1 _⟩
  clear hb0
  rw [← hW]
  clear hW HNE f0 e0 g0 f1 e1 g1
  obtain ⟨N, fw, hf0, hfs, hfc⟩ := calm_class (fun W => Bq w W [(gN, #[.bool (mnM v2), .slice A2 (D v2.natAbs).length c2], 46), (gM, #[.int .u64 hn, .int .u64 ln, .bool sn], 40), (gW, #[.int .u64 h, .int .u64 l], 38)] (.agg #[.bool (mnM v2), .slice A2 (D v2.natAbs).length c2]) v2) W6 (Bq.drew ⟨HBW6.out, HX2.out⟩) (fun W w' h hb => h.below hb)
  have hne : Nonempty N := ⟨hf0.choose⟩
  have HFC := Aside0.mk hfc
  have HFS := Aside0.mk hfs
  have HRX := Aside0.mk (fun n => (hfs n).2)
  have qgN0 : ∀ n, (fw n).cell? ⟨gN, 0, none⟩ = some (.bool (mnM v2)) := fun n => (blk_cell (Bq.get (hfs n) (gN, #[.bool (mnM v2), .slice A2 (D v2.natAbs).length c2], 46) (by simp)) 0).trans rfl
  have qgN1 : ∀ n, (fw n).cell? ⟨gN, 1, none⟩ = some (.slice A2 (D v2.natAbs).length c2) := fun n => (blk_cell (Bq.get (hfs n) (gN, #[.bool (mnM v2), .slice A2 (D v2.natAbs).length c2], 46) (by simp)) 1).trans rfl
  have qgM0 : ∀ n, (fw n).cell? ⟨gM, 0, none⟩ = some (.int .u64 hn) := fun n => (blk_cell (Bq.get (hfs n) (gM, #[.int .u64 hn, .int .u64 ln, .bool sn], 40) (by simp)) 0).trans rfl
  have qgM1 : ∀ n, (fw n).cell? ⟨gM, 1, none⟩ = some (.int .u64 ln) := fun n => (blk_cell (Bq.get (hfs n) (gM, #[.int .u64 hn, .int .u64 ln, .bool sn], 40) (by simp)) 1).trans rfl
  have qgM2 : ∀ n, (fw n).cell? ⟨gM, 2, none⟩ = some (.bool sn) := fun n => (blk_cell (Bq.get (hfs n) (gM, #[.int .u64 hn, .int .u64 ln, .bool sn], 40) (by simp)) 2).trans rfl
  have qgW0 : ∀ n, (fw n).cell? ⟨gW, 0, none⟩ = some (.int .u64 h) := fun n => (blk_cell (Bq.get (hfs n) (gW, #[.int .u64 h, .int .u64 l], 38) (by simp)) 0).trans rfl
  have qgW1 : ∀ n, (fw n).cell? ⟨gW, 1, none⟩ = some (.int .u64 l) := fun n => (blk_cell (Bq.get (hfs n) (gW, #[.int .u64 h, .int .u64 l], 38) (by simp)) 1).trans rfl
  clear hfs hfc
  refine wp_region_calm fw (by kernel_rfl) (by kernel_rfl) hf0 ?_
  repeat (go_big_quiet_step ((first
    | (go_at_call 28; with_reducible exact Calls.calm HFC (HT2.out _))
    | (go_at_call 31; with_reducible exact Calls.calm HFC (HT2r.out _ _ (HRX.out _)))
    | (go_at_call 26; with_reducible exact Calls.calm HFC (HW2'.out _)))))
  refine wpQuiet_nil ?_
  intro _ hw'
  obtain ⟨nq, hw''⟩ := hw'
  subst hw''
  have HBW7 : Aside0 (Bx w (fw nq) [(gN, #[.bool (mnM v2), .slice A2 (D v2.natAbs).length c2], 46), (gM, #[.int .u64 hn, .int .u64 ln, .bool sn], 40), (gW, #[.int .u64 h, .int .u64 l], 38)]) := ⟨(HFS.out nq).1⟩
  obtain ⟨W7, hW⟩ : ∃ W, W = fw nq := ⟨_, rfl⟩
  rw [← hW] at HBW7 ⊢
  clear hW
  clear HFC HFS HRX hf0 hne qgN0 qgN1 qgM0 qgM1 qgM2 qgW0 qgW1
  go_upto_region 10 with (first
    | ((with_reducible refine gate_callee (f := 24) rfl ?_); (try (refine gate_guard (by rfl) ?_; dsimp only)); refine goesL_ (some 72) rfl rfl Try.func24 (by kernel_rfl) rfl #[.string ⟨#[49, 46, 48, 48]⟩] rfl (by (try simp only [List.map_toArray, List.map_cons, List.map_nil]); first | done | rfl) ?_; (with_reducible refine (HP1.out _).mono ?_); rintro e wW8 ⟨rfl, hb⟩; refine ⟨_, rfl, ?_⟩; have HVW8 := Aside0.mk (Bx.below HBW7.out hb); clear hb))
  obtain ⟨W8, hW⟩ : ∃ W, W = wW8.alloc (.cells #[.int .u64 0, .int .u64 100, .bool false] 40) := ⟨_, rfl⟩
  obtain ⟨gO, hg⟩ : ∃ g, g = wW8.heap.size := ⟨_, rfl⟩
  have HBW8 : Aside0 (Bx w W8 [(gN, #[.bool (mnM v2), .slice A2 (D v2.natAbs).length c2], 46), (gM, #[.int .u64 hn, .int .u64 ln, .bool sn], 40), (gW, #[.int .u64 h, .int .u64 l], 38), (gO, #[.int .u64 0, .int .u64 100, .bool false], 40)]) := ⟨by have h := Bx.alloc HVW8.out #[.int .u64 0, .int .u64 100, .bool false] 40; rw [← hW, ← hg] at h; exact h⟩
  rw [← hW, ← hg]
  clear hW hg
  obtain ⟨N, fw, hf0, hfs, hfc⟩ := calm_class (fun W => Bx w W [(gN, #[.bool (mnM v2), .slice A2 (D v2.natAbs).length c2], 46), (gM, #[.int .u64 hn, .int .u64 ln, .bool sn], 40), (gW, #[.int .u64 h, .int .u64 l], 38), (gO, #[.int .u64 0, .int .u64 100, .bool false], 40)]) W8 HBW8.out.drew (fun W w' h hb => h.below hb)
  have hne : Nonempty N := ⟨hf0.choose⟩
  have HFC := Aside0.mk hfc
  have HFS := Aside0.mk hfs
  have qgO0 : ∀ n, (fw n).cell? ⟨gO, 0, none⟩ = some (.int .u64 0) := fun n => (blk_cell (Bx.get (hfs n) (gO, #[.int .u64 0, .int .u64 100, .bool false], 40) (by simp)) 0).trans rfl
  have qgO1 : ∀ n, (fw n).cell? ⟨gO, 1, none⟩ = some (.int .u64 100) := fun n => (blk_cell (Bx.get (hfs n) (gO, #[.int .u64 0, .int .u64 100, .bool false], 40) (by simp)) 1).trans rfl
  have qgO2 : ∀ n, (fw n).cell? ⟨gO, 2, none⟩ = some (.bool false) := fun n => (blk_cell (Bx.get (hfs n) (gO, #[.int .u64 0, .int .u64 100, .bool false], 40) (by simp)) 2).trans rfl
  clear hfs hfc
  refine wp_region_calm fw (by kernel_rfl) (by kernel_rfl) hf0 ?_
  repeat (go_big_quiet_step ((first
    | (go_at_call 33; with_reducible exact Calls.calm HFC (HC.out _))
    | (go_at_call 32; with_reducible exact Calls.calm HFC (HCmp.out _)))))
  refine wpQuiet_nil ?_
  intro _ hw'
  obtain ⟨nq, hw''⟩ := hw'
  subst hw''
  have HBW9 : Aside0 (Bx w (fw nq) [(gN, #[.bool (mnM v2), .slice A2 (D v2.natAbs).length c2], 46), (gM, #[.int .u64 hn, .int .u64 ln, .bool sn], 40), (gW, #[.int .u64 h, .int .u64 l], 38), (gO, #[.int .u64 0, .int .u64 100, .bool false], 40)]) := ⟨HFS.out nq⟩
  obtain ⟨W9, hW⟩ : ∃ W, W = fw nq := ⟨_, rfl⟩
  rw [← hW] at HBW9 ⊢
  clear hW
  clear HFC HFS hf0 hne qgO0 qgO1 qgO2
  go_wp2
  go_ret
  exact ⟨rfl, HBW9.out.bel⟩

set_option maxHeartbeats 32000000 in
set_option maxRecDepth 100000 in
theorem reads_zn (S T2 : ByteArray) (k k2 v v2 h l hm lm hn ln p0 p1 : Int) (sm sn : Bool) (w : World)
    (HP : Aside0 (∀ W, Calls Try.prog 24 #[.string S] W fun e w' => e = .returned (.tuple #[.agg #[.int .u64 hm, .int .u64 lm, .bool sm], .int .i64 k]) ∧ Below W.heap.size W w'))
    (HPr : Aside0 (∀ W, Calls Try.prog 25 #[.string S] W (RmE W v k)))
    (HW : Aside0 (∀ W, Calls Try.prog 26 #[.agg #[.int .u64 hm, .int .u64 lm, .bool sm]] W fun e w' => e = .returned (.agg #[.int .u64 p0, .int .u64 p1]) ∧ Below W.heap.size W w'))
    (HWr : Aside0 (∀ W X, Rm W X v → Calls Try.prog 27 #[X] W fun e w' => e = .returned (.agg #[.int .u64 p0, .int .u64 p1]) ∧ Below W.heap.size W w'))
    (HT : Aside0 (k = 0 → ∀ W, Calls Try.prog 28 #[.agg #[.int .u64 hm, .int .u64 lm, .bool sm]] W fun e w' => e = .returned (.string S) ∧ Below W.heap.size W w'))
    (HF : Aside0 (∀ W, Calls Try.prog 29 #[.agg #[.int .u64 h, .int .u64 l]] W fun e w' => e = .returned (.tuple #[.agg #[.int .u64 hn, .int .u64 ln, .bool sn], .int .i64 k2]) ∧ Below W.heap.size W w'))
    (HFr : Aside0 (∀ W, Calls Try.prog 30 #[.agg #[.int .u64 h, .int .u64 l]] W (RmE W v2 k2)))
    (HT2 : Aside0 (∀ W, Calls Try.prog 28 #[.agg #[.int .u64 hn, .int .u64 ln, .bool sn]] W fun e w' => e = .returned (.string T2) ∧ Below W.heap.size W w'))
    (HT2r : Aside0 (∀ W X, Rm W X v2 → Calls Try.prog 31 #[X] W fun e w' => e = .returned (.string T2) ∧ Below W.heap.size W w'))
    (HW2 : Aside0 (k2 = 0 → ∀ W, Calls Try.prog 26 #[.agg #[.int .u64 hn, .int .u64 ln, .bool sn]] W fun e w' => e = .returned (.agg #[.int .u64 h, .int .u64 l]) ∧ Below W.heap.size W w'))
    (HP1 : Aside0 (∀ W, Calls Try.prog 24 #[.string ⟨#[49, 46, 48, 48]⟩] W fun e w' => e = .returned (.tuple #[.agg #[.int .u64 0, .int .u64 100, .bool false], .int .i64 0]) ∧ Below W.heap.size W w'))
    (HC : Aside0 (∀ W, Calls Try.prog 33 #[.int .i64 100] W fun e w' => e = .returned (.agg #[.int .u64 0, .int .u64 100, .bool false]) ∧ Below W.heap.size W w'))
    (HCmp : Aside0 (∀ W, Calls Try.prog 32 #[.agg #[.int .u64 0, .int .u64 100, .bool false], .agg #[.int .u64 0, .int .u64 100, .bool false]] W fun e w' => e = .returned (.int .i64 0) ∧ Below W.heap.size W w'))
    (HE1 : ∀ W, (Op.equalIn 10000 38 (.agg #[.int .u64 p0, .int .u64 p1]) (.agg #[.int .u64 p0, .int .u64 p1])).run Try.prog W = .ok true W)
    (HE2 : ∀ W, (Op.equalIn 10000 38 (.agg #[.int .u64 h, .int .u64 l]) (.agg #[.int .u64 h, .int .u64 l])).run Try.prog W = .ok true W)
    (hk : k = 0) (hk2 : k2 ≠ 0) :
    Calls Try.prog 8 #[.string S, .agg #[.int .u64 h, .int .u64 l]] w fun e w' => e = .returned (.bool true) ∧ Below w.heap.size w w' := by
  have HT' := Aside0.mk (HT.out hk)
  have kb : (k == 0) = true := beq_iff_eq.mpr hk
  have kb2 : (k2 == 0) = false := beq_eq_false_iff_ne.mpr hk2
  have kk : (k != k) = false := bne_self_eq_false' (a := k)
  have kk2 : (k2 != k2) = false := bne_self_eq_false' (a := k2)
  clear hk hk2
  go_enter Try.func8, Try.ntmps8
  go_upto_region 1 with (fail)
  obtain ⟨W1, hW⟩ : ∃ W, W = (w.alloc (.cells #[.int .u64 h, .int .u64 l] 38)) := ⟨_, rfl⟩
  obtain ⟨gW, hgW⟩ : ∃ g, g = w.heap.size := ⟨_, rfl⟩
  have HBW1 : Aside0 (Bx w W1 [(gW, #[.int .u64 h, .int .u64 l], 38)]) := ⟨by rw [hW, hgW]; exact Bx.allocs1 _ _ _⟩
  rw [← hW, ← hgW]
  clear hW hgW
  go_upto_region 2 with (first
    | ((with_reducible refine gate_callee (f := 24) rfl ?_); (try (refine gate_guard (by rfl) ?_; dsimp only)); refine goesL_ (some 13) rfl rfl Try.func24 (by kernel_rfl) rfl #[.string S] rfl (by (try simp only [List.map_toArray, List.map_cons, List.map_nil]); first | done | rfl) ?_; (with_reducible refine (HP.out _).mono ?_); rintro e wW2 ⟨rfl, hb⟩; refine ⟨_, rfl, ?_⟩; have HVW2 := Aside0.mk (Bx.below HBW1.out hb); clear hb))
  obtain ⟨W2, hW⟩ : ∃ W, W = wW2.alloc (.cells #[.int .u64 hm, .int .u64 lm, .bool sm] 40) := ⟨_, rfl⟩
  obtain ⟨gM, hg⟩ : ∃ g, g = wW2.heap.size := ⟨_, rfl⟩
  have HBW2 : Aside0 (Bx w W2 [(gW, #[.int .u64 h, .int .u64 l], 38), (gM, #[.int .u64 hm, .int .u64 lm, .bool sm], 40)]) := ⟨by have h := Bx.alloc HVW2.out #[.int .u64 hm, .int .u64 lm, .bool sm] 40; rw [← hW, ← hg] at h; exact h⟩
  rw [← hW, ← hg]
  clear hW hg
  go_upto_region 3 with (first
    | ((with_reducible refine gate_callee (f := 25) rfl ?_); (try (refine gate_guard (by rfl) ?_; dsimp only)); refine goesL_ (some 18) rfl rfl Try.func25 (by kernel_rfl) rfl #[.string S] rfl (by (try simp only [List.map_toArray, List.map_cons, List.map_nil]); first | done | rfl) ?_; (with_reducible refine (HPr.out _).mono ?_); rintro e wW3 ⟨X1, rfl, hr, hb⟩; refine ⟨_, rfl, ?_⟩; have HVW3 := Aside0.mk (Bx.below HBW2.out hb); clear hb; obtain ⟨u1, rfl, hr⟩ := hr; obtain ⟨A1, c1, e1⟩ := Kd.R_slice hr; subst e1; have HR1 := Aside0.mk hr; clear hr))
  obtain ⟨W3, hW⟩ : ∃ W, W = wW3.alloc (.cells #[.bool (mnM v), .slice A1 (D v.natAbs).length c1] 46) := ⟨_, rfl⟩
  obtain ⟨gN, hg⟩ : ∃ g, g = wW3.heap.size := ⟨_, rfl⟩
  have HBW3 : Aside0 (Bx w W3 [(gW, #[.int .u64 h, .int .u64 l], 38), (gM, #[.int .u64 hm, .int .u64 lm, .bool sm], 40), (gN, #[.bool (mnM v), .slice A1 (D v.natAbs).length c1], 46)]) := ⟨by have h := Bx.alloc HVW3.out #[.bool (mnM v), .slice A1 (D v.natAbs).length c1] 46; rw [← hW, ← hg] at h; exact h⟩
  have HX1 : Aside0 (Rm W3 (.agg #[.bool (mnM v), .slice A1 (D v.natAbs).length c1]) v) := ⟨by rw [hW]; exact Rm.below ⟨_, rfl, HR1.out⟩ ((Below.refl _ _).alloc (Nat.le_refl _) _)⟩
  rw [← hW, ← hg]
  clear hW hg
  obtain ⟨N, fw, hf0, hfs, hfc⟩ := calm_class (fun W => Bq w W [(gW, #[.int .u64 h, .int .u64 l], 38), (gM, #[.int .u64 hm, .int .u64 lm, .bool sm], 40), (gN, #[.bool (mnM v), .slice A1 (D v.natAbs).length c1], 46)] (.agg #[.bool (mnM v), .slice A1 (D v.natAbs).length c1]) v) W3 (Bq.drew ⟨HBW3.out, HX1.out⟩) (fun W w' h hb => h.below hb)
  have hne : Nonempty N := ⟨hf0.choose⟩
  have HFC := Aside0.mk hfc
  have HFS := Aside0.mk hfs
  have HRX := Aside0.mk (fun n => (hfs n).2)
  have qgM0 : ∀ n, (fw n).cell? ⟨gM, 0, none⟩ = some (.int .u64 hm) := fun n => (blk_cell (Bq.get (hfs n) (gM, #[.int .u64 hm, .int .u64 lm, .bool sm], 40) (by simp)) 0).trans rfl
  have qgM1 : ∀ n, (fw n).cell? ⟨gM, 1, none⟩ = some (.int .u64 lm) := fun n => (blk_cell (Bq.get (hfs n) (gM, #[.int .u64 hm, .int .u64 lm, .bool sm], 40) (by simp)) 1).trans rfl
  have qgM2 : ∀ n, (fw n).cell? ⟨gM, 2, none⟩ = some (.bool sm) := fun n => (blk_cell (Bq.get (hfs n) (gM, #[.int .u64 hm, .int .u64 lm, .bool sm], 40) (by simp)) 2).trans rfl
  have qgN0 : ∀ n, (fw n).cell? ⟨gN, 0, none⟩ = some (.bool (mnM v)) := fun n => (blk_cell (Bq.get (hfs n) (gN, #[.bool (mnM v), .slice A1 (D v.natAbs).length c1], 46) (by simp)) 0).trans rfl
  have qgN1 : ∀ n, (fw n).cell? ⟨gN, 1, none⟩ = some (.slice A1 (D v.natAbs).length c1) := fun n => (blk_cell (Bq.get (hfs n) (gN, #[.bool (mnM v), .slice A1 (D v.natAbs).length c1], 46) (by simp)) 1).trans rfl
  clear hfs hfc
  refine wp_region_calm fw (by kernel_rfl) (by kernel_rfl) hf0 ?_
  repeat (go_big_quiet_step ((first
    | (go_at_call 26; with_reducible exact Calls.calm HFC (HW.out _))
    | (go_at_call 27; with_reducible exact Calls.calm HFC (HWr.out _ _ (HRX.out _)))
    | (go_at_call 28; with_reducible exact Calls.calm HFC (HT'.out _)))))
  refine wpQuiet_nil ?_
  intro _ hw'
  obtain ⟨nq, hw''⟩ := hw'
  subst hw''
  have HBW4 : Aside0 (Bx w (fw nq) [(gW, #[.int .u64 h, .int .u64 l], 38), (gM, #[.int .u64 hm, .int .u64 lm, .bool sm], 40), (gN, #[.bool (mnM v), .slice A1 (D v.natAbs).length c1], 46)]) := ⟨(HFS.out nq).1⟩
  obtain ⟨W4, hW⟩ : ∃ W, W = fw nq := ⟨_, rfl⟩
  rw [← hW] at HBW4 ⊢
  clear hW
  clear HFC HFS HRX hf0 hne qgM0 qgM1 qgM2 qgN0 qgN1
  have qgW0 : W4.cell? ⟨gW, 0, none⟩ = some (.int .u64 h) := (blk_cell (Bx.get HBW4.out (gW, #[.int .u64 h, .int .u64 l], 38) (by simp)) 0).trans rfl
  have qgW1 : W4.cell? ⟨gW, 1, none⟩ = some (.int .u64 l) := (blk_cell (Bx.get HBW4.out (gW, #[.int .u64 h, .int .u64 l], 38) (by simp)) 1).trans rfl
  have f0 : W4.frozen? ⟨gM, 0, none⟩ = false := blk_frozen (Bx.get HBW4.out (gM, #[.int .u64 hm, .int .u64 lm, .bool sm], 40) (by simp)) 0
  have f1 : W4.frozen? ⟨gM, 1, none⟩ = false := blk_frozen (Bx.get HBW4.out (gM, #[.int .u64 hm, .int .u64 lm, .bool sm], 40) (by simp)) 1
  have f2 : W4.frozen? ⟨gM, 2, none⟩ = false := blk_frozen (Bx.get HBW4.out (gM, #[.int .u64 hm, .int .u64 lm, .bool sm], 40) (by simp)) 2
  go_upto_region 6 with (first
    | ((with_reducible refine gate_callee (f := 29) rfl ?_); (try (refine gate_guard (by rfl) ?_; dsimp only)); refine goesL_ (some 43) rfl rfl Try.func29 (by kernel_rfl) rfl #[.agg #[.int .u64 h, .int .u64 l]] rfl (by (try simp only [List.map_toArray, List.map_cons, List.map_nil]); first | done | rfl) ?_; (with_reducible refine (HF.out _).mono ?_); rintro e wW5 ⟨rfl, hb⟩; refine ⟨_, rfl, ?_⟩; have HVW5 := Aside0.mk (Bx.below HBW4.out hb); clear hb; have e0 : wW5.cell? ⟨gM, 0, none⟩ = some (.int .u64 hm) := (blk_cell (Bx.get HVW5.out (gM, #[.int .u64 hm, .int .u64 lm, .bool sm], 40) (by simp)) 0).trans rfl; have g0 : wW5.frozen? ⟨gM, 0, none⟩ = false := blk_frozen (Bx.get HVW5.out (gM, #[.int .u64 hm, .int .u64 lm, .bool sm], 40) (by simp)) 0; have e1 : wW5.cell? ⟨gM, 1, none⟩ = some (.int .u64 lm) := (blk_cell (Bx.get HVW5.out (gM, #[.int .u64 hm, .int .u64 lm, .bool sm], 40) (by simp)) 1).trans rfl; have g1 : wW5.frozen? ⟨gM, 1, none⟩ = false := blk_frozen (Bx.get HVW5.out (gM, #[.int .u64 hm, .int .u64 lm, .bool sm], 40) (by simp)) 1; have e2 : wW5.cell? ⟨gM, 2, none⟩ = some (.bool sm) := (blk_cell (Bx.get HVW5.out (gM, #[.int .u64 hm, .int .u64 lm, .bool sm], 40) (by simp)) 2).trans rfl; have g2 : wW5.frozen? ⟨gM, 2, none⟩ = false := blk_frozen (Bx.get HVW5.out (gM, #[.int .u64 hm, .int .u64 lm, .bool sm], 40) (by simp)) 2; skip))
  clear qgW0 qgW1
  obtain ⟨W5, hW⟩ : ∃ W, W = (((wW5.setCell ⟨gM, 0, none⟩ (.int .u64 hn)).setCell ⟨gM, 1, none⟩ (.int .u64 ln)).setCell ⟨gM, 2, none⟩ (.bool sn)) := ⟨_, rfl⟩
  have HNE : Aside0 (∀ p ∈ ([(gW, #[.int .u64 h, .int .u64 l], 38), (gN, #[.bool (mnM v), .slice A1 (D v.natAbs).length c1], 46)] : List (Nat × Array Value × TypeId)), p.1 ≠ gM) := ⟨by
    intro p hp
    have hg := Bx.get HVW5.out (gM, #[.int .u64 hm, .int .u64 lm, .bool sm], 40) (by simp)
    simp only [List.mem_cons, List.not_mem_nil, or_false] at hp
    rcases hp with rfl | rfl
    · exact box_ne (Bx.get HVW5.out (gW, #[.int .u64 h, .int .u64 l], 38) (by simp)) hg (show (38 : Nat) ≠ 40 by decide)
    · exact box_ne (Bx.get HVW5.out (gN, #[.bool (mnM v), .slice A1 (D v.natAbs).length c1], 46) (by simp)) hg (show (46 : Nat) ≠ 40 by decide)
  ⟩
  have HBW5 : Aside0 (Bx w W5 [(gM, #[.int .u64 hn, .int .u64 ln, .bool sn], 40), (gW, #[.int .u64 h, .int .u64 l], 38), (gN, #[.bool (mnM v), .slice A1 (D v.natAbs).length c1], 46)]) := ⟨by rw [hW]; exact (Bx.set (Bx.set (Bx.set (Bx.sub HVW5.out (l2 := [(gM, #[.int .u64 hm, .int .u64 lm, .bool sm], 40), (gW, #[.int .u64 h, .int .u64 l], 38), (gN, #[.bool (mnM v), .slice A1 (D v.natAbs).length c1], 46)]) (by simp)) HNE.out 0 (.int .u64 hn)) HNE.out 1 (.int .u64 ln)) HNE.out 2 (.bool sn))⟩
  rw [← hW]
  clear hW HNE f0 e0 g0 f1 e1 g1 f2 e2 g2
  have qgW0 : W5.cell? ⟨gW, 0, none⟩ = some (.int .u64 h) := (blk_cell (Bx.get HBW5.out (gW, #[.int .u64 h, .int .u64 l], 38) (by simp)) 0).trans rfl
  have qgW1 : W5.cell? ⟨gW, 1, none⟩ = some (.int .u64 l) := (blk_cell (Bx.get HBW5.out (gW, #[.int .u64 h, .int .u64 l], 38) (by simp)) 1).trans rfl
  have f0 : W5.frozen? ⟨gN, 0, none⟩ = false := blk_frozen (Bx.get HBW5.out (gN, #[.bool (mnM v), .slice A1 (D v.natAbs).length c1], 46) (by simp)) 0
  have f1 : W5.frozen? ⟨gN, 1, none⟩ = false := blk_frozen (Bx.get HBW5.out (gN, #[.bool (mnM v), .slice A1 (D v.natAbs).length c1], 46) (by simp)) 1
  go_upto_region 7 with (first
    | ((with_reducible refine gate_callee (f := 30) rfl ?_); (try (refine gate_guard (by rfl) ?_; dsimp only)); refine goesL_ (some 48) rfl rfl Try.func30 (by kernel_rfl) rfl #[.agg #[.int .u64 h, .int .u64 l]] rfl (by (try simp only [List.map_toArray, List.map_cons, List.map_nil]); first | done | rfl) ?_; (with_reducible refine (HFr.out _).mono ?_); rintro e wW6 ⟨X2, rfl, hr, hb⟩; refine ⟨_, rfl, ?_⟩; have HVW6 := Aside0.mk (Bx.below HBW5.out hb); clear hb; obtain ⟨u2, rfl, hr⟩ := hr; obtain ⟨A2, c2, e2⟩ := Kd.R_slice hr; subst e2; have HR2 := Aside0.mk hr; clear hr; have e0 : wW6.cell? ⟨gN, 0, none⟩ = some (.bool (mnM v)) := (blk_cell (Bx.get HVW6.out (gN, #[.bool (mnM v), .slice A1 (D v.natAbs).length c1], 46) (by simp)) 0).trans rfl; have g0 : wW6.frozen? ⟨gN, 0, none⟩ = false := blk_frozen (Bx.get HVW6.out (gN, #[.bool (mnM v), .slice A1 (D v.natAbs).length c1], 46) (by simp)) 0; have e1 : wW6.cell? ⟨gN, 1, none⟩ = some (.slice A1 (D v.natAbs).length c1) := (blk_cell (Bx.get HVW6.out (gN, #[.bool (mnM v), .slice A1 (D v.natAbs).length c1], 46) (by simp)) 1).trans rfl; have g1 : wW6.frozen? ⟨gN, 1, none⟩ = false := blk_frozen (Bx.get HVW6.out (gN, #[.bool (mnM v), .slice A1 (D v.natAbs).length c1], 46) (by simp)) 1; skip))
  clear qgW0 qgW1
  obtain ⟨W6, hW⟩ : ∃ W, W = ((wW6.setCell ⟨gN, 0, none⟩ (.bool (mnM v2))).setCell ⟨gN, 1, none⟩ (.slice A2 (D v2.natAbs).length c2)) := ⟨_, rfl⟩
  have HNE : Aside0 (∀ p ∈ ([(gM, #[.int .u64 hn, .int .u64 ln, .bool sn], 40), (gW, #[.int .u64 h, .int .u64 l], 38)] : List (Nat × Array Value × TypeId)), p.1 ≠ gN) := ⟨by
    intro p hp
    have hg := Bx.get HVW6.out (gN, #[.bool (mnM v), .slice A1 (D v.natAbs).length c1], 46) (by simp)
    simp only [List.mem_cons, List.not_mem_nil, or_false] at hp
    rcases hp with rfl | rfl
    · exact box_ne (Bx.get HVW6.out (gM, #[.int .u64 hn, .int .u64 ln, .bool sn], 40) (by simp)) hg (show (40 : Nat) ≠ 46 by decide)
    · exact box_ne (Bx.get HVW6.out (gW, #[.int .u64 h, .int .u64 l], 38) (by simp)) hg (show (38 : Nat) ≠ 46 by decide)
  ⟩
  have HBW6 : Aside0 (Bx w W6 [(gN, #[.bool (mnM v2), .slice A2 (D v2.natAbs).length c2], 46), (gM, #[.int .u64 hn, .int .u64 ln, .bool sn], 40), (gW, #[.int .u64 h, .int .u64 l], 38)]) := ⟨by rw [hW]; exact (Bx.set (Bx.set (Bx.sub HVW6.out (l2 := [(gN, #[.bool (mnM v), .slice A1 (D v.natAbs).length c1], 46), (gM, #[.int .u64 hn, .int .u64 ln, .bool sn], 40), (gW, #[.int .u64 h, .int .u64 l], 38)]) (by simp)) HNE.out 0 (.bool (mnM v2))) HNE.out 1 (.slice A2 (D v2.natAbs).length c2))⟩
  have hb0 := Bx.get HVW6.out (gN, #[.bool (mnM v), .slice A1 (D v.natAbs).length c1], 46) (by simp)
  have HX2 : Aside0 (Rm W6 (.agg #[.bool (mnM v2), .slice A2 (D v2.natAbs).length c2]) v2) := ⟨by rw [hW]; exact Rm.set (Rm.set ⟨_, rfl, HR2.out⟩ hb0 (show (46 : Nat) ≠ 67 by decide) 0 _) (blk_set hb0 0 _) (show (46 : Nat) ≠ 67 by decide) 1 _⟩
  clear hb0
  rw [← hW]
  clear hW HNE f0 e0 g0 f1 e1 g1
  obtain ⟨N, fw, hf0, hfs, hfc⟩ := calm_class (fun W => Bq w W [(gN, #[.bool (mnM v2), .slice A2 (D v2.natAbs).length c2], 46), (gM, #[.int .u64 hn, .int .u64 ln, .bool sn], 40), (gW, #[.int .u64 h, .int .u64 l], 38)] (.agg #[.bool (mnM v2), .slice A2 (D v2.natAbs).length c2]) v2) W6 (Bq.drew ⟨HBW6.out, HX2.out⟩) (fun W w' h hb => h.below hb)
  have hne : Nonempty N := ⟨hf0.choose⟩
  have HFC := Aside0.mk hfc
  have HFS := Aside0.mk hfs
  have HRX := Aside0.mk (fun n => (hfs n).2)
  have qgN0 : ∀ n, (fw n).cell? ⟨gN, 0, none⟩ = some (.bool (mnM v2)) := fun n => (blk_cell (Bq.get (hfs n) (gN, #[.bool (mnM v2), .slice A2 (D v2.natAbs).length c2], 46) (by simp)) 0).trans rfl
  have qgN1 : ∀ n, (fw n).cell? ⟨gN, 1, none⟩ = some (.slice A2 (D v2.natAbs).length c2) := fun n => (blk_cell (Bq.get (hfs n) (gN, #[.bool (mnM v2), .slice A2 (D v2.natAbs).length c2], 46) (by simp)) 1).trans rfl
  have qgM0 : ∀ n, (fw n).cell? ⟨gM, 0, none⟩ = some (.int .u64 hn) := fun n => (blk_cell (Bq.get (hfs n) (gM, #[.int .u64 hn, .int .u64 ln, .bool sn], 40) (by simp)) 0).trans rfl
  have qgM1 : ∀ n, (fw n).cell? ⟨gM, 1, none⟩ = some (.int .u64 ln) := fun n => (blk_cell (Bq.get (hfs n) (gM, #[.int .u64 hn, .int .u64 ln, .bool sn], 40) (by simp)) 1).trans rfl
  have qgM2 : ∀ n, (fw n).cell? ⟨gM, 2, none⟩ = some (.bool sn) := fun n => (blk_cell (Bq.get (hfs n) (gM, #[.int .u64 hn, .int .u64 ln, .bool sn], 40) (by simp)) 2).trans rfl
  have qgW0 : ∀ n, (fw n).cell? ⟨gW, 0, none⟩ = some (.int .u64 h) := fun n => (blk_cell (Bq.get (hfs n) (gW, #[.int .u64 h, .int .u64 l], 38) (by simp)) 0).trans rfl
  have qgW1 : ∀ n, (fw n).cell? ⟨gW, 1, none⟩ = some (.int .u64 l) := fun n => (blk_cell (Bq.get (hfs n) (gW, #[.int .u64 h, .int .u64 l], 38) (by simp)) 1).trans rfl
  clear hfs hfc
  refine wp_region_calm fw (by kernel_rfl) (by kernel_rfl) hf0 ?_
  repeat (go_big_quiet_step ((first
    | (go_at_call 28; with_reducible exact Calls.calm HFC (HT2.out _))
    | (go_at_call 31; with_reducible exact Calls.calm HFC (HT2r.out _ _ (HRX.out _))))))
  refine wpQuiet_nil ?_
  intro _ hw'
  obtain ⟨nq, hw''⟩ := hw'
  subst hw''
  have HBW7 : Aside0 (Bx w (fw nq) [(gN, #[.bool (mnM v2), .slice A2 (D v2.natAbs).length c2], 46), (gM, #[.int .u64 hn, .int .u64 ln, .bool sn], 40), (gW, #[.int .u64 h, .int .u64 l], 38)]) := ⟨(HFS.out nq).1⟩
  obtain ⟨W7, hW⟩ : ∃ W, W = fw nq := ⟨_, rfl⟩
  rw [← hW] at HBW7 ⊢
  clear hW
  clear HFC HFS HRX hf0 hne qgN0 qgN1 qgM0 qgM1 qgM2 qgW0 qgW1
  go_upto_region 10 with (first
    | ((with_reducible refine gate_callee (f := 24) rfl ?_); (try (refine gate_guard (by rfl) ?_; dsimp only)); refine goesL_ (some 72) rfl rfl Try.func24 (by kernel_rfl) rfl #[.string ⟨#[49, 46, 48, 48]⟩] rfl (by (try simp only [List.map_toArray, List.map_cons, List.map_nil]); first | done | rfl) ?_; (with_reducible refine (HP1.out _).mono ?_); rintro e wW8 ⟨rfl, hb⟩; refine ⟨_, rfl, ?_⟩; have HVW8 := Aside0.mk (Bx.below HBW7.out hb); clear hb))
  obtain ⟨W8, hW⟩ : ∃ W, W = wW8.alloc (.cells #[.int .u64 0, .int .u64 100, .bool false] 40) := ⟨_, rfl⟩
  obtain ⟨gO, hg⟩ : ∃ g, g = wW8.heap.size := ⟨_, rfl⟩
  have HBW8 : Aside0 (Bx w W8 [(gN, #[.bool (mnM v2), .slice A2 (D v2.natAbs).length c2], 46), (gM, #[.int .u64 hn, .int .u64 ln, .bool sn], 40), (gW, #[.int .u64 h, .int .u64 l], 38), (gO, #[.int .u64 0, .int .u64 100, .bool false], 40)]) := ⟨by have h := Bx.alloc HVW8.out #[.int .u64 0, .int .u64 100, .bool false] 40; rw [← hW, ← hg] at h; exact h⟩
  rw [← hW, ← hg]
  clear hW hg
  obtain ⟨N, fw, hf0, hfs, hfc⟩ := calm_class (fun W => Bx w W [(gN, #[.bool (mnM v2), .slice A2 (D v2.natAbs).length c2], 46), (gM, #[.int .u64 hn, .int .u64 ln, .bool sn], 40), (gW, #[.int .u64 h, .int .u64 l], 38), (gO, #[.int .u64 0, .int .u64 100, .bool false], 40)]) W8 HBW8.out.drew (fun W w' h hb => h.below hb)
  have hne : Nonempty N := ⟨hf0.choose⟩
  have HFC := Aside0.mk hfc
  have HFS := Aside0.mk hfs
  have qgO0 : ∀ n, (fw n).cell? ⟨gO, 0, none⟩ = some (.int .u64 0) := fun n => (blk_cell (Bx.get (hfs n) (gO, #[.int .u64 0, .int .u64 100, .bool false], 40) (by simp)) 0).trans rfl
  have qgO1 : ∀ n, (fw n).cell? ⟨gO, 1, none⟩ = some (.int .u64 100) := fun n => (blk_cell (Bx.get (hfs n) (gO, #[.int .u64 0, .int .u64 100, .bool false], 40) (by simp)) 1).trans rfl
  have qgO2 : ∀ n, (fw n).cell? ⟨gO, 2, none⟩ = some (.bool false) := fun n => (blk_cell (Bx.get (hfs n) (gO, #[.int .u64 0, .int .u64 100, .bool false], 40) (by simp)) 2).trans rfl
  clear hfs hfc
  refine wp_region_calm fw (by kernel_rfl) (by kernel_rfl) hf0 ?_
  repeat (go_big_quiet_step ((first
    | (go_at_call 33; with_reducible exact Calls.calm HFC (HC.out _))
    | (go_at_call 32; with_reducible exact Calls.calm HFC (HCmp.out _)))))
  refine wpQuiet_nil ?_
  intro _ hw'
  obtain ⟨nq, hw''⟩ := hw'
  subst hw''
  have HBW9 : Aside0 (Bx w (fw nq) [(gN, #[.bool (mnM v2), .slice A2 (D v2.natAbs).length c2], 46), (gM, #[.int .u64 hn, .int .u64 ln, .bool sn], 40), (gW, #[.int .u64 h, .int .u64 l], 38), (gO, #[.int .u64 0, .int .u64 100, .bool false], 40)]) := ⟨HFS.out nq⟩
  obtain ⟨W9, hW⟩ : ∃ W, W = fw nq := ⟨_, rfl⟩
  rw [← hW] at HBW9 ⊢
  clear hW
  clear HFC HFS hf0 hne qgO0 qgO1 qgO2
  go_wp2
  go_ret
  exact ⟨rfl, HBW9.out.bel⟩

set_option maxHeartbeats 32000000 in
set_option maxRecDepth 100000 in
theorem reads_nz (S T2 : ByteArray) (k k2 v v2 h l hm lm hn ln p0 p1 : Int) (sm sn : Bool) (w : World)
    (HP : Aside0 (∀ W, Calls Try.prog 24 #[.string S] W fun e w' => e = .returned (.tuple #[.agg #[.int .u64 hm, .int .u64 lm, .bool sm], .int .i64 k]) ∧ Below W.heap.size W w'))
    (HPr : Aside0 (∀ W, Calls Try.prog 25 #[.string S] W (RmE W v k)))
    (HW : Aside0 (∀ W, Calls Try.prog 26 #[.agg #[.int .u64 hm, .int .u64 lm, .bool sm]] W fun e w' => e = .returned (.agg #[.int .u64 p0, .int .u64 p1]) ∧ Below W.heap.size W w'))
    (HWr : Aside0 (∀ W X, Rm W X v → Calls Try.prog 27 #[X] W fun e w' => e = .returned (.agg #[.int .u64 p0, .int .u64 p1]) ∧ Below W.heap.size W w'))
    (HT : Aside0 (k = 0 → ∀ W, Calls Try.prog 28 #[.agg #[.int .u64 hm, .int .u64 lm, .bool sm]] W fun e w' => e = .returned (.string S) ∧ Below W.heap.size W w'))
    (HF : Aside0 (∀ W, Calls Try.prog 29 #[.agg #[.int .u64 h, .int .u64 l]] W fun e w' => e = .returned (.tuple #[.agg #[.int .u64 hn, .int .u64 ln, .bool sn], .int .i64 k2]) ∧ Below W.heap.size W w'))
    (HFr : Aside0 (∀ W, Calls Try.prog 30 #[.agg #[.int .u64 h, .int .u64 l]] W (RmE W v2 k2)))
    (HT2 : Aside0 (∀ W, Calls Try.prog 28 #[.agg #[.int .u64 hn, .int .u64 ln, .bool sn]] W fun e w' => e = .returned (.string T2) ∧ Below W.heap.size W w'))
    (HT2r : Aside0 (∀ W X, Rm W X v2 → Calls Try.prog 31 #[X] W fun e w' => e = .returned (.string T2) ∧ Below W.heap.size W w'))
    (HW2 : Aside0 (k2 = 0 → ∀ W, Calls Try.prog 26 #[.agg #[.int .u64 hn, .int .u64 ln, .bool sn]] W fun e w' => e = .returned (.agg #[.int .u64 h, .int .u64 l]) ∧ Below W.heap.size W w'))
    (HP1 : Aside0 (∀ W, Calls Try.prog 24 #[.string ⟨#[49, 46, 48, 48]⟩] W fun e w' => e = .returned (.tuple #[.agg #[.int .u64 0, .int .u64 100, .bool false], .int .i64 0]) ∧ Below W.heap.size W w'))
    (HC : Aside0 (∀ W, Calls Try.prog 33 #[.int .i64 100] W fun e w' => e = .returned (.agg #[.int .u64 0, .int .u64 100, .bool false]) ∧ Below W.heap.size W w'))
    (HCmp : Aside0 (∀ W, Calls Try.prog 32 #[.agg #[.int .u64 0, .int .u64 100, .bool false], .agg #[.int .u64 0, .int .u64 100, .bool false]] W fun e w' => e = .returned (.int .i64 0) ∧ Below W.heap.size W w'))
    (HE1 : ∀ W, (Op.equalIn 10000 38 (.agg #[.int .u64 p0, .int .u64 p1]) (.agg #[.int .u64 p0, .int .u64 p1])).run Try.prog W = .ok true W)
    (HE2 : ∀ W, (Op.equalIn 10000 38 (.agg #[.int .u64 h, .int .u64 l]) (.agg #[.int .u64 h, .int .u64 l])).run Try.prog W = .ok true W)
    (hk : k ≠ 0) (hk2 : k2 = 0) :
    Calls Try.prog 8 #[.string S, .agg #[.int .u64 h, .int .u64 l]] w fun e w' => e = .returned (.bool true) ∧ Below w.heap.size w w' := by
  have HW2' := Aside0.mk (HW2.out hk2)
  have kb : (k == 0) = false := beq_eq_false_iff_ne.mpr hk
  have kb2 : (k2 == 0) = true := beq_iff_eq.mpr hk2
  have kk : (k != k) = false := bne_self_eq_false' (a := k)
  have kk2 : (k2 != k2) = false := bne_self_eq_false' (a := k2)
  clear hk hk2
  go_enter Try.func8, Try.ntmps8
  go_upto_region 1 with (fail)
  obtain ⟨W1, hW⟩ : ∃ W, W = (w.alloc (.cells #[.int .u64 h, .int .u64 l] 38)) := ⟨_, rfl⟩
  obtain ⟨gW, hgW⟩ : ∃ g, g = w.heap.size := ⟨_, rfl⟩
  have HBW1 : Aside0 (Bx w W1 [(gW, #[.int .u64 h, .int .u64 l], 38)]) := ⟨by rw [hW, hgW]; exact Bx.allocs1 _ _ _⟩
  rw [← hW, ← hgW]
  clear hW hgW
  go_upto_region 2 with (first
    | ((with_reducible refine gate_callee (f := 24) rfl ?_); (try (refine gate_guard (by rfl) ?_; dsimp only)); refine goesL_ (some 13) rfl rfl Try.func24 (by kernel_rfl) rfl #[.string S] rfl (by (try simp only [List.map_toArray, List.map_cons, List.map_nil]); first | done | rfl) ?_; (with_reducible refine (HP.out _).mono ?_); rintro e wW2 ⟨rfl, hb⟩; refine ⟨_, rfl, ?_⟩; have HVW2 := Aside0.mk (Bx.below HBW1.out hb); clear hb))
  obtain ⟨W2, hW⟩ : ∃ W, W = wW2.alloc (.cells #[.int .u64 hm, .int .u64 lm, .bool sm] 40) := ⟨_, rfl⟩
  obtain ⟨gM, hg⟩ : ∃ g, g = wW2.heap.size := ⟨_, rfl⟩
  have HBW2 : Aside0 (Bx w W2 [(gW, #[.int .u64 h, .int .u64 l], 38), (gM, #[.int .u64 hm, .int .u64 lm, .bool sm], 40)]) := ⟨by have h := Bx.alloc HVW2.out #[.int .u64 hm, .int .u64 lm, .bool sm] 40; rw [← hW, ← hg] at h; exact h⟩
  rw [← hW, ← hg]
  clear hW hg
  go_upto_region 3 with (first
    | ((with_reducible refine gate_callee (f := 25) rfl ?_); (try (refine gate_guard (by rfl) ?_; dsimp only)); refine goesL_ (some 18) rfl rfl Try.func25 (by kernel_rfl) rfl #[.string S] rfl (by (try simp only [List.map_toArray, List.map_cons, List.map_nil]); first | done | rfl) ?_; (with_reducible refine (HPr.out _).mono ?_); rintro e wW3 ⟨X1, rfl, hr, hb⟩; refine ⟨_, rfl, ?_⟩; have HVW3 := Aside0.mk (Bx.below HBW2.out hb); clear hb; obtain ⟨u1, rfl, hr⟩ := hr; obtain ⟨A1, c1, e1⟩ := Kd.R_slice hr; subst e1; have HR1 := Aside0.mk hr; clear hr))
  obtain ⟨W3, hW⟩ : ∃ W, W = wW3.alloc (.cells #[.bool (mnM v), .slice A1 (D v.natAbs).length c1] 46) := ⟨_, rfl⟩
  obtain ⟨gN, hg⟩ : ∃ g, g = wW3.heap.size := ⟨_, rfl⟩
  have HBW3 : Aside0 (Bx w W3 [(gW, #[.int .u64 h, .int .u64 l], 38), (gM, #[.int .u64 hm, .int .u64 lm, .bool sm], 40), (gN, #[.bool (mnM v), .slice A1 (D v.natAbs).length c1], 46)]) := ⟨by have h := Bx.alloc HVW3.out #[.bool (mnM v), .slice A1 (D v.natAbs).length c1] 46; rw [← hW, ← hg] at h; exact h⟩
  have HX1 : Aside0 (Rm W3 (.agg #[.bool (mnM v), .slice A1 (D v.natAbs).length c1]) v) := ⟨by rw [hW]; exact Rm.below ⟨_, rfl, HR1.out⟩ ((Below.refl _ _).alloc (Nat.le_refl _) _)⟩
  rw [← hW, ← hg]
  clear hW hg
  obtain ⟨N, fw, hf0, hfs, hfc⟩ := calm_class (fun W => Bq w W [(gW, #[.int .u64 h, .int .u64 l], 38), (gM, #[.int .u64 hm, .int .u64 lm, .bool sm], 40), (gN, #[.bool (mnM v), .slice A1 (D v.natAbs).length c1], 46)] (.agg #[.bool (mnM v), .slice A1 (D v.natAbs).length c1]) v) W3 (Bq.drew ⟨HBW3.out, HX1.out⟩) (fun W w' h hb => h.below hb)
  have hne : Nonempty N := ⟨hf0.choose⟩
  have HFC := Aside0.mk hfc
  have HFS := Aside0.mk hfs
  have HRX := Aside0.mk (fun n => (hfs n).2)
  have qgM0 : ∀ n, (fw n).cell? ⟨gM, 0, none⟩ = some (.int .u64 hm) := fun n => (blk_cell (Bq.get (hfs n) (gM, #[.int .u64 hm, .int .u64 lm, .bool sm], 40) (by simp)) 0).trans rfl
  have qgM1 : ∀ n, (fw n).cell? ⟨gM, 1, none⟩ = some (.int .u64 lm) := fun n => (blk_cell (Bq.get (hfs n) (gM, #[.int .u64 hm, .int .u64 lm, .bool sm], 40) (by simp)) 1).trans rfl
  have qgM2 : ∀ n, (fw n).cell? ⟨gM, 2, none⟩ = some (.bool sm) := fun n => (blk_cell (Bq.get (hfs n) (gM, #[.int .u64 hm, .int .u64 lm, .bool sm], 40) (by simp)) 2).trans rfl
  have qgN0 : ∀ n, (fw n).cell? ⟨gN, 0, none⟩ = some (.bool (mnM v)) := fun n => (blk_cell (Bq.get (hfs n) (gN, #[.bool (mnM v), .slice A1 (D v.natAbs).length c1], 46) (by simp)) 0).trans rfl
  have qgN1 : ∀ n, (fw n).cell? ⟨gN, 1, none⟩ = some (.slice A1 (D v.natAbs).length c1) := fun n => (blk_cell (Bq.get (hfs n) (gN, #[.bool (mnM v), .slice A1 (D v.natAbs).length c1], 46) (by simp)) 1).trans rfl
  clear hfs hfc
  refine wp_region_calm fw (by kernel_rfl) (by kernel_rfl) hf0 ?_
  repeat (go_big_quiet_step ((first
    | (go_at_call 26; with_reducible exact Calls.calm HFC (HW.out _))
    | (go_at_call 27; with_reducible exact Calls.calm HFC (HWr.out _ _ (HRX.out _))))))
  refine wpQuiet_nil ?_
  intro _ hw'
  obtain ⟨nq, hw''⟩ := hw'
  subst hw''
  have HBW4 : Aside0 (Bx w (fw nq) [(gW, #[.int .u64 h, .int .u64 l], 38), (gM, #[.int .u64 hm, .int .u64 lm, .bool sm], 40), (gN, #[.bool (mnM v), .slice A1 (D v.natAbs).length c1], 46)]) := ⟨(HFS.out nq).1⟩
  obtain ⟨W4, hW⟩ : ∃ W, W = fw nq := ⟨_, rfl⟩
  rw [← hW] at HBW4 ⊢
  clear hW
  clear HFC HFS HRX hf0 hne qgM0 qgM1 qgM2 qgN0 qgN1
  have qgW0 : W4.cell? ⟨gW, 0, none⟩ = some (.int .u64 h) := (blk_cell (Bx.get HBW4.out (gW, #[.int .u64 h, .int .u64 l], 38) (by simp)) 0).trans rfl
  have qgW1 : W4.cell? ⟨gW, 1, none⟩ = some (.int .u64 l) := (blk_cell (Bx.get HBW4.out (gW, #[.int .u64 h, .int .u64 l], 38) (by simp)) 1).trans rfl
  have f0 : W4.frozen? ⟨gM, 0, none⟩ = false := blk_frozen (Bx.get HBW4.out (gM, #[.int .u64 hm, .int .u64 lm, .bool sm], 40) (by simp)) 0
  have f1 : W4.frozen? ⟨gM, 1, none⟩ = false := blk_frozen (Bx.get HBW4.out (gM, #[.int .u64 hm, .int .u64 lm, .bool sm], 40) (by simp)) 1
  have f2 : W4.frozen? ⟨gM, 2, none⟩ = false := blk_frozen (Bx.get HBW4.out (gM, #[.int .u64 hm, .int .u64 lm, .bool sm], 40) (by simp)) 2
  go_upto_region 6 with (first
    | ((with_reducible refine gate_callee (f := 29) rfl ?_); (try (refine gate_guard (by rfl) ?_; dsimp only)); refine goesL_ (some 43) rfl rfl Try.func29 (by kernel_rfl) rfl #[.agg #[.int .u64 h, .int .u64 l]] rfl (by (try simp only [List.map_toArray, List.map_cons, List.map_nil]); first | done | rfl) ?_; (with_reducible refine (HF.out _).mono ?_); rintro e wW5 ⟨rfl, hb⟩; refine ⟨_, rfl, ?_⟩; have HVW5 := Aside0.mk (Bx.below HBW4.out hb); clear hb; have e0 : wW5.cell? ⟨gM, 0, none⟩ = some (.int .u64 hm) := (blk_cell (Bx.get HVW5.out (gM, #[.int .u64 hm, .int .u64 lm, .bool sm], 40) (by simp)) 0).trans rfl; have g0 : wW5.frozen? ⟨gM, 0, none⟩ = false := blk_frozen (Bx.get HVW5.out (gM, #[.int .u64 hm, .int .u64 lm, .bool sm], 40) (by simp)) 0; have e1 : wW5.cell? ⟨gM, 1, none⟩ = some (.int .u64 lm) := (blk_cell (Bx.get HVW5.out (gM, #[.int .u64 hm, .int .u64 lm, .bool sm], 40) (by simp)) 1).trans rfl; have g1 : wW5.frozen? ⟨gM, 1, none⟩ = false := blk_frozen (Bx.get HVW5.out (gM, #[.int .u64 hm, .int .u64 lm, .bool sm], 40) (by simp)) 1; have e2 : wW5.cell? ⟨gM, 2, none⟩ = some (.bool sm) := (blk_cell (Bx.get HVW5.out (gM, #[.int .u64 hm, .int .u64 lm, .bool sm], 40) (by simp)) 2).trans rfl; have g2 : wW5.frozen? ⟨gM, 2, none⟩ = false := blk_frozen (Bx.get HVW5.out (gM, #[.int .u64 hm, .int .u64 lm, .bool sm], 40) (by simp)) 2; skip))
  clear qgW0 qgW1
  obtain ⟨W5, hW⟩ : ∃ W, W = (((wW5.setCell ⟨gM, 0, none⟩ (.int .u64 hn)).setCell ⟨gM, 1, none⟩ (.int .u64 ln)).setCell ⟨gM, 2, none⟩ (.bool sn)) := ⟨_, rfl⟩
  have HNE : Aside0 (∀ p ∈ ([(gW, #[.int .u64 h, .int .u64 l], 38), (gN, #[.bool (mnM v), .slice A1 (D v.natAbs).length c1], 46)] : List (Nat × Array Value × TypeId)), p.1 ≠ gM) := ⟨by
    intro p hp
    have hg := Bx.get HVW5.out (gM, #[.int .u64 hm, .int .u64 lm, .bool sm], 40) (by simp)
    simp only [List.mem_cons, List.not_mem_nil, or_false] at hp
    rcases hp with rfl | rfl
    · exact box_ne (Bx.get HVW5.out (gW, #[.int .u64 h, .int .u64 l], 38) (by simp)) hg (show (38 : Nat) ≠ 40 by decide)
    · exact box_ne (Bx.get HVW5.out (gN, #[.bool (mnM v), .slice A1 (D v.natAbs).length c1], 46) (by simp)) hg (show (46 : Nat) ≠ 40 by decide)
  ⟩
  have HBW5 : Aside0 (Bx w W5 [(gM, #[.int .u64 hn, .int .u64 ln, .bool sn], 40), (gW, #[.int .u64 h, .int .u64 l], 38), (gN, #[.bool (mnM v), .slice A1 (D v.natAbs).length c1], 46)]) := ⟨by rw [hW]; exact (Bx.set (Bx.set (Bx.set (Bx.sub HVW5.out (l2 := [(gM, #[.int .u64 hm, .int .u64 lm, .bool sm], 40), (gW, #[.int .u64 h, .int .u64 l], 38), (gN, #[.bool (mnM v), .slice A1 (D v.natAbs).length c1], 46)]) (by simp)) HNE.out 0 (.int .u64 hn)) HNE.out 1 (.int .u64 ln)) HNE.out 2 (.bool sn))⟩
  rw [← hW]
  clear hW HNE f0 e0 g0 f1 e1 g1 f2 e2 g2
  have qgW0 : W5.cell? ⟨gW, 0, none⟩ = some (.int .u64 h) := (blk_cell (Bx.get HBW5.out (gW, #[.int .u64 h, .int .u64 l], 38) (by simp)) 0).trans rfl
  have qgW1 : W5.cell? ⟨gW, 1, none⟩ = some (.int .u64 l) := (blk_cell (Bx.get HBW5.out (gW, #[.int .u64 h, .int .u64 l], 38) (by simp)) 1).trans rfl
  have f0 : W5.frozen? ⟨gN, 0, none⟩ = false := blk_frozen (Bx.get HBW5.out (gN, #[.bool (mnM v), .slice A1 (D v.natAbs).length c1], 46) (by simp)) 0
  have f1 : W5.frozen? ⟨gN, 1, none⟩ = false := blk_frozen (Bx.get HBW5.out (gN, #[.bool (mnM v), .slice A1 (D v.natAbs).length c1], 46) (by simp)) 1
  go_upto_region 7 with (first
    | ((with_reducible refine gate_callee (f := 30) rfl ?_); (try (refine gate_guard (by rfl) ?_; dsimp only)); refine goesL_ (some 48) rfl rfl Try.func30 (by kernel_rfl) rfl #[.agg #[.int .u64 h, .int .u64 l]] rfl (by (try simp only [List.map_toArray, List.map_cons, List.map_nil]); first | done | rfl) ?_; (with_reducible refine (HFr.out _).mono ?_); rintro e wW6 ⟨X2, rfl, hr, hb⟩; refine ⟨_, rfl, ?_⟩; have HVW6 := Aside0.mk (Bx.below HBW5.out hb); clear hb; obtain ⟨u2, rfl, hr⟩ := hr; obtain ⟨A2, c2, e2⟩ := Kd.R_slice hr; subst e2; have HR2 := Aside0.mk hr; clear hr; have e0 : wW6.cell? ⟨gN, 0, none⟩ = some (.bool (mnM v)) := (blk_cell (Bx.get HVW6.out (gN, #[.bool (mnM v), .slice A1 (D v.natAbs).length c1], 46) (by simp)) 0).trans rfl; have g0 : wW6.frozen? ⟨gN, 0, none⟩ = false := blk_frozen (Bx.get HVW6.out (gN, #[.bool (mnM v), .slice A1 (D v.natAbs).length c1], 46) (by simp)) 0; have e1 : wW6.cell? ⟨gN, 1, none⟩ = some (.slice A1 (D v.natAbs).length c1) := (blk_cell (Bx.get HVW6.out (gN, #[.bool (mnM v), .slice A1 (D v.natAbs).length c1], 46) (by simp)) 1).trans rfl; have g1 : wW6.frozen? ⟨gN, 1, none⟩ = false := blk_frozen (Bx.get HVW6.out (gN, #[.bool (mnM v), .slice A1 (D v.natAbs).length c1], 46) (by simp)) 1; skip))
  clear qgW0 qgW1
  obtain ⟨W6, hW⟩ : ∃ W, W = ((wW6.setCell ⟨gN, 0, none⟩ (.bool (mnM v2))).setCell ⟨gN, 1, none⟩ (.slice A2 (D v2.natAbs).length c2)) := ⟨_, rfl⟩
  have HNE : Aside0 (∀ p ∈ ([(gM, #[.int .u64 hn, .int .u64 ln, .bool sn], 40), (gW, #[.int .u64 h, .int .u64 l], 38)] : List (Nat × Array Value × TypeId)), p.1 ≠ gN) := ⟨by
    intro p hp
    have hg := Bx.get HVW6.out (gN, #[.bool (mnM v), .slice A1 (D v.natAbs).length c1], 46) (by simp)
    simp only [List.mem_cons, List.not_mem_nil, or_false] at hp
    rcases hp with rfl | rfl
    · exact box_ne (Bx.get HVW6.out (gM, #[.int .u64 hn, .int .u64 ln, .bool sn], 40) (by simp)) hg (show (40 : Nat) ≠ 46 by decide)
    · exact box_ne (Bx.get HVW6.out (gW, #[.int .u64 h, .int .u64 l], 38) (by simp)) hg (show (38 : Nat) ≠ 46 by decide)
  ⟩
  have HBW6 : Aside0 (Bx w W6 [(gN, #[.bool (mnM v2), .slice A2 (D v2.natAbs).length c2], 46), (gM, #[.int .u64 hn, .int .u64 ln, .bool sn], 40), (gW, #[.int .u64 h, .int .u64 l], 38)]) := ⟨by rw [hW]; exact (Bx.set (Bx.set (Bx.sub HVW6.out (l2 := [(gN, #[.bool (mnM v), .slice A1 (D v.natAbs).length c1], 46), (gM, #[.int .u64 hn, .int .u64 ln, .bool sn], 40), (gW, #[.int .u64 h, .int .u64 l], 38)]) (by simp)) HNE.out 0 (.bool (mnM v2))) HNE.out 1 (.slice A2 (D v2.natAbs).length c2))⟩
  have hb0 := Bx.get HVW6.out (gN, #[.bool (mnM v), .slice A1 (D v.natAbs).length c1], 46) (by simp)
  have HX2 : Aside0 (Rm W6 (.agg #[.bool (mnM v2), .slice A2 (D v2.natAbs).length c2]) v2) := ⟨by rw [hW]; exact Rm.set (Rm.set ⟨_, rfl, HR2.out⟩ hb0 (show (46 : Nat) ≠ 67 by decide) 0 _) (blk_set hb0 0 _) (show (46 : Nat) ≠ 67 by decide) 1 _⟩
  clear hb0
  rw [← hW]
  clear hW HNE f0 e0 g0 f1 e1 g1
  obtain ⟨N, fw, hf0, hfs, hfc⟩ := calm_class (fun W => Bq w W [(gN, #[.bool (mnM v2), .slice A2 (D v2.natAbs).length c2], 46), (gM, #[.int .u64 hn, .int .u64 ln, .bool sn], 40), (gW, #[.int .u64 h, .int .u64 l], 38)] (.agg #[.bool (mnM v2), .slice A2 (D v2.natAbs).length c2]) v2) W6 (Bq.drew ⟨HBW6.out, HX2.out⟩) (fun W w' h hb => h.below hb)
  have hne : Nonempty N := ⟨hf0.choose⟩
  have HFC := Aside0.mk hfc
  have HFS := Aside0.mk hfs
  have HRX := Aside0.mk (fun n => (hfs n).2)
  have qgN0 : ∀ n, (fw n).cell? ⟨gN, 0, none⟩ = some (.bool (mnM v2)) := fun n => (blk_cell (Bq.get (hfs n) (gN, #[.bool (mnM v2), .slice A2 (D v2.natAbs).length c2], 46) (by simp)) 0).trans rfl
  have qgN1 : ∀ n, (fw n).cell? ⟨gN, 1, none⟩ = some (.slice A2 (D v2.natAbs).length c2) := fun n => (blk_cell (Bq.get (hfs n) (gN, #[.bool (mnM v2), .slice A2 (D v2.natAbs).length c2], 46) (by simp)) 1).trans rfl
  have qgM0 : ∀ n, (fw n).cell? ⟨gM, 0, none⟩ = some (.int .u64 hn) := fun n => (blk_cell (Bq.get (hfs n) (gM, #[.int .u64 hn, .int .u64 ln, .bool sn], 40) (by simp)) 0).trans rfl
  have qgM1 : ∀ n, (fw n).cell? ⟨gM, 1, none⟩ = some (.int .u64 ln) := fun n => (blk_cell (Bq.get (hfs n) (gM, #[.int .u64 hn, .int .u64 ln, .bool sn], 40) (by simp)) 1).trans rfl
  have qgM2 : ∀ n, (fw n).cell? ⟨gM, 2, none⟩ = some (.bool sn) := fun n => (blk_cell (Bq.get (hfs n) (gM, #[.int .u64 hn, .int .u64 ln, .bool sn], 40) (by simp)) 2).trans rfl
  have qgW0 : ∀ n, (fw n).cell? ⟨gW, 0, none⟩ = some (.int .u64 h) := fun n => (blk_cell (Bq.get (hfs n) (gW, #[.int .u64 h, .int .u64 l], 38) (by simp)) 0).trans rfl
  have qgW1 : ∀ n, (fw n).cell? ⟨gW, 1, none⟩ = some (.int .u64 l) := fun n => (blk_cell (Bq.get (hfs n) (gW, #[.int .u64 h, .int .u64 l], 38) (by simp)) 1).trans rfl
  clear hfs hfc
  refine wp_region_calm fw (by kernel_rfl) (by kernel_rfl) hf0 ?_
  repeat (go_big_quiet_step ((first
    | (go_at_call 28; with_reducible exact Calls.calm HFC (HT2.out _))
    | (go_at_call 31; with_reducible exact Calls.calm HFC (HT2r.out _ _ (HRX.out _)))
    | (go_at_call 26; with_reducible exact Calls.calm HFC (HW2'.out _)))))
  refine wpQuiet_nil ?_
  intro _ hw'
  obtain ⟨nq, hw''⟩ := hw'
  subst hw''
  have HBW7 : Aside0 (Bx w (fw nq) [(gN, #[.bool (mnM v2), .slice A2 (D v2.natAbs).length c2], 46), (gM, #[.int .u64 hn, .int .u64 ln, .bool sn], 40), (gW, #[.int .u64 h, .int .u64 l], 38)]) := ⟨(HFS.out nq).1⟩
  obtain ⟨W7, hW⟩ : ∃ W, W = fw nq := ⟨_, rfl⟩
  rw [← hW] at HBW7 ⊢
  clear hW
  clear HFC HFS HRX hf0 hne qgN0 qgN1 qgM0 qgM1 qgM2 qgW0 qgW1
  go_upto_region 10 with (first
    | ((with_reducible refine gate_callee (f := 24) rfl ?_); (try (refine gate_guard (by rfl) ?_; dsimp only)); refine goesL_ (some 72) rfl rfl Try.func24 (by kernel_rfl) rfl #[.string ⟨#[49, 46, 48, 48]⟩] rfl (by (try simp only [List.map_toArray, List.map_cons, List.map_nil]); first | done | rfl) ?_; (with_reducible refine (HP1.out _).mono ?_); rintro e wW8 ⟨rfl, hb⟩; refine ⟨_, rfl, ?_⟩; have HVW8 := Aside0.mk (Bx.below HBW7.out hb); clear hb))
  obtain ⟨W8, hW⟩ : ∃ W, W = wW8.alloc (.cells #[.int .u64 0, .int .u64 100, .bool false] 40) := ⟨_, rfl⟩
  obtain ⟨gO, hg⟩ : ∃ g, g = wW8.heap.size := ⟨_, rfl⟩
  have HBW8 : Aside0 (Bx w W8 [(gN, #[.bool (mnM v2), .slice A2 (D v2.natAbs).length c2], 46), (gM, #[.int .u64 hn, .int .u64 ln, .bool sn], 40), (gW, #[.int .u64 h, .int .u64 l], 38), (gO, #[.int .u64 0, .int .u64 100, .bool false], 40)]) := ⟨by have h := Bx.alloc HVW8.out #[.int .u64 0, .int .u64 100, .bool false] 40; rw [← hW, ← hg] at h; exact h⟩
  rw [← hW, ← hg]
  clear hW hg
  obtain ⟨N, fw, hf0, hfs, hfc⟩ := calm_class (fun W => Bx w W [(gN, #[.bool (mnM v2), .slice A2 (D v2.natAbs).length c2], 46), (gM, #[.int .u64 hn, .int .u64 ln, .bool sn], 40), (gW, #[.int .u64 h, .int .u64 l], 38), (gO, #[.int .u64 0, .int .u64 100, .bool false], 40)]) W8 HBW8.out.drew (fun W w' h hb => h.below hb)
  have hne : Nonempty N := ⟨hf0.choose⟩
  have HFC := Aside0.mk hfc
  have HFS := Aside0.mk hfs
  have qgO0 : ∀ n, (fw n).cell? ⟨gO, 0, none⟩ = some (.int .u64 0) := fun n => (blk_cell (Bx.get (hfs n) (gO, #[.int .u64 0, .int .u64 100, .bool false], 40) (by simp)) 0).trans rfl
  have qgO1 : ∀ n, (fw n).cell? ⟨gO, 1, none⟩ = some (.int .u64 100) := fun n => (blk_cell (Bx.get (hfs n) (gO, #[.int .u64 0, .int .u64 100, .bool false], 40) (by simp)) 1).trans rfl
  have qgO2 : ∀ n, (fw n).cell? ⟨gO, 2, none⟩ = some (.bool false) := fun n => (blk_cell (Bx.get (hfs n) (gO, #[.int .u64 0, .int .u64 100, .bool false], 40) (by simp)) 2).trans rfl
  clear hfs hfc
  refine wp_region_calm fw (by kernel_rfl) (by kernel_rfl) hf0 ?_
  repeat (go_big_quiet_step ((first
    | (go_at_call 33; with_reducible exact Calls.calm HFC (HC.out _))
    | (go_at_call 32; with_reducible exact Calls.calm HFC (HCmp.out _)))))
  refine wpQuiet_nil ?_
  intro _ hw'
  obtain ⟨nq, hw''⟩ := hw'
  subst hw''
  have HBW9 : Aside0 (Bx w (fw nq) [(gN, #[.bool (mnM v2), .slice A2 (D v2.natAbs).length c2], 46), (gM, #[.int .u64 hn, .int .u64 ln, .bool sn], 40), (gW, #[.int .u64 h, .int .u64 l], 38), (gO, #[.int .u64 0, .int .u64 100, .bool false], 40)]) := ⟨HFS.out nq⟩
  obtain ⟨W9, hW⟩ : ∃ W, W = fw nq := ⟨_, rfl⟩
  rw [← hW] at HBW9 ⊢
  clear hW
  clear HFC HFS hf0 hne qgO0 qgO1 qgO2
  go_wp2
  go_ret
  exact ⟨rfl, HBW9.out.bel⟩

set_option maxHeartbeats 32000000 in
set_option maxRecDepth 100000 in
theorem reads_nn (S T2 : ByteArray) (k k2 v v2 h l hm lm hn ln p0 p1 : Int) (sm sn : Bool) (w : World)
    (HP : Aside0 (∀ W, Calls Try.prog 24 #[.string S] W fun e w' => e = .returned (.tuple #[.agg #[.int .u64 hm, .int .u64 lm, .bool sm], .int .i64 k]) ∧ Below W.heap.size W w'))
    (HPr : Aside0 (∀ W, Calls Try.prog 25 #[.string S] W (RmE W v k)))
    (HW : Aside0 (∀ W, Calls Try.prog 26 #[.agg #[.int .u64 hm, .int .u64 lm, .bool sm]] W fun e w' => e = .returned (.agg #[.int .u64 p0, .int .u64 p1]) ∧ Below W.heap.size W w'))
    (HWr : Aside0 (∀ W X, Rm W X v → Calls Try.prog 27 #[X] W fun e w' => e = .returned (.agg #[.int .u64 p0, .int .u64 p1]) ∧ Below W.heap.size W w'))
    (HT : Aside0 (k = 0 → ∀ W, Calls Try.prog 28 #[.agg #[.int .u64 hm, .int .u64 lm, .bool sm]] W fun e w' => e = .returned (.string S) ∧ Below W.heap.size W w'))
    (HF : Aside0 (∀ W, Calls Try.prog 29 #[.agg #[.int .u64 h, .int .u64 l]] W fun e w' => e = .returned (.tuple #[.agg #[.int .u64 hn, .int .u64 ln, .bool sn], .int .i64 k2]) ∧ Below W.heap.size W w'))
    (HFr : Aside0 (∀ W, Calls Try.prog 30 #[.agg #[.int .u64 h, .int .u64 l]] W (RmE W v2 k2)))
    (HT2 : Aside0 (∀ W, Calls Try.prog 28 #[.agg #[.int .u64 hn, .int .u64 ln, .bool sn]] W fun e w' => e = .returned (.string T2) ∧ Below W.heap.size W w'))
    (HT2r : Aside0 (∀ W X, Rm W X v2 → Calls Try.prog 31 #[X] W fun e w' => e = .returned (.string T2) ∧ Below W.heap.size W w'))
    (HW2 : Aside0 (k2 = 0 → ∀ W, Calls Try.prog 26 #[.agg #[.int .u64 hn, .int .u64 ln, .bool sn]] W fun e w' => e = .returned (.agg #[.int .u64 h, .int .u64 l]) ∧ Below W.heap.size W w'))
    (HP1 : Aside0 (∀ W, Calls Try.prog 24 #[.string ⟨#[49, 46, 48, 48]⟩] W fun e w' => e = .returned (.tuple #[.agg #[.int .u64 0, .int .u64 100, .bool false], .int .i64 0]) ∧ Below W.heap.size W w'))
    (HC : Aside0 (∀ W, Calls Try.prog 33 #[.int .i64 100] W fun e w' => e = .returned (.agg #[.int .u64 0, .int .u64 100, .bool false]) ∧ Below W.heap.size W w'))
    (HCmp : Aside0 (∀ W, Calls Try.prog 32 #[.agg #[.int .u64 0, .int .u64 100, .bool false], .agg #[.int .u64 0, .int .u64 100, .bool false]] W fun e w' => e = .returned (.int .i64 0) ∧ Below W.heap.size W w'))
    (HE1 : ∀ W, (Op.equalIn 10000 38 (.agg #[.int .u64 p0, .int .u64 p1]) (.agg #[.int .u64 p0, .int .u64 p1])).run Try.prog W = .ok true W)
    (HE2 : ∀ W, (Op.equalIn 10000 38 (.agg #[.int .u64 h, .int .u64 l]) (.agg #[.int .u64 h, .int .u64 l])).run Try.prog W = .ok true W)
    (hk : k ≠ 0) (hk2 : k2 ≠ 0) :
    Calls Try.prog 8 #[.string S, .agg #[.int .u64 h, .int .u64 l]] w fun e w' => e = .returned (.bool true) ∧ Below w.heap.size w w' := by
  have kb : (k == 0) = false := beq_eq_false_iff_ne.mpr hk
  have kb2 : (k2 == 0) = false := beq_eq_false_iff_ne.mpr hk2
  have kk : (k != k) = false := bne_self_eq_false' (a := k)
  have kk2 : (k2 != k2) = false := bne_self_eq_false' (a := k2)
  clear hk hk2
  go_enter Try.func8, Try.ntmps8
  go_upto_region 1 with (fail)
  obtain ⟨W1, hW⟩ : ∃ W, W = (w.alloc (.cells #[.int .u64 h, .int .u64 l] 38)) := ⟨_, rfl⟩
  obtain ⟨gW, hgW⟩ : ∃ g, g = w.heap.size := ⟨_, rfl⟩
  have HBW1 : Aside0 (Bx w W1 [(gW, #[.int .u64 h, .int .u64 l], 38)]) := ⟨by rw [hW, hgW]; exact Bx.allocs1 _ _ _⟩
  rw [← hW, ← hgW]
  clear hW hgW
  go_upto_region 2 with (first
    | ((with_reducible refine gate_callee (f := 24) rfl ?_); (try (refine gate_guard (by rfl) ?_; dsimp only)); refine goesL_ (some 13) rfl rfl Try.func24 (by kernel_rfl) rfl #[.string S] rfl (by (try simp only [List.map_toArray, List.map_cons, List.map_nil]); first | done | rfl) ?_; (with_reducible refine (HP.out _).mono ?_); rintro e wW2 ⟨rfl, hb⟩; refine ⟨_, rfl, ?_⟩; have HVW2 := Aside0.mk (Bx.below HBW1.out hb); clear hb))
  obtain ⟨W2, hW⟩ : ∃ W, W = wW2.alloc (.cells #[.int .u64 hm, .int .u64 lm, .bool sm] 40) := ⟨_, rfl⟩
  obtain ⟨gM, hg⟩ : ∃ g, g = wW2.heap.size := ⟨_, rfl⟩
  have HBW2 : Aside0 (Bx w W2 [(gW, #[.int .u64 h, .int .u64 l], 38), (gM, #[.int .u64 hm, .int .u64 lm, .bool sm], 40)]) := ⟨by have h := Bx.alloc HVW2.out #[.int .u64 hm, .int .u64 lm, .bool sm] 40; rw [← hW, ← hg] at h; exact h⟩
  rw [← hW, ← hg]
  clear hW hg
  go_upto_region 3 with (first
    | ((with_reducible refine gate_callee (f := 25) rfl ?_); (try (refine gate_guard (by rfl) ?_; dsimp only)); refine goesL_ (some 18) rfl rfl Try.func25 (by kernel_rfl) rfl #[.string S] rfl (by (try simp only [List.map_toArray, List.map_cons, List.map_nil]); first | done | rfl) ?_; (with_reducible refine (HPr.out _).mono ?_); rintro e wW3 ⟨X1, rfl, hr, hb⟩; refine ⟨_, rfl, ?_⟩; have HVW3 := Aside0.mk (Bx.below HBW2.out hb); clear hb; obtain ⟨u1, rfl, hr⟩ := hr; obtain ⟨A1, c1, e1⟩ := Kd.R_slice hr; subst e1; have HR1 := Aside0.mk hr; clear hr))
  obtain ⟨W3, hW⟩ : ∃ W, W = wW3.alloc (.cells #[.bool (mnM v), .slice A1 (D v.natAbs).length c1] 46) := ⟨_, rfl⟩
  obtain ⟨gN, hg⟩ : ∃ g, g = wW3.heap.size := ⟨_, rfl⟩
  have HBW3 : Aside0 (Bx w W3 [(gW, #[.int .u64 h, .int .u64 l], 38), (gM, #[.int .u64 hm, .int .u64 lm, .bool sm], 40), (gN, #[.bool (mnM v), .slice A1 (D v.natAbs).length c1], 46)]) := ⟨by have h := Bx.alloc HVW3.out #[.bool (mnM v), .slice A1 (D v.natAbs).length c1] 46; rw [← hW, ← hg] at h; exact h⟩
  have HX1 : Aside0 (Rm W3 (.agg #[.bool (mnM v), .slice A1 (D v.natAbs).length c1]) v) := ⟨by rw [hW]; exact Rm.below ⟨_, rfl, HR1.out⟩ ((Below.refl _ _).alloc (Nat.le_refl _) _)⟩
  rw [← hW, ← hg]
  clear hW hg
  obtain ⟨N, fw, hf0, hfs, hfc⟩ := calm_class (fun W => Bq w W [(gW, #[.int .u64 h, .int .u64 l], 38), (gM, #[.int .u64 hm, .int .u64 lm, .bool sm], 40), (gN, #[.bool (mnM v), .slice A1 (D v.natAbs).length c1], 46)] (.agg #[.bool (mnM v), .slice A1 (D v.natAbs).length c1]) v) W3 (Bq.drew ⟨HBW3.out, HX1.out⟩) (fun W w' h hb => h.below hb)
  have hne : Nonempty N := ⟨hf0.choose⟩
  have HFC := Aside0.mk hfc
  have HFS := Aside0.mk hfs
  have HRX := Aside0.mk (fun n => (hfs n).2)
  have qgM0 : ∀ n, (fw n).cell? ⟨gM, 0, none⟩ = some (.int .u64 hm) := fun n => (blk_cell (Bq.get (hfs n) (gM, #[.int .u64 hm, .int .u64 lm, .bool sm], 40) (by simp)) 0).trans rfl
  have qgM1 : ∀ n, (fw n).cell? ⟨gM, 1, none⟩ = some (.int .u64 lm) := fun n => (blk_cell (Bq.get (hfs n) (gM, #[.int .u64 hm, .int .u64 lm, .bool sm], 40) (by simp)) 1).trans rfl
  have qgM2 : ∀ n, (fw n).cell? ⟨gM, 2, none⟩ = some (.bool sm) := fun n => (blk_cell (Bq.get (hfs n) (gM, #[.int .u64 hm, .int .u64 lm, .bool sm], 40) (by simp)) 2).trans rfl
  have qgN0 : ∀ n, (fw n).cell? ⟨gN, 0, none⟩ = some (.bool (mnM v)) := fun n => (blk_cell (Bq.get (hfs n) (gN, #[.bool (mnM v), .slice A1 (D v.natAbs).length c1], 46) (by simp)) 0).trans rfl
  have qgN1 : ∀ n, (fw n).cell? ⟨gN, 1, none⟩ = some (.slice A1 (D v.natAbs).length c1) := fun n => (blk_cell (Bq.get (hfs n) (gN, #[.bool (mnM v), .slice A1 (D v.natAbs).length c1], 46) (by simp)) 1).trans rfl
  clear hfs hfc
  refine wp_region_calm fw (by kernel_rfl) (by kernel_rfl) hf0 ?_
  repeat (go_big_quiet_step ((first
    | (go_at_call 26; with_reducible exact Calls.calm HFC (HW.out _))
    | (go_at_call 27; with_reducible exact Calls.calm HFC (HWr.out _ _ (HRX.out _))))))
  refine wpQuiet_nil ?_
  intro _ hw'
  obtain ⟨nq, hw''⟩ := hw'
  subst hw''
  have HBW4 : Aside0 (Bx w (fw nq) [(gW, #[.int .u64 h, .int .u64 l], 38), (gM, #[.int .u64 hm, .int .u64 lm, .bool sm], 40), (gN, #[.bool (mnM v), .slice A1 (D v.natAbs).length c1], 46)]) := ⟨(HFS.out nq).1⟩
  obtain ⟨W4, hW⟩ : ∃ W, W = fw nq := ⟨_, rfl⟩
  rw [← hW] at HBW4 ⊢
  clear hW
  clear HFC HFS HRX hf0 hne qgM0 qgM1 qgM2 qgN0 qgN1
  have qgW0 : W4.cell? ⟨gW, 0, none⟩ = some (.int .u64 h) := (blk_cell (Bx.get HBW4.out (gW, #[.int .u64 h, .int .u64 l], 38) (by simp)) 0).trans rfl
  have qgW1 : W4.cell? ⟨gW, 1, none⟩ = some (.int .u64 l) := (blk_cell (Bx.get HBW4.out (gW, #[.int .u64 h, .int .u64 l], 38) (by simp)) 1).trans rfl
  have f0 : W4.frozen? ⟨gM, 0, none⟩ = false := blk_frozen (Bx.get HBW4.out (gM, #[.int .u64 hm, .int .u64 lm, .bool sm], 40) (by simp)) 0
  have f1 : W4.frozen? ⟨gM, 1, none⟩ = false := blk_frozen (Bx.get HBW4.out (gM, #[.int .u64 hm, .int .u64 lm, .bool sm], 40) (by simp)) 1
  have f2 : W4.frozen? ⟨gM, 2, none⟩ = false := blk_frozen (Bx.get HBW4.out (gM, #[.int .u64 hm, .int .u64 lm, .bool sm], 40) (by simp)) 2
  go_upto_region 6 with (first
    | ((with_reducible refine gate_callee (f := 29) rfl ?_); (try (refine gate_guard (by rfl) ?_; dsimp only)); refine goesL_ (some 43) rfl rfl Try.func29 (by kernel_rfl) rfl #[.agg #[.int .u64 h, .int .u64 l]] rfl (by (try simp only [List.map_toArray, List.map_cons, List.map_nil]); first | done | rfl) ?_; (with_reducible refine (HF.out _).mono ?_); rintro e wW5 ⟨rfl, hb⟩; refine ⟨_, rfl, ?_⟩; have HVW5 := Aside0.mk (Bx.below HBW4.out hb); clear hb; have e0 : wW5.cell? ⟨gM, 0, none⟩ = some (.int .u64 hm) := (blk_cell (Bx.get HVW5.out (gM, #[.int .u64 hm, .int .u64 lm, .bool sm], 40) (by simp)) 0).trans rfl; have g0 : wW5.frozen? ⟨gM, 0, none⟩ = false := blk_frozen (Bx.get HVW5.out (gM, #[.int .u64 hm, .int .u64 lm, .bool sm], 40) (by simp)) 0; have e1 : wW5.cell? ⟨gM, 1, none⟩ = some (.int .u64 lm) := (blk_cell (Bx.get HVW5.out (gM, #[.int .u64 hm, .int .u64 lm, .bool sm], 40) (by simp)) 1).trans rfl; have g1 : wW5.frozen? ⟨gM, 1, none⟩ = false := blk_frozen (Bx.get HVW5.out (gM, #[.int .u64 hm, .int .u64 lm, .bool sm], 40) (by simp)) 1; have e2 : wW5.cell? ⟨gM, 2, none⟩ = some (.bool sm) := (blk_cell (Bx.get HVW5.out (gM, #[.int .u64 hm, .int .u64 lm, .bool sm], 40) (by simp)) 2).trans rfl; have g2 : wW5.frozen? ⟨gM, 2, none⟩ = false := blk_frozen (Bx.get HVW5.out (gM, #[.int .u64 hm, .int .u64 lm, .bool sm], 40) (by simp)) 2; skip))
  clear qgW0 qgW1
  obtain ⟨W5, hW⟩ : ∃ W, W = (((wW5.setCell ⟨gM, 0, none⟩ (.int .u64 hn)).setCell ⟨gM, 1, none⟩ (.int .u64 ln)).setCell ⟨gM, 2, none⟩ (.bool sn)) := ⟨_, rfl⟩
  have HNE : Aside0 (∀ p ∈ ([(gW, #[.int .u64 h, .int .u64 l], 38), (gN, #[.bool (mnM v), .slice A1 (D v.natAbs).length c1], 46)] : List (Nat × Array Value × TypeId)), p.1 ≠ gM) := ⟨by
    intro p hp
    have hg := Bx.get HVW5.out (gM, #[.int .u64 hm, .int .u64 lm, .bool sm], 40) (by simp)
    simp only [List.mem_cons, List.not_mem_nil, or_false] at hp
    rcases hp with rfl | rfl
    · exact box_ne (Bx.get HVW5.out (gW, #[.int .u64 h, .int .u64 l], 38) (by simp)) hg (show (38 : Nat) ≠ 40 by decide)
    · exact box_ne (Bx.get HVW5.out (gN, #[.bool (mnM v), .slice A1 (D v.natAbs).length c1], 46) (by simp)) hg (show (46 : Nat) ≠ 40 by decide)
  ⟩
  have HBW5 : Aside0 (Bx w W5 [(gM, #[.int .u64 hn, .int .u64 ln, .bool sn], 40), (gW, #[.int .u64 h, .int .u64 l], 38), (gN, #[.bool (mnM v), .slice A1 (D v.natAbs).length c1], 46)]) := ⟨by rw [hW]; exact (Bx.set (Bx.set (Bx.set (Bx.sub HVW5.out (l2 := [(gM, #[.int .u64 hm, .int .u64 lm, .bool sm], 40), (gW, #[.int .u64 h, .int .u64 l], 38), (gN, #[.bool (mnM v), .slice A1 (D v.natAbs).length c1], 46)]) (by simp)) HNE.out 0 (.int .u64 hn)) HNE.out 1 (.int .u64 ln)) HNE.out 2 (.bool sn))⟩
  rw [← hW]
  clear hW HNE f0 e0 g0 f1 e1 g1 f2 e2 g2
  have qgW0 : W5.cell? ⟨gW, 0, none⟩ = some (.int .u64 h) := (blk_cell (Bx.get HBW5.out (gW, #[.int .u64 h, .int .u64 l], 38) (by simp)) 0).trans rfl
  have qgW1 : W5.cell? ⟨gW, 1, none⟩ = some (.int .u64 l) := (blk_cell (Bx.get HBW5.out (gW, #[.int .u64 h, .int .u64 l], 38) (by simp)) 1).trans rfl
  have f0 : W5.frozen? ⟨gN, 0, none⟩ = false := blk_frozen (Bx.get HBW5.out (gN, #[.bool (mnM v), .slice A1 (D v.natAbs).length c1], 46) (by simp)) 0
  have f1 : W5.frozen? ⟨gN, 1, none⟩ = false := blk_frozen (Bx.get HBW5.out (gN, #[.bool (mnM v), .slice A1 (D v.natAbs).length c1], 46) (by simp)) 1
  go_upto_region 7 with (first
    | ((with_reducible refine gate_callee (f := 30) rfl ?_); (try (refine gate_guard (by rfl) ?_; dsimp only)); refine goesL_ (some 48) rfl rfl Try.func30 (by kernel_rfl) rfl #[.agg #[.int .u64 h, .int .u64 l]] rfl (by (try simp only [List.map_toArray, List.map_cons, List.map_nil]); first | done | rfl) ?_; (with_reducible refine (HFr.out _).mono ?_); rintro e wW6 ⟨X2, rfl, hr, hb⟩; refine ⟨_, rfl, ?_⟩; have HVW6 := Aside0.mk (Bx.below HBW5.out hb); clear hb; obtain ⟨u2, rfl, hr⟩ := hr; obtain ⟨A2, c2, e2⟩ := Kd.R_slice hr; subst e2; have HR2 := Aside0.mk hr; clear hr; have e0 : wW6.cell? ⟨gN, 0, none⟩ = some (.bool (mnM v)) := (blk_cell (Bx.get HVW6.out (gN, #[.bool (mnM v), .slice A1 (D v.natAbs).length c1], 46) (by simp)) 0).trans rfl; have g0 : wW6.frozen? ⟨gN, 0, none⟩ = false := blk_frozen (Bx.get HVW6.out (gN, #[.bool (mnM v), .slice A1 (D v.natAbs).length c1], 46) (by simp)) 0; have e1 : wW6.cell? ⟨gN, 1, none⟩ = some (.slice A1 (D v.natAbs).length c1) := (blk_cell (Bx.get HVW6.out (gN, #[.bool (mnM v), .slice A1 (D v.natAbs).length c1], 46) (by simp)) 1).trans rfl; have g1 : wW6.frozen? ⟨gN, 1, none⟩ = false := blk_frozen (Bx.get HVW6.out (gN, #[.bool (mnM v), .slice A1 (D v.natAbs).length c1], 46) (by simp)) 1; skip))
  clear qgW0 qgW1
  obtain ⟨W6, hW⟩ : ∃ W, W = ((wW6.setCell ⟨gN, 0, none⟩ (.bool (mnM v2))).setCell ⟨gN, 1, none⟩ (.slice A2 (D v2.natAbs).length c2)) := ⟨_, rfl⟩
  have HNE : Aside0 (∀ p ∈ ([(gM, #[.int .u64 hn, .int .u64 ln, .bool sn], 40), (gW, #[.int .u64 h, .int .u64 l], 38)] : List (Nat × Array Value × TypeId)), p.1 ≠ gN) := ⟨by
    intro p hp
    have hg := Bx.get HVW6.out (gN, #[.bool (mnM v), .slice A1 (D v.natAbs).length c1], 46) (by simp)
    simp only [List.mem_cons, List.not_mem_nil, or_false] at hp
    rcases hp with rfl | rfl
    · exact box_ne (Bx.get HVW6.out (gM, #[.int .u64 hn, .int .u64 ln, .bool sn], 40) (by simp)) hg (show (40 : Nat) ≠ 46 by decide)
    · exact box_ne (Bx.get HVW6.out (gW, #[.int .u64 h, .int .u64 l], 38) (by simp)) hg (show (38 : Nat) ≠ 46 by decide)
  ⟩
  have HBW6 : Aside0 (Bx w W6 [(gN, #[.bool (mnM v2), .slice A2 (D v2.natAbs).length c2], 46), (gM, #[.int .u64 hn, .int .u64 ln, .bool sn], 40), (gW, #[.int .u64 h, .int .u64 l], 38)]) := ⟨by rw [hW]; exact (Bx.set (Bx.set (Bx.sub HVW6.out (l2 := [(gN, #[.bool (mnM v), .slice A1 (D v.natAbs).length c1], 46), (gM, #[.int .u64 hn, .int .u64 ln, .bool sn], 40), (gW, #[.int .u64 h, .int .u64 l], 38)]) (by simp)) HNE.out 0 (.bool (mnM v2))) HNE.out 1 (.slice A2 (D v2.natAbs).length c2))⟩
  have hb0 := Bx.get HVW6.out (gN, #[.bool (mnM v), .slice A1 (D v.natAbs).length c1], 46) (by simp)
  have HX2 : Aside0 (Rm W6 (.agg #[.bool (mnM v2), .slice A2 (D v2.natAbs).length c2]) v2) := ⟨by rw [hW]; exact Rm.set (Rm.set ⟨_, rfl, HR2.out⟩ hb0 (show (46 : Nat) ≠ 67 by decide) 0 _) (blk_set hb0 0 _) (show (46 : Nat) ≠ 67 by decide) 1 _⟩
  clear hb0
  rw [← hW]
  clear hW HNE f0 e0 g0 f1 e1 g1
  obtain ⟨N, fw, hf0, hfs, hfc⟩ := calm_class (fun W => Bq w W [(gN, #[.bool (mnM v2), .slice A2 (D v2.natAbs).length c2], 46), (gM, #[.int .u64 hn, .int .u64 ln, .bool sn], 40), (gW, #[.int .u64 h, .int .u64 l], 38)] (.agg #[.bool (mnM v2), .slice A2 (D v2.natAbs).length c2]) v2) W6 (Bq.drew ⟨HBW6.out, HX2.out⟩) (fun W w' h hb => h.below hb)
  have hne : Nonempty N := ⟨hf0.choose⟩
  have HFC := Aside0.mk hfc
  have HFS := Aside0.mk hfs
  have HRX := Aside0.mk (fun n => (hfs n).2)
  have qgN0 : ∀ n, (fw n).cell? ⟨gN, 0, none⟩ = some (.bool (mnM v2)) := fun n => (blk_cell (Bq.get (hfs n) (gN, #[.bool (mnM v2), .slice A2 (D v2.natAbs).length c2], 46) (by simp)) 0).trans rfl
  have qgN1 : ∀ n, (fw n).cell? ⟨gN, 1, none⟩ = some (.slice A2 (D v2.natAbs).length c2) := fun n => (blk_cell (Bq.get (hfs n) (gN, #[.bool (mnM v2), .slice A2 (D v2.natAbs).length c2], 46) (by simp)) 1).trans rfl
  have qgM0 : ∀ n, (fw n).cell? ⟨gM, 0, none⟩ = some (.int .u64 hn) := fun n => (blk_cell (Bq.get (hfs n) (gM, #[.int .u64 hn, .int .u64 ln, .bool sn], 40) (by simp)) 0).trans rfl
  have qgM1 : ∀ n, (fw n).cell? ⟨gM, 1, none⟩ = some (.int .u64 ln) := fun n => (blk_cell (Bq.get (hfs n) (gM, #[.int .u64 hn, .int .u64 ln, .bool sn], 40) (by simp)) 1).trans rfl
  have qgM2 : ∀ n, (fw n).cell? ⟨gM, 2, none⟩ = some (.bool sn) := fun n => (blk_cell (Bq.get (hfs n) (gM, #[.int .u64 hn, .int .u64 ln, .bool sn], 40) (by simp)) 2).trans rfl
  have qgW0 : ∀ n, (fw n).cell? ⟨gW, 0, none⟩ = some (.int .u64 h) := fun n => (blk_cell (Bq.get (hfs n) (gW, #[.int .u64 h, .int .u64 l], 38) (by simp)) 0).trans rfl
  have qgW1 : ∀ n, (fw n).cell? ⟨gW, 1, none⟩ = some (.int .u64 l) := fun n => (blk_cell (Bq.get (hfs n) (gW, #[.int .u64 h, .int .u64 l], 38) (by simp)) 1).trans rfl
  clear hfs hfc
  refine wp_region_calm fw (by kernel_rfl) (by kernel_rfl) hf0 ?_
  repeat (go_big_quiet_step ((first
    | (go_at_call 28; with_reducible exact Calls.calm HFC (HT2.out _))
    | (go_at_call 31; with_reducible exact Calls.calm HFC (HT2r.out _ _ (HRX.out _))))))
  refine wpQuiet_nil ?_
  intro _ hw'
  obtain ⟨nq, hw''⟩ := hw'
  subst hw''
  have HBW7 : Aside0 (Bx w (fw nq) [(gN, #[.bool (mnM v2), .slice A2 (D v2.natAbs).length c2], 46), (gM, #[.int .u64 hn, .int .u64 ln, .bool sn], 40), (gW, #[.int .u64 h, .int .u64 l], 38)]) := ⟨(HFS.out nq).1⟩
  obtain ⟨W7, hW⟩ : ∃ W, W = fw nq := ⟨_, rfl⟩
  rw [← hW] at HBW7 ⊢
  clear hW
  clear HFC HFS HRX hf0 hne qgN0 qgN1 qgM0 qgM1 qgM2 qgW0 qgW1
  go_upto_region 10 with (first
    | ((with_reducible refine gate_callee (f := 24) rfl ?_); (try (refine gate_guard (by rfl) ?_; dsimp only)); refine goesL_ (some 72) rfl rfl Try.func24 (by kernel_rfl) rfl #[.string ⟨#[49, 46, 48, 48]⟩] rfl (by (try simp only [List.map_toArray, List.map_cons, List.map_nil]); first | done | rfl) ?_; (with_reducible refine (HP1.out _).mono ?_); rintro e wW8 ⟨rfl, hb⟩; refine ⟨_, rfl, ?_⟩; have HVW8 := Aside0.mk (Bx.below HBW7.out hb); clear hb))
  obtain ⟨W8, hW⟩ : ∃ W, W = wW8.alloc (.cells #[.int .u64 0, .int .u64 100, .bool false] 40) := ⟨_, rfl⟩
  obtain ⟨gO, hg⟩ : ∃ g, g = wW8.heap.size := ⟨_, rfl⟩
  have HBW8 : Aside0 (Bx w W8 [(gN, #[.bool (mnM v2), .slice A2 (D v2.natAbs).length c2], 46), (gM, #[.int .u64 hn, .int .u64 ln, .bool sn], 40), (gW, #[.int .u64 h, .int .u64 l], 38), (gO, #[.int .u64 0, .int .u64 100, .bool false], 40)]) := ⟨by have h := Bx.alloc HVW8.out #[.int .u64 0, .int .u64 100, .bool false] 40; rw [← hW, ← hg] at h; exact h⟩
  rw [← hW, ← hg]
  clear hW hg
  obtain ⟨N, fw, hf0, hfs, hfc⟩ := calm_class (fun W => Bx w W [(gN, #[.bool (mnM v2), .slice A2 (D v2.natAbs).length c2], 46), (gM, #[.int .u64 hn, .int .u64 ln, .bool sn], 40), (gW, #[.int .u64 h, .int .u64 l], 38), (gO, #[.int .u64 0, .int .u64 100, .bool false], 40)]) W8 HBW8.out.drew (fun W w' h hb => h.below hb)
  have hne : Nonempty N := ⟨hf0.choose⟩
  have HFC := Aside0.mk hfc
  have HFS := Aside0.mk hfs
  have qgO0 : ∀ n, (fw n).cell? ⟨gO, 0, none⟩ = some (.int .u64 0) := fun n => (blk_cell (Bx.get (hfs n) (gO, #[.int .u64 0, .int .u64 100, .bool false], 40) (by simp)) 0).trans rfl
  have qgO1 : ∀ n, (fw n).cell? ⟨gO, 1, none⟩ = some (.int .u64 100) := fun n => (blk_cell (Bx.get (hfs n) (gO, #[.int .u64 0, .int .u64 100, .bool false], 40) (by simp)) 1).trans rfl
  have qgO2 : ∀ n, (fw n).cell? ⟨gO, 2, none⟩ = some (.bool false) := fun n => (blk_cell (Bx.get (hfs n) (gO, #[.int .u64 0, .int .u64 100, .bool false], 40) (by simp)) 2).trans rfl
  clear hfs hfc
  refine wp_region_calm fw (by kernel_rfl) (by kernel_rfl) hf0 ?_
  repeat (go_big_quiet_step ((first
    | (go_at_call 33; with_reducible exact Calls.calm HFC (HC.out _))
    | (go_at_call 32; with_reducible exact Calls.calm HFC (HCmp.out _)))))
  refine wpQuiet_nil ?_
  intro _ hw'
  obtain ⟨nq, hw''⟩ := hw'
  subst hw''
  have HBW9 : Aside0 (Bx w (fw nq) [(gN, #[.bool (mnM v2), .slice A2 (D v2.natAbs).length c2], 46), (gM, #[.int .u64 hn, .int .u64 ln, .bool sn], 40), (gW, #[.int .u64 h, .int .u64 l], 38), (gO, #[.int .u64 0, .int .u64 100, .bool false], 40)]) := ⟨HFS.out nq⟩
  obtain ⟨W9, hW⟩ : ∃ W, W = fw nq := ⟨_, rfl⟩
  rw [← hW] at HBW9 ⊢
  clear hW
  clear HFC HFS hf0 hne qgO0 qgO1 qgO2
  go_wp2
  go_ret
  exact ⟨rfl, HBW9.out.bel⟩
end Go.Proofs.Ythmjmkbahneneaa.PMon
end

/- MoneyReads: its contract. -/
section
namespace Go.Proofs.Ythmjmkbahneneaa.PMon
open Go.RowKit Go.Proofs.Ythmjmkbahneneaa.PBig Go.Proofs.YthmjmkbahneneaaW.PrintWords Go.Proofs.YthmjmkbahneneaaW.PrintLast Go.Proofs.YthmjmkbahneneaaW.PrintMore
set_option linter.unusedVariables false
theorem text_100 : text 100 = [49, 46, 48, 48] := by
  unfold text back
  rw [show (100 : Int).natAbs = 100 from rfl, if_neg (by decide)]
  unfold rem
  simp [tl, lds_pos, lds_zero, dg]
theorem cents_100 (W : World) : Calls Try.prog 33 #[.int .i64 100] W fun e w' => e = .returned (M 100) ∧ Below W.heap.size W w' := by
  have h : num_Cents.f 100 = some (hiM 100, loM 100, mnM 100) := by
    unfold num_Cents.f
    rw [if_neg (by decide)]
    rfl
  exact num_Cents.calls 100 _ _ _ W h
theorem reads_calls (l : List UInt8) (hl : l.length ≤ 9223372036854775807) (a0 a1 : Int) (h0 : 0 ≤ a0) (h0' : a0 < 18446744073709551616) (h1 : 0 ≤ a1) (h1' : a1 < 18446744073709551616) (w : World) :
    Calls Try.prog 8 #[.string (bs l), .agg #[.int .u64 a0, .int .u64 a1]] w fun e w' => e = .returned (.bool true) ∧ Below w.heap.size w w' := by
  have sv : Small (parseR l) := small_parseR l
  have sx : Small (fwR a0 a1) := small_fwR a0 a1 h0 h0' h1 h1'
  have HT : parseE l = 0 → ∀ W, Calls Try.prog 28 #[M (parseR l)] W fun e w' => e = .returned (.string (bs l)) ∧ Below W.heap.size W w' := fun h W => by
    have e : text (parseR l) = l := by
      have hp := parse_dv l
      unfold parseE at h
      unfold parseR
      rw [hp] at h ⊢
      by_cases c : dig l 0 < 170141183460469231731687303715884105728 ∧ text (dv l) = l
      · rw [if_pos c]; exact c.2
      · rw [if_neg c] at h; exact absurd h (by decide)
    have := text_calls (parseR l) sv W
    rwa [e] at this
  have HW2 : (if fwB a0 a1 then (3 : Int) else 0) = 0 → ∀ W, Calls Try.prog 26 #[M (fwR a0 a1)] W fun e w' => e = .returned (W2 a0 a1) ∧ Below W.heap.size W w' := fun h W => by
    have hk := k_of a0 a1
    rw [h] at hk
    have WA := wd_of a0 a1 h0 h0' h1 h1'
    have e2 : (a0 == 9223372036854775808 && a1 == 0) = false := by
      cases hb : (a0 == 9223372036854775808 && a1 == 0) with
      | false => rfl
      | true => rw [hb] at hk; exact absurd hk (by decide)
    rw [e2] at WA
    have := words_calls (fwR a0 a1) sx W
    simp only [Bool.not_false, Bool.and_eq_true, beq_iff_eq] at WA
    rwa [WA.1, WA.2] at this
  have HP1 : ∀ W, Calls Try.prog 24 #[.string ⟨#[49, 46, 48, 48]⟩] W fun e w' => e = .returned (.tuple #[M 100, .int .i64 0]) ∧ Below W.heap.size W w' := fun W => by
    have s : Small 100 := by unfold Small; decide
    have := parse_calls (text 100) (text_len 100 s) W
    rw [(parseR_text 100 s).1, (parseR_text 100 s).2, text_100] at this
    exact this
  have HC : ∀ W, Calls Try.prog 32 #[M 100, M 100] W fun e w' => e = .returned (.int .i64 0) ∧ Below W.heap.size W w' := fun W => by
    have s : Small 100 := by unfold Small; decide
    have := comp_calls 100 100 s s W
    rwa [if_pos rfl] at this
  by_cases c : parseE l = 0 <;> by_cases d : (if fwB a0 a1 then (3 : Int) else 0) = 0
  · exact reads_zz (bs l) (bs (text (fwR a0 a1))) (parseE l) _ (parseR l) (fwR a0 a1) a0 a1 _ _ _ _ (wd0 (parseR l)) (wd1 (parseR l)) _ _ w ⟨fun W => parse_calls l hl W⟩ ⟨rparse_any l⟩ ⟨fun W => words_calls _ sv W⟩ ⟨fun W X h => rwords_any _ sv X W h⟩ ⟨HT⟩ ⟨fun W => from_calls a0 a1 h0 h0' h1 h1' W⟩ ⟨fun W => rfrom_any a0 a1 h0 h0' h1 h1' W⟩ ⟨fun W => text_calls _ sx W⟩ ⟨fun W X h => rtext_any _ sx X W h⟩ ⟨HW2⟩ ⟨HP1⟩ ⟨cents_100⟩ ⟨HC⟩ (eq_self38 _ _) (eq_self38 _ _) c d
  · exact reads_zn (bs l) (bs (text (fwR a0 a1))) (parseE l) _ (parseR l) (fwR a0 a1) a0 a1 _ _ _ _ (wd0 (parseR l)) (wd1 (parseR l)) _ _ w ⟨fun W => parse_calls l hl W⟩ ⟨rparse_any l⟩ ⟨fun W => words_calls _ sv W⟩ ⟨fun W X h => rwords_any _ sv X W h⟩ ⟨HT⟩ ⟨fun W => from_calls a0 a1 h0 h0' h1 h1' W⟩ ⟨fun W => rfrom_any a0 a1 h0 h0' h1 h1' W⟩ ⟨fun W => text_calls _ sx W⟩ ⟨fun W X h => rtext_any _ sx X W h⟩ ⟨HW2⟩ ⟨HP1⟩ ⟨cents_100⟩ ⟨HC⟩ (eq_self38 _ _) (eq_self38 _ _) c d
  · exact reads_nz (bs l) (bs (text (fwR a0 a1))) (parseE l) _ (parseR l) (fwR a0 a1) a0 a1 _ _ _ _ (wd0 (parseR l)) (wd1 (parseR l)) _ _ w ⟨fun W => parse_calls l hl W⟩ ⟨rparse_any l⟩ ⟨fun W => words_calls _ sv W⟩ ⟨fun W X h => rwords_any _ sv X W h⟩ ⟨HT⟩ ⟨fun W => from_calls a0 a1 h0 h0' h1 h1' W⟩ ⟨fun W => rfrom_any a0 a1 h0 h0' h1 h1' W⟩ ⟨fun W => text_calls _ sx W⟩ ⟨fun W X h => rtext_any _ sx X W h⟩ ⟨HW2⟩ ⟨HP1⟩ ⟨cents_100⟩ ⟨HC⟩ (eq_self38 _ _) (eq_self38 _ _) c d
  · exact reads_nn (bs l) (bs (text (fwR a0 a1))) (parseE l) _ (parseR l) (fwR a0 a1) a0 a1 _ _ _ _ (wd0 (parseR l)) (wd1 (parseR l)) _ _ w ⟨fun W => parse_calls l hl W⟩ ⟨rparse_any l⟩ ⟨fun W => words_calls _ sv W⟩ ⟨fun W X h => rwords_any _ sv X W h⟩ ⟨HT⟩ ⟨fun W => from_calls a0 a1 h0 h0' h1 h1' W⟩ ⟨fun W => rfrom_any a0 a1 h0 h0' h1 h1' W⟩ ⟨fun W => text_calls _ sx W⟩ ⟨fun W X h => rtext_any _ sx X W h⟩ ⟨HW2⟩ ⟨HP1⟩ ⟨cents_100⟩ ⟨HC⟩ (eq_self38 _ _) (eq_self38 _ _) c d
end Go.Proofs.Ythmjmkbahneneaa.PMon
end
