/- MonRh, struck of what this claim does not name (wip/tools/pack2.py). -/
import Derived.Test.YthmjmkbahneneaaZa49
section
namespace Go.Proofs.Ythmjmkbahneneaa.PMon
open Go.RowKit Go.Proofs.Ythmjmkbahneneaa.PBig Go.Proofs.YthmjmkbahneneaaW.PrintWords Go.Proofs.YthmjmkbahneneaaW.PrintLast Go.Proofs.YthmjmkbahneneaaW.PrintMore
set_option linter.unusedVariables false
set_option linter.unusedSimpArgs false

set_option maxHeartbeats 8000000 in
set_option maxRecDepth 100000 in
theorem rneg_t (A : Option Addr) (n c : Nat) (w : World) :
    Calls Try.prog 68 #[.agg #[.bool true, .slice A n c]] w fun e w' => e = .returned (.agg #[.bool false, .slice A n c]) ∧ Below w.heap.size w w' := by
  go_enter Try.func68, Try.ntmps68
  go_upto_region 1 with (fail)
  obtain ⟨W1, hW⟩ : ∃ W, W = ((w.alloc (.cells #[.bool true, .slice A n c] 46)).alloc (.cells #[.bool false, .slice none 0 0] 46)) := ⟨_, rfl⟩
  obtain ⟨gA, hgA⟩ : ∃ g, g = w.heap.size := ⟨_, rfl⟩
  obtain ⟨gR, hgR⟩ : ∃ g, g = w.heap.size + 1 := ⟨_, rfl⟩
  have HBW1 : Aside0 (Bx w W1 [(gA, #[.bool true, .slice A n c], 46), (gR, #[.bool false, .slice none 0 0], 46)]) := ⟨by rw [hW, hgA, hgR]; exact Bx.allocs2 _ _ _ _ _⟩
  rw [← hW, ← hgR, ← hgA]
  clear hW hgA hgR
  have qgA0 : W1.cell? ⟨gA, 0, none⟩ = some (.bool true) := (blk_cell (Bx.get HBW1.out (gA, #[.bool true, .slice A n c], 46) (by simp)) 0).trans rfl
  have fgA0 : W1.frozen? ⟨gA, 0, none⟩ = false := blk_frozen (Bx.get HBW1.out (gA, #[.bool true, .slice A n c], 46) (by simp)) 0
  have qgA1 : W1.cell? ⟨gA, 1, none⟩ = some (.slice A n c) := (blk_cell (Bx.get HBW1.out (gA, #[.bool true, .slice A n c], 46) (by simp)) 1).trans rfl
  have fgA1 : W1.frozen? ⟨gA, 1, none⟩ = false := blk_frozen (Bx.get HBW1.out (gA, #[.bool true, .slice A n c], 46) (by simp)) 1
  have qgR0 : W1.cell? ⟨gR, 0, none⟩ = some (.bool false) := (blk_cell (Bx.get HBW1.out (gR, #[.bool false, .slice none 0 0], 46) (by simp)) 0).trans rfl
  have fgR0 : W1.frozen? ⟨gR, 0, none⟩ = false := blk_frozen (Bx.get HBW1.out (gR, #[.bool false, .slice none 0 0], 46) (by simp)) 0
  have qgR1 : W1.cell? ⟨gR, 1, none⟩ = some (.slice none 0 0) := (blk_cell (Bx.get HBW1.out (gR, #[.bool false, .slice none 0 0], 46) (by simp)) 1).trans rfl
  have fgR1 : W1.frozen? ⟨gR, 1, none⟩ = false := blk_frozen (Bx.get HBW1.out (gR, #[.bool false, .slice none 0 0], 46) (by simp)) 1
  go_wp2
  have g1 := Bx.get HBW1.out (gR, #[.bool false, .slice none 0 0], 46) (by simp)
  have g2 := Bx.old HBW1.out (gR, #[.bool false, .slice none 0 0], 46) (by simp)
  refine bodyPost_ret (results_cell_row rfl _ _ gR 46 #[.bool false, .slice A n c] (0, 0) _ rfl (blk_put (cs := #[.bool false, .slice none 0 0]) (blk_put (cs := #[.bool false, .slice none 0 0]) g1 0 _ rfl) 1 _ rfl) Try.underlying46 rfl (by kernel_rfl)) rfl ⟨rfl, ?_⟩
  exact below_set (below_set HBW1.out.bel g2) g2

set_option maxHeartbeats 8000000 in
set_option maxRecDepth 100000 in
theorem rneg_f (A : Option Addr) (n c : Nat) (z : Bool) (hz : decide ((n : Int) > 0) = z) (w : World) :
    Calls Try.prog 68 #[.agg #[.bool false, .slice A n c]] w fun e w' => e = .returned (.agg #[.bool z, .slice A n c]) ∧ Below w.heap.size w w' := by
  have hz2 : decide (0 < n) = z := by rw [← hz]; exact decide_eq_decide.mpr (by omega)
  clear hz
  go_enter Try.func68, Try.ntmps68
  go_upto_region 1 with (fail)
  obtain ⟨W1, hW⟩ : ∃ W, W = ((w.alloc (.cells #[.bool false, .slice A n c] 46)).alloc (.cells #[.bool false, .slice none 0 0] 46)) := ⟨_, rfl⟩
  obtain ⟨gA, hgA⟩ : ∃ g, g = w.heap.size := ⟨_, rfl⟩
  obtain ⟨gR, hgR⟩ : ∃ g, g = w.heap.size + 1 := ⟨_, rfl⟩
  have HBW1 : Aside0 (Bx w W1 [(gA, #[.bool false, .slice A n c], 46), (gR, #[.bool false, .slice none 0 0], 46)]) := ⟨by rw [hW, hgA, hgR]; exact Bx.allocs2 _ _ _ _ _⟩
  rw [← hW, ← hgR, ← hgA]
  clear hW hgA hgR
  have qgA0 : W1.cell? ⟨gA, 0, none⟩ = some (.bool false) := (blk_cell (Bx.get HBW1.out (gA, #[.bool false, .slice A n c], 46) (by simp)) 0).trans rfl
  have fgA0 : W1.frozen? ⟨gA, 0, none⟩ = false := blk_frozen (Bx.get HBW1.out (gA, #[.bool false, .slice A n c], 46) (by simp)) 0
  have qgA1 : W1.cell? ⟨gA, 1, none⟩ = some (.slice A n c) := (blk_cell (Bx.get HBW1.out (gA, #[.bool false, .slice A n c], 46) (by simp)) 1).trans rfl
  have fgA1 : W1.frozen? ⟨gA, 1, none⟩ = false := blk_frozen (Bx.get HBW1.out (gA, #[.bool false, .slice A n c], 46) (by simp)) 1
  have qgR0 : W1.cell? ⟨gR, 0, none⟩ = some (.bool false) := (blk_cell (Bx.get HBW1.out (gR, #[.bool false, .slice none 0 0], 46) (by simp)) 0).trans rfl
  have fgR0 : W1.frozen? ⟨gR, 0, none⟩ = false := blk_frozen (Bx.get HBW1.out (gR, #[.bool false, .slice none 0 0], 46) (by simp)) 0
  have qgR1 : W1.cell? ⟨gR, 1, none⟩ = some (.slice none 0 0) := (blk_cell (Bx.get HBW1.out (gR, #[.bool false, .slice none 0 0], 46) (by simp)) 1).trans rfl
  have fgR1 : W1.frozen? ⟨gR, 1, none⟩ = false := blk_frozen (Bx.get HBW1.out (gR, #[.bool false, .slice none 0 0], 46) (by simp)) 1
  go_wp2
  have g1 := Bx.get HBW1.out (gR, #[.bool false, .slice none 0 0], 46) (by simp)
  have g2 := Bx.old HBW1.out (gR, #[.bool false, .slice none 0 0], 46) (by simp)
  refine bodyPost_ret (results_cell_row rfl _ _ gR 46 #[.bool z, .slice A n c] (0, 0) _ rfl (blk_put (cs := #[.bool z, .slice none 0 0]) (blk_put (cs := #[.bool false, .slice none 0 0]) g1 0 _ rfl) 1 _ rfl) Try.underlying46 rfl (by kernel_rfl)) rfl ⟨rfl, ?_⟩
  exact below_set (below_set HBW1.out.bel g2) g2

theorem rneg_any (v : Int) (A : Option Addr) (c : Nat) (w : World) : Calls Try.prog 68 #[.agg #[.bool (mnM v), .slice A (D v.natAbs).length c]] w fun e w' => e = .returned (.agg #[.bool (mnM (-v)), .slice A (D v.natAbs).length c]) ∧ Below w.heap.size w w' := by
  by_cases n : v < 0
  · have e1 : mnM v = true := decide_eq_true n
    have e2 : mnM (-v) = false := decide_eq_false (by omega)
    rw [e1, e2]
    exact rneg_t A _ c w
  · have e1 : mnM v = false := decide_eq_false n
    rw [e1]
    refine rneg_f A _ c _ ?_ w
    rw [D_len_pos]
    exact decide_eq_decide.mpr (by omega)
theorem Rm.neg {w : World} {A : Option Addr} {c : Nat} {v : Int} (h : Rm w (.agg #[.bool (mnM v), .slice A (D v.natAbs).length c]) v) : Rm w (.agg #[.bool (mnM (-v)), .slice A (D v.natAbs).length c]) (-v) := by
  obtain ⟨u, e, h⟩ := h
  injection e with e
  have e2 : Value.slice A (D v.natAbs).length c = u := by simpa using e
  rw [e2]
  have e3 : (-v).natAbs = v.natAbs := Int.natAbs_neg v
  exact ⟨u, rfl, by rw [e3]; exact h⟩
def SR (w : World) (g1 g2 g3 : Nat) (m n : Array Value) (a b : Int) (w' : World) : Prop := (∃ r0 r1, Bx w w' [(g1, m, 46), (g2, n, 46), (g3, #[r0, r1], 46)]) ∧ Rm w' (.agg m) a ∧ Rm w' (.agg n) b
theorem SR.below {w w' w2 : World} {g1 g2 g3 : Nat} {m n : Array Value} {a b : Int} (h : SR w g1 g2 g3 m n a b w') (hb : Below w'.heap.size w' w2) : SR w g1 g2 g3 m n a b w2 := by
  obtain ⟨⟨r0, r1, h⟩, h1, h2⟩ := h
  exact ⟨⟨r0, r1, h.below hb⟩, h1.below hb, h2.below hb⟩
theorem SR.drew {w w' : World} {g1 g2 g3 : Nat} {m n : Array Value} {a b : Int} (h : SR w g1 g2 g3 m n a b w') : SR w g1 g2 g3 m n a b w'.drew := by
  obtain ⟨⟨r0, r1, h⟩, h1, h2⟩ := h
  exact ⟨⟨r0, r1, h.drew⟩, by have := h1.drewN 1; exact this, by have := h2.drewN 1; exact this⟩
theorem SR.sets {w w' : World} {g1 g2 g3 : Nat} {m n : Array Value} {a b : Int} (h : SR w g1 g2 g3 m n a b w') (n1 : g1 ≠ g3) (n2 : g2 ≠ g3) (x y : Value) : SR w g1 g2 g3 m n a b ((w'.setCell ⟨g3, 0, none⟩ x).setCell ⟨g3, 1, none⟩ y) := by
  obtain ⟨⟨r0, r1, h⟩, h1, h2⟩ := h
  have hb := Bx.get h (g3, #[r0, r1], 46) (by simp)
  have hs : Bx w w' ((g3, #[r0, r1], 46) :: [(g1, m, 46), (g2, n, 46)]) := h.sub (fun p hp => by simp only [List.mem_cons, List.not_mem_nil, or_false] at hp ⊢; rcases hp with h | h | h <;> simp [h])
  have hn : ∀ p ∈ ([(g1, m, 46), (g2, n, 46)] : List (Nat × Array Value × TypeId)), p.1 ≠ g3 := by
    intro p hp
    simp only [List.mem_cons, List.not_mem_nil, or_false] at hp
    rcases hp with rfl | rfl
    · exact n1
    · exact n2
  have h3 := (hs.set hn 0 x).set hn 1 y
  refine ⟨⟨x, y, h3.sub (fun p hp => ?_)⟩, (h1.set hb (show (46 : Nat) ≠ 67 by decide) 0 x).set (blk_set hb 0 x) (show (46 : Nat) ≠ 67 by decide) 1 y, (h2.set hb (show (46 : Nat) ≠ 67 by decide) 0 x).set (blk_set hb 0 x) (show (46 : Nat) ≠ 67 by decide) 1 y⟩
  simp only [List.mem_cons, List.not_mem_nil, or_false] at hp
  rcases hp with rfl | rfl | rfl <;> simp
theorem cell_sets2 {w : World} {g k j : Nat} {x y v : Value} (h : w.cell? ⟨k, j, none⟩ = some v) (hk : k ≠ g) : ((w.setCell ⟨g, 0, none⟩ x).setCell ⟨g, 1, none⟩ y).cell? ⟨k, j, none⟩ = some v := by
  have e : ∀ (W : World) (i : Nat) (u : Value), (W.setCell ⟨g, i, none⟩ u).cell? ⟨k, j, none⟩ = W.cell? ⟨k, j, none⟩ := fun W i u => World.cell?_setCell_far _ _ _ _ (fun e => hk e.symm)
  rw [e, e, h]

set_option maxHeartbeats 8000000 in
set_option maxRecDepth 100000 in
theorem rsub_core (A B : Option Addr) (n c m d : Nat) (s t t2 : Bool) (a b r k : Int) (w : World)
    (HN : Aside0 (∀ W, Calls Try.prog 68 #[.agg #[.bool t, .slice B m d]] W fun e w' => e = .returned (.agg #[.bool t2, .slice B m d]) ∧ Below W.heap.size W w'))
    (HA : Aside0 (∀ W, Rm W (.agg #[.bool s, .slice A n c]) a → Rm W (.agg #[.bool t, .slice B m d]) b → Calls Try.prog 66 #[.agg #[.bool s, .slice A n c], .agg #[.bool t2, .slice B m d]] W (RmE W r k)))
    (h1 : Rm w (.agg #[.bool s, .slice A n c]) a) (h2 : Rm w (.agg #[.bool t, .slice B m d]) b) : Calls Try.prog 67 #[.agg #[.bool s, .slice A n c], .agg #[.bool t, .slice B m d]] w (RmE w r k) := by
  have H12 := Aside0.mk (And.intro h1 h2)
  clear h1 h2
  go_enter Try.func67, Try.ntmps67
  go_upto_region 1 with (fail)
  have hww : Below w.heap.size w (((w.alloc (.cells #[.bool s, .slice A n c] 46)).alloc (.cells #[.bool t, .slice B m d] 46)).alloc (.cells #[.bool false, .slice none 0 0] 46)) := (Bx.allocs3 w #[.bool s, .slice A n c] #[.bool t, .slice B m d] #[.bool false, .slice none 0 0] 46 46 46).bel
  have HRM := Aside0.mk (And.intro (H12.out.1.below hww) (H12.out.2.below hww))
  clear hww
  obtain ⟨W1, hW⟩ : ∃ W, W = (((w.alloc (.cells #[.bool s, .slice A n c] 46)).alloc (.cells #[.bool t, .slice B m d] 46)).alloc (.cells #[.bool false, .slice none 0 0] 46)) := ⟨_, rfl⟩
  obtain ⟨g1, hg1⟩ : ∃ g, g = w.heap.size := ⟨_, rfl⟩
  obtain ⟨g2, hg2⟩ : ∃ g, g = w.heap.size + 1 := ⟨_, rfl⟩
  obtain ⟨g3, hg3⟩ : ∃ g, g = w.heap.size + 1 + 1 := ⟨_, rfl⟩
  have HB : Aside0 (SR w g1 g2 g3 #[.bool s, .slice A n c] #[.bool t, .slice B m d] a b W1) := ⟨⟨⟨_, _, by rw [hW, hg1, hg2, hg3]; exact Bx.allocs3 _ _ _ _ _ _ _⟩, by rw [hW]; exact HRM.out.1, by rw [hW]; exact HRM.out.2⟩⟩
  have n1 : g1 ≠ g3 := by omega
  have n2 : g2 ≠ g3 := by omega
  have hgw : w.heap.size ≤ g3 := by omega
  have hq : Bx w W1 [(g1, #[.bool s, .slice A n c], 46), (g2, #[.bool t, .slice B m d], 46), (g3, #[.bool false, .slice none 0 0], 46)] := by rw [hW, hg1, hg2, hg3]; exact Bx.allocs3 _ _ _ _ _ _ _
  rw [← hW, ← hg3, ← hg2, ← hg1]
  clear hW hg1 hg2 hg3 HRM H12
  have qg10 : W1.cell? ⟨g1, 0, none⟩ = some (.bool s) := (blk_cell (Bx.get hq (g1, #[.bool s, .slice A n c], 46) (by simp)) 0).trans rfl
  have qg11 : W1.cell? ⟨g1, 1, none⟩ = some (.slice A n c) := (blk_cell (Bx.get hq (g1, #[.bool s, .slice A n c], 46) (by simp)) 1).trans rfl
  have qg20 : W1.cell? ⟨g2, 0, none⟩ = some (.bool t) := (blk_cell (Bx.get hq (g2, #[.bool t, .slice B m d], 46) (by simp)) 0).trans rfl
  have qg21 : W1.cell? ⟨g2, 1, none⟩ = some (.slice B m d) := (blk_cell (Bx.get hq (g2, #[.bool t, .slice B m d], 46) (by simp)) 1).trans rfl
  clear hq
  have HA2 := Aside0.mk (fun W (hs : SR w g1 g2 g3 #[.bool s, .slice A n c] #[.bool t, .slice B m d] a b W) => HA.out W hs.2.1 hs.2.2)
  have HS : SR w g1 g2 g3 #[.bool s, .slice A n c] #[.bool t, .slice B m d] a b W1 := HB.out
  go_region_held3 (fun w' => w'.cell? ⟨g1, 0, none⟩ = some (.bool s) ∧ w'.cell? ⟨g1, 1, none⟩ = some (.slice A n c) ∧ w'.cell? ⟨g2, 0, none⟩ = some (.bool t) ∧ w'.cell? ⟨g2, 1, none⟩ = some (.slice B m d) ∧ SR w g1 g2 g3 #[.bool s, .slice A n c] #[.bool t, .slice B m d] a b w') ((go_split_ands; refine ⟨?_, ?_, ?_, ?_, ?_⟩ <;> first | (with_reducible assumption) | (with_reducible exact SR.sets (by with_reducible assumption) n1 n2 _ _) | (with_reducible exact SR.drew (by with_reducible assumption)) | (with_reducible exact SR.below (by with_reducible assumption) (by with_reducible assumption)) | (with_reducible exact (pw_cell_below (by with_reducible assumption) (by with_reducible assumption))) | (with_reducible exact cell_sets2 (by with_reducible assumption) (by with_reducible assumption)) | go_keep))
    (first
      | (go_at_call 68; (with_reducible refine (HN.out _).mono ?_); rintro e w' ⟨rfl, hb⟩)
      | (go_at_call 66; (with_reducible refine (HA2.out _ ?c1).mono ?_); (case c1 => go_split_ands; with_reducible assumption); rintro e w5 ⟨X, rfl, hr, hb⟩; (have S5 : SR w g1 g2 g3 #[.bool s, .slice A n c] #[.bool t, .slice B m d] a b w5 := SR.below (by go_split_ands; with_reducible assumption) hb); obtain ⟨u, rfl, hr⟩ := hr; obtain ⟨A5, c5, e5⟩ := Kd.R_slice hr; subst e5; have HR := Aside0.mk hr; clear hr; have S7 := S5; obtain ⟨⟨r0, r1, S6⟩, _, _⟩ := S7; have S8 := Bx.get S6 (g3, #[r0, r1], 46) (by simp); have HS8 := Aside0.mk (And.intro S8 S6.bel); clear S6; have hc0 : w5.cell? ⟨g3, 0, none⟩ = some r0 := (blk_cell S8 0).trans rfl; have hc1 : w5.cell? ⟨g3, 1, none⟩ = some r1 := (blk_cell S8 1).trans rfl; have hf0 := blk_frozen S8 0; have hf1 := blk_frozen S8 1; clear S8))
  all_goals (go_wp2)
  all_goals (refine bodyPost_ret (results_ct rfl _ _ g3 46 #[.bool (mnM r), .slice A5 (D r.natAbs).length c5] (0, 0) _ rfl (blk_put (cs := #[.bool (mnM r), r1]) (blk_put (cs := #[r0, r1]) HS8.out.1 0 _ rfl) 1 _ rfl) Try.underlying46 rfl (by kernel_rfl)) rfl ?_; exact ⟨_, rfl, (Rm.set ⟨_, rfl, HR.out⟩ HS8.out.1 (show (46 : Nat) ≠ 67 by decide) 0 _).set (blk_set HS8.out.1 0 _) (show (46 : Nat) ≠ 67 by decide) 1 _, below_set (below_set HS8.out.2 hgw) hgw⟩)

theorem rsub_any (a b : Int) (ha : Small a) (hb : Small b) (V U : Value) (w : World) (h : Rm w V a) (k : Rm w U b) : Calls Try.prog 67 #[V, U] w (RmE w (addR (a - b)) (addE (a - b))) := by
  obtain ⟨A, c, rfl, hc, hr⟩ := h.reads
  obtain ⟨B, d, rfl, hd, ht⟩ := k.reads
  refine rsub_core A B _ c _ d (mnM a) (mnM b) (mnM (-b)) a b _ _ w ⟨fun W => rneg_any b B d W⟩ ⟨fun W h1 h2 => ?_⟩ h k
  have := radd_any a (-b) ha (small_neg hb) _ _ W h1 h2.neg
  rwa [show a + -b = a - b from rfl] at this
end Go.Proofs.Ythmjmkbahneneaa.PMon
end
