/- BitmapAll. -/
import Derived.Test.YtgcelkndgjjbdaaDoorBp
namespace Go.Proofs.YtgcelkndgjjbdaaDoor.PBm
open Go.RowKit Go.Proofs.YtgcelkndgjjbdaaDoorW.PrintWords Go.Proofs.YtgcelkndgjjbdaaDoorW.PrintLast Go.Proofs.YtgcelkndgjjbdaaDoorW.PrintMore
open Go.Shelf
set_option linter.unusedVariables false
set_option linter.unusedSimpArgs false

def P0 (s : Nat) : Nat → Pt := fun j => ⟨if j = 0 then s else if j = 1 then s + 1 else s + 1 + 1, .slice none 0 0, E0, []⟩
theorem top70 : topW (put E0 70) = 1 := by
  have e : put E0 70 = up E0 70 true := rfl
  rw [e, topW_set E0 70 (by decide), topW_E0]
  rfl
theorem low70 : lowW (put E0 70) 1 = 64 := by
  have e : put E0 70 = up E0 70 true := rfl
  have := lowW_set E0 70
  rw [show 70 / 64 = 1 from rfl] at this
  rw [e, this, lowW_E0]
  rfl
theorem eqB_rep {l m : List Int} {S T : St} (h : Rep l S) (k : Rep m T) : eqB S T = decide (l = m) := by
  rw [Bool.eq_iff_iff, eqB_iff, decide_eq_true_iff, h.eq_iff k]

set_option maxHeartbeats 64000000 in
set_option maxRecDepth 100000 in
theorem bitmapAll_calls {W : World} {A : Option Addr} {n cap : Nat} {f : Nat → Op5} (hl : Opp W A n f) (hn : n ≤ 9223372036854775807) (hT : Tz W) :
    Calls Tryd.prog 6 #[.slice A n cap] W fun e w' => e = .returned (.bool true) ∧ Below W.heap.size W w' := by
  have HL := Aside0.mk hl
  have HTW := Aside0.mk hT
  obtain ⟨Z, hZ⟩ : ∃ Z, Z = cells E0 := ⟨_, rfl⟩
  have hz : ∀ w, (zeroValue 37).run Tryd.prog w = .ok (.agg Z) w := fun w => by rw [hZ]; exact zero30 w
  have HZ := Aside0.mk hZ
  obtain ⟨w1, hw1⟩ : ∃ w1, w1 = (((W.alloc (.cells Z 37)).alloc (.cells Z 37)).alloc (.cells Z 37)).alloc (.cells #[.pointer (some ⟨W.heap.size, 0, none⟩), .slice none 0 0, .pointer (some ⟨W.heap.size + 1, 0, none⟩), .slice none 0 0, .pointer (some ⟨W.heap.size + 1 + 1, 0, none⟩), .slice none 0 0] 49) := ⟨_, rfl⟩
  obtain ⟨X, hX⟩ : ∃ X, X = W.heap.size + 1 + 1 + 1 := ⟨_, rfl⟩
  have N0 : Aside0 (Bx W X (P0 W.heap.size) w1) := ⟨by
    have s1 : (W.alloc (.cells Z 37)).heap.size = W.heap.size + 1 := World.size_alloc _ _
    have s2 : ((W.alloc (.cells Z 37)).alloc (.cells Z 37)).heap.size = W.heap.size + 1 + 1 := by rw [World.size_alloc, s1]
    have s3 : (((W.alloc (.cells Z 37)).alloc (.cells Z 37)).alloc (.cells Z 37)).heap.size = W.heap.size + 1 + 1 + 1 := by rw [World.size_alloc, s2]
    rw [hw1, hX]
    refine ⟨fun j hj => ?_, ?_, fun j hj => Li.nil _ _, fun j hj => Rep.nil, fun i j hi hj hij => ?_, fun j hj => ?_, ?_, by omega⟩
    · have : j = 0 ∨ j = 1 ∨ j = 2 := by omega
      rcases this with rfl | rfl | rfl
      · exact (Below.heap_alloc _ _ _ (by rw [s3]; show W.heap.size < _; omega)).trans ((Below.heap_alloc _ _ _ (by rw [s2]; show W.heap.size < _; omega)).trans ((Below.heap_alloc _ _ _ (by rw [s1]; show W.heap.size < _; omega)).trans (by rw [hZ]; exact heap_alloc_new W _)))
      · have := heap_alloc_new (W.alloc (.cells Z 37)) (.cells Z 37)
        rw [s1] at this
        exact (Below.heap_alloc _ _ _ (by rw [s3]; show W.heap.size + 1 < _; omega)).trans ((Below.heap_alloc _ _ _ (by rw [s2]; show W.heap.size + 1 < _; omega)).trans (by rw [hZ] at this ⊢; exact this))
      · have := heap_alloc_new ((W.alloc (.cells Z 37)).alloc (.cells Z 37)) (.cells Z 37)
        rw [s2] at this
        exact (Below.heap_alloc _ _ _ (by rw [s3]; show W.heap.size + 1 + 1 < _; omega)).trans (by rw [hZ] at this ⊢; exact this)
    · have := heap_alloc_new (((W.alloc (.cells Z 37)).alloc (.cells Z 37)).alloc (.cells Z 37)) (.cells #[.pointer (some ⟨W.heap.size, 0, none⟩), .slice none 0 0, .pointer (some ⟨W.heap.size + 1, 0, none⟩), .slice none 0 0, .pointer (some ⟨W.heap.size + 1 + 1, 0, none⟩), .slice none 0 0] 49)
      rw [s3] at this
      exact this
    · show (if i = 0 then W.heap.size else if i = 1 then W.heap.size + 1 else W.heap.size + 1 + 1) ≠ (if j = 0 then W.heap.size else if j = 1 then W.heap.size + 1 else W.heap.size + 1 + 1)
      split <;> split <;> (try split) <;> (try split) <;> omega
    · show W.heap.size ≤ (if j = 0 then W.heap.size else if j = 1 then W.heap.size + 1 else W.heap.size + 1 + 1) ∧ (if j = 0 then W.heap.size else if j = 1 then W.heap.size + 1 else W.heap.size + 1 + 1) ≠ W.heap.size + 1 + 1 + 1
      split <;> (try split) <;> omega
    · exact ((((Below.refl _ W).alloc (Nat.le_refl _) _).alloc (by rw [s1]; omega) _).alloc (by rw [s2]; omega) _).alloc (by rw [s3]; omega) _⟩
  have HXs : Aside0 (W.heap.size ≤ X) := ⟨by omega⟩
  clear hl hT hZ
  go_enter Tryd.func6, Tryd.ntmps6
  go_upto_region 2 with (fail)
  rw [← hw1, ← hX]
  clear hw1 hX
  obtain ⟨PP, hPP⟩ : ∃ PP, PP = P0 W.heap.size := ⟨_, rfl⟩
  rw [← hPP] at N0
  clear hPP
  go_wp2_with (fail)
  go_loopg [4] n (fun kq v4 w' => ∃ (i : Nat) (P : Nat → Pt), v4 = .int .i64 (i : Int) ∧ i ≤ n ∧ Aside0 (kq + i = n) ∧ Aside0 (Bx W X P w'))
  case atStart => exact ⟨0, PP, rfl, Nat.zero_le _, ⟨by omega⟩, N0⟩
  case round =>
    clear N0
    obtain ⟨i, P, rfl, hi, HK, HN⟩ := hrel
    have TZ : Aside0 (Tz wr) := ⟨HTW.out.below HN.out.bel HTW.out.lt⟩
    by_cases hlt : i < n
    · obtain ⟨kk, rfl⟩ : ∃ kk, gk = kk + 1 := ⟨gk - 1, by have := HK.out; omega⟩
      obtain ⟨⟨ab, ao, rfl, p0, p1, p2, p3, p4⟩, pA⟩ := HL.out i hlt
      have habt : ab < W.heap.size := cell_block p0
      have c0 := (HN.out.bel.cell (p := ⟨ab, ao + i * 5, none⟩) habt).trans p0
      have c1 := (HN.out.bel.cell (p := ⟨ab, ao + i * 5 + 1, none⟩) habt).trans p1
      have c2 := (HN.out.bel.cell (p := ⟨ab, ao + i * 5 + 2, none⟩) habt).trans p2
      have c3 := (HN.out.bel.cell (p := ⟨ab, ao + i * 5 + 3, none⟩) habt).trans p3
      have c4 := (HN.out.bel.cell (p := ⟨ab, ao + i * 5 + 4, none⟩) habt).trans p4
      obtain ⟨on, hon, at1⟩ := at_f3 (f i).on
      obtain ⟨oth, hoth, at2⟩ := at_f3 (f i).oth
      generalize (f i).kind = kd at c0
      generalize (f i).on = on' at c1 at1
      generalize (f i).oth = oth' at c2 at2
      generalize (f i).A = A1 at c3 pA
      generalize (f i).B = B1 at c4
      have HAA : Aside0 (A1 ≤ 9223372036854775807) := ⟨pA⟩
      have CA1 : Aside0 (∀ w, Calls Tryd.prog 18 #[.int .i64 on'] w fun e w' => e = .returned (.int .i64 (on : Int)) ∧ ∃ m, w' = w.drewN m) := ⟨fun w => (bourselaw06_at.calls on' _ w at1).mono fun e w' ⟨he, ⟨hd⟩⟩ => ⟨he, hd⟩⟩
      have CA2 : Aside0 (∀ w, Calls Tryd.prog 18 #[.int .i64 oth'] w fun e w' => e = .returned (.int .i64 (oth : Int)) ∧ ∃ m, w' = w.drewN m) := ⟨fun w => (bourselaw06_at.calls oth' _ w at2).mono fun e w' ⟨he, ⟨hd⟩⟩ => ⟨he, hd⟩⟩
      clear p0 p1 p2 p3 p4 pA at1 at2 habt
      go_wp2_with (fail)
      go_quiet ((first
        | (go_at_call_of 18 (Value.int IntKind.i64 on'); exact Calls.quiet_of (CA1.out _))
        | (go_at_call_of 18 (Value.int IntKind.i64 oth'); exact Calls.quiet_of (CA2.out _))))
      obtain ⟨ob, hob⟩ : ∃ ob, ob = wr.heap.size := ⟨_, rfl⟩
      obtain ⟨w3, hw3⟩ : ∃ w3, w3 = (wr.alloc (.cells #[.int .i64 kd, .int .i64 on', .int .i64 oth', .int .i64 A1, .int .i64 B1] 45)).drewN nq := ⟨_, rfl⟩
      have hb3 : Below wr.heap.size wr w3 := by rw [hw3]; exact pw_below_drewN ((Below.refl _ wr).alloc (Nat.le_refl _) _) nq
      have HB : Aside0 (Bx W X P w3) := ⟨HN.out.below hb3⟩
      have T3 : Aside0 (Tz w3) := ⟨HTW.out.below HB.out.bel HTW.out.lt⟩
      have HO : Aside0 (w3.heap[ob]? = some (.cells #[.int .i64 kd, .int .i64 on', .int .i64 oth', .int .i64 A1, .int .i64 B1] 45 (0, 0))) := ⟨by rw [hw3, hob]; exact heap_alloc_new wr _⟩
      have HOX : Aside0 (X < ob ∧ ∀ j, j < 3 → (P j).g < ob) := ⟨by rw [hob]; exact ⟨blk_lt HN.out.x, fun j hj => (HN.out.m j hj).lt⟩⟩
      rw [← hw3, ← hob]
      clear hw3 hob hb3 c0 c1 c2 c3 c4 TZ HN
      obtain ⟨x0, x1, xf0, xf1⟩ := HB.out.at_ on hon
      obtain ⟨y0, y1, _, _⟩ := HB.out.at_ oth hoth
      have o0 : w3.cell? ⟨ob, 0, none⟩ = some (.int .i64 kd) := (blk_cell HO.out 0).trans rfl
      have o1 : w3.cell? ⟨ob, 1, none⟩ = some (.int .i64 on') := (blk_cell HO.out 1).trans rfl
      have o2 : w3.cell? ⟨ob, 2, none⟩ = some (.int .i64 oth') := (blk_cell HO.out 2).trans rfl
      have o3 : w3.cell? ⟨ob, 3, none⟩ = some (.int .i64 A1) := (blk_cell HO.out 3).trans rfl
      have o4 : w3.cell? ⟨ob, 4, none⟩ = some (.int .i64 B1) := (blk_cell HO.out 4).trans rfl
      have hon3 : (on : Int) < 3 := by omega
      have hoth3 : (oth : Int) < 3 := by omega
      obtain ⟨g, hg⟩ : ∃ g, g = (P on).g := ⟨_, rfl⟩
      obtain ⟨v, hv⟩ : ∃ v, v = (P on).v := ⟨_, rfl⟩
      obtain ⟨g2, hg2⟩ : ∃ g, g = (P oth).g := ⟨_, rfl⟩
      obtain ⟨v2, hv2⟩ : ∃ v, v = (P oth).v := ⟨_, rfl⟩
      have HG := Aside0.mk hg
      have HV := Aside0.mk hv
      have HG2 := Aside0.mk hg2
      have HV2 := Aside0.mk hv2
      have HON : Aside0 (on < 3) := ⟨hon⟩
      have HOTH : Aside0 (oth < 3) := ⟨hoth⟩
      rw [← hg] at x0
      rw [← hv] at x1
      rw [← hg2] at y0
      rw [← hv2] at y1
      clear hg hv hg2 hv2 hon hoth
      by_cases k0 : kd = 0
      · have e0 : (kd == 0) = true := beq_iff_eq.mpr k0
        clear k0
        have CW : Aside0 (Calls Tryd.prog 14 #[v, .int .i64 A1] w3.drew (SetP (X + 1) w3.drew (tickB A1 && !hasB (P on).S A1) (put (P on).S A1))) := ⟨by
          rw [HV.out]
          exact with_calls (w := w3.drew) ((HB.out.li on HON.out).keep (w' := w3.drew) (fun _ _ _ _ => rfl)) (HB.out.rep on HON.out) (blk_lt HB.out.x) A1⟩
        obtain ⟨S', hS'⟩ : ∃ S', S' = put (P on).S A1 := ⟨_, rfl⟩
        obtain ⟨bb, hbb⟩ : ∃ b, b = (tickB A1 && !hasB (P on).S A1) := ⟨_, rfl⟩
        have CPm : Aside0 (∀ w, Bm w g (P on).S → Calls Tryd.prog 15 #[.pointer (some ⟨g, 0, none⟩), .int .i64 A1] w fun e w' => e = .returned (.bool bb) ∧ Bm w' g S' ∧ Fr (fun k => k = g) w w') := ⟨fun w hw => by rw [hbb, hS']; exact set_any (P on).S hw A1⟩
        rw [← hS', ← hbb] at CW
        have ebb : (bb != bb) = false := bne_self_eq_false' (a := bb)
        clear hbb hS'
        go_wp2_with (fail)
        go_region_held3 (fun w' => w'.cell? ⟨ob, 3, none⟩ = some (.int .i64 A1) ∧ w'.cell? ⟨X, on * 2 + 1, none⟩ = some v) ((first | (exact ⟨o3, x1⟩) | (exact ⟨d1, d2⟩)))
          (first
            | (go_at_call 14; (with_reducible refine (CW.out).mono ?_); rintro e w5 ⟨v', l', rfl, h1, h2, _, h3⟩; have H1 := Aside0.mk h1; have H2 := Aside0.mk h2; have H3 : Aside0 (Below w3.heap.size w3 w5) := ⟨⟨h3.os, h3.tape, h3.output, h3.size, fun k hk => h3.block k hk⟩⟩; have d2 : w5.cell? ⟨X, on * 2 + 1, none⟩ = some v := (h3.cell (p := ⟨X, on * 2 + 1, none⟩) (blk_lt HB.out.x)).trans x1; have d1 : w5.cell? ⟨ob, 3, none⟩ = some (.int .i64 A1) := (h3.cell (p := ⟨ob, 3, none⟩) (blk_lt HO.out)).trans o3; clear h1 h2 h3))
        obtain ⟨A', c', hv'⟩ := H1.out.form
        obtain ⟨m', hm'⟩ : ∃ m', m' = l'.length := ⟨_, rfl⟩
        rw [← hm'] at hv'
        subst hv'
        clear hm'
        have B5 : Aside0 (Bx W X P w5) := ⟨HB.out.below H3.out⟩
        have d3 : w5.cell? ⟨X, on * 2, none⟩ = some (.pointer (some ⟨g, 0, none⟩)) := by rw [HG.out]; exact (B5.out.at_ on HON.out).1
        have CS : Aside0 (Calls Tryd.prog 15 #[.pointer (some ⟨g, 0, none⟩), .int .i64 A1] w5.drew fun e w' => e = .returned (.bool bb) ∧ Bm w' g S' ∧ Fr (fun k => k = g) w5.drew w') := ⟨CPm.out _ (by rw [HG.out]; exact (B5.out.m on HON.out).keep rfl)⟩
        clear d2
        go_wp2_with (fail)
        go_region_held3 (fun w' => w'.cell? ⟨ob, 3, none⟩ = some (.int .i64 A1) ∧ w'.cell? ⟨X, on * 2, none⟩ = some (.pointer (some ⟨g, 0, none⟩))) ((first | (exact ⟨d1, d3⟩) | (exact ⟨b1, b3⟩)))
          (first
            | (go_at_call 15; (with_reducible refine (CS.out).mono ?_); rintro e w6 ⟨rfl, h1, h2⟩; have G1 := Aside0.mk h1; have G2 := Aside0.mk h2; have b0 : w6.heap[X]? = some (.cells (six P) 49 (0, 0)) := h2.blk B5.out.x (fun e => (HB.out.gx on HON.out).2 (by rw [← HG.out]; exact e.symm)); have b3 : w6.cell? ⟨X, on * 2, none⟩ = some (.pointer (some ⟨g, 0, none⟩)) := (World.cell?_of_block (a := ⟨X, on * 2, none⟩) (b0.trans B5.out.x.symm)).trans d3; have b1 : w6.cell? ⟨ob, 3, none⟩ = some (.int .i64 A1) := (World.cell?_of_block (a := ⟨ob, 3, none⟩) (h2.block ob (cell_block d1) (fun e => by have := HOX.out.2 on HON.out; rw [← HG.out] at this; omega))).trans d1; clear h1 h2))
        have b4 : w6.cell? ⟨X, on * 2 + 1, none⟩ = some v := by
          rw [HV.out]
          exact (World.cell?_of_block (a := ⟨X, on * 2 + 1, none⟩) (b0.trans B5.out.x.symm)).trans (B5.out.at_ on HON.out).2.1
        have b5 : w6.frozen? ⟨X, on * 2 + 1, none⟩ = false := blk_frozen b0 _
        clear b0 d1 d3
        go_wp2_with (fail)
        go_roundg kk
        case measure => omega
        case rel =>
          refine ⟨i + 1, upd P on ⟨(P on).g, .slice A' m' c', S', l'⟩, by simp, hlt, ⟨by have := HK.out; omega⟩, ⟨?_⟩⟩
          have hg2 : Fr (fun k => k = (P on).g) w5 w6 := by rw [← HG.out]; exact (Fr.refl (fun k => k = g) w5).drew.trans G2.out (fun i hi => .inl hi)
          exact HB.out.put on HON.out H3.out H1.out H2.out hg2 (by rw [← HG.out]; exact G1.out)
      have e0 : (kd == 0) = false := beq_eq_false_iff_ne.mpr k0
      clear k0
      by_cases k1 : kd = 1
      · have e1 : (kd == 1) = true := beq_iff_eq.mpr k1
        clear k1
        have CW : Aside0 (Calls Tryd.prog 19 #[v, .int .i64 A1] w3.drew (SetP (X + 1) w3.drew (hasB (P on).S A1) (del (P on).S A1))) := ⟨by
          rw [HV.out]
          exact without_calls (w := w3.drew) ((HB.out.li on HON.out).keep (w' := w3.drew) (fun _ _ _ _ => rfl)) (HB.out.rep on HON.out) (blk_lt HB.out.x) A1⟩
        obtain ⟨S', hS'⟩ : ∃ S', S' = del (P on).S A1 := ⟨_, rfl⟩
        obtain ⟨bb, hbb⟩ : ∃ b, b = (hasB (P on).S A1) := ⟨_, rfl⟩
        have CPm : Aside0 (∀ w, Bm w g (P on).S → Calls Tryd.prog 20 #[.pointer (some ⟨g, 0, none⟩), .int .i64 A1] w fun e w' => e = .returned (.bool bb) ∧ Bm w' g S' ∧ Fr (fun k => k = g) w w') := ⟨fun w hw => by rw [hbb, hS']; exact clear_any (P on).S hw A1⟩
        rw [← hS', ← hbb] at CW
        have ebb : (bb != bb) = false := bne_self_eq_false' (a := bb)
        clear hbb hS'
        go_wp2_with (fail)
        go_region_held3 (fun w' => w'.cell? ⟨ob, 3, none⟩ = some (.int .i64 A1) ∧ w'.cell? ⟨X, on * 2 + 1, none⟩ = some v) ((first | (exact ⟨o3, x1⟩) | (exact ⟨d1, d2⟩)))
          (first
            | (go_at_call 19; (with_reducible refine (CW.out).mono ?_); rintro e w5 ⟨v', l', rfl, h1, h2, _, h3⟩; have H1 := Aside0.mk h1; have H2 := Aside0.mk h2; have H3 : Aside0 (Below w3.heap.size w3 w5) := ⟨⟨h3.os, h3.tape, h3.output, h3.size, fun k hk => h3.block k hk⟩⟩; have d2 : w5.cell? ⟨X, on * 2 + 1, none⟩ = some v := (h3.cell (p := ⟨X, on * 2 + 1, none⟩) (blk_lt HB.out.x)).trans x1; have d1 : w5.cell? ⟨ob, 3, none⟩ = some (.int .i64 A1) := (h3.cell (p := ⟨ob, 3, none⟩) (blk_lt HO.out)).trans o3; clear h1 h2 h3))
        obtain ⟨A', c', hv'⟩ := H1.out.form
        obtain ⟨m', hm'⟩ : ∃ m', m' = l'.length := ⟨_, rfl⟩
        rw [← hm'] at hv'
        subst hv'
        clear hm'
        have B5 : Aside0 (Bx W X P w5) := ⟨HB.out.below H3.out⟩
        have d3 : w5.cell? ⟨X, on * 2, none⟩ = some (.pointer (some ⟨g, 0, none⟩)) := by rw [HG.out]; exact (B5.out.at_ on HON.out).1
        have CS : Aside0 (Calls Tryd.prog 20 #[.pointer (some ⟨g, 0, none⟩), .int .i64 A1] w5.drew fun e w' => e = .returned (.bool bb) ∧ Bm w' g S' ∧ Fr (fun k => k = g) w5.drew w') := ⟨CPm.out _ (by rw [HG.out]; exact (B5.out.m on HON.out).keep rfl)⟩
        clear d2
        go_wp2_with (fail)
        go_region_held3 (fun w' => w'.cell? ⟨ob, 3, none⟩ = some (.int .i64 A1) ∧ w'.cell? ⟨X, on * 2, none⟩ = some (.pointer (some ⟨g, 0, none⟩))) ((first | (exact ⟨d1, d3⟩) | (exact ⟨b1, b3⟩)))
          (first
            | (go_at_call 20; (with_reducible refine (CS.out).mono ?_); rintro e w6 ⟨rfl, h1, h2⟩; have G1 := Aside0.mk h1; have G2 := Aside0.mk h2; have b0 : w6.heap[X]? = some (.cells (six P) 49 (0, 0)) := h2.blk B5.out.x (fun e => (HB.out.gx on HON.out).2 (by rw [← HG.out]; exact e.symm)); have b3 : w6.cell? ⟨X, on * 2, none⟩ = some (.pointer (some ⟨g, 0, none⟩)) := (World.cell?_of_block (a := ⟨X, on * 2, none⟩) (b0.trans B5.out.x.symm)).trans d3; have b1 : w6.cell? ⟨ob, 3, none⟩ = some (.int .i64 A1) := (World.cell?_of_block (a := ⟨ob, 3, none⟩) (h2.block ob (cell_block d1) (fun e => by have := HOX.out.2 on HON.out; rw [← HG.out] at this; omega))).trans d1; clear h1 h2))
        have b4 : w6.cell? ⟨X, on * 2 + 1, none⟩ = some v := by
          rw [HV.out]
          exact (World.cell?_of_block (a := ⟨X, on * 2 + 1, none⟩) (b0.trans B5.out.x.symm)).trans (B5.out.at_ on HON.out).2.1
        have b5 : w6.frozen? ⟨X, on * 2 + 1, none⟩ = false := blk_frozen b0 _
        clear b0 d1 d3
        go_wp2_with (fail)
        go_roundg kk
        case measure => omega
        case rel =>
          refine ⟨i + 1, upd P on ⟨(P on).g, .slice A' m' c', S', l'⟩, by simp, hlt, ⟨by have := HK.out; omega⟩, ⟨?_⟩⟩
          have hg2 : Fr (fun k => k = (P on).g) w5 w6 := by rw [← HG.out]; exact (Fr.refl (fun k => k = g) w5).drew.trans G2.out (fun i hi => .inl hi)
          exact HB.out.put on HON.out H3.out H1.out H2.out hg2 (by rw [← HG.out]; exact G1.out)
      have e1 : (kd == 1) = false := beq_eq_false_iff_ne.mpr k1
      clear k1
      by_cases k11 : kd = 11
      · have e11 : (kd == 11) = true := beq_iff_eq.mpr k11
        clear k11
        obtain ⟨Aq, cq, hv2'⟩ := (HB.out.li oth HOTH.out).form
        rw [← HV2.out] at hv2'
        obtain ⟨mq, hmq⟩ : ∃ mq, mq = (P oth).l.length := ⟨_, rfl⟩
        rw [← hmq] at hv2'
        clear hmq
        rw [hv2'] at y1
        have HVQ := Aside0.mk hv2'
        clear hv2'
        have CC : Aside0 (Calls Tryd.prog 21 #[.pointer (some ⟨g2, 0, none⟩)] w3 fun e w' => e = .returned (.pointer (some ⟨w3.heap.size, 0, none⟩)) ∧ Bm w' w3.heap.size (P oth).S ∧ Below w3.heap.size w3 w') := ⟨clone_calls (by rw [HG2.out]; exact HB.out.m oth HOTH.out)⟩
        go_wp2_with (first
          | ((with_reducible refine gate_callee (f := 21) rfl ?_); (try (refine gate_guard (by rfl) ?_; dsimp only)); refine goesL_ (some 105) rfl rfl Tryd.func21 (by kernel_rfl) rfl #[.pointer (some ⟨g2, 0, none⟩)] rfl (by (try simp only [List.map_toArray, List.map_cons, List.map_nil]); first | done | rfl) ?_; (with_reducible refine (CC.out).mono ?_); rintro e w5 ⟨rfl, h1, h2⟩; refine ⟨_, rfl, ?_⟩; have A1' := Aside0.mk h1; have A2 := Aside0.mk h2; (have B5 : Aside0 (Bx W X P w5) := ⟨HB.out.below h2⟩); (have y1' : w5.cell? ⟨X, oth * 2 + 1, none⟩ = some (.slice Aq mq cq) := (h2.cell (p := ⟨X, oth * 2 + 1, none⟩) (blk_lt HB.out.x)).trans y1); (have z0 : w5.cell? ⟨X, on * 2, none⟩ = some (.pointer (some ⟨g, 0, none⟩)) := (h2.cell (p := ⟨X, on * 2, none⟩) (blk_lt HB.out.x)).trans x0); (have z1 : w5.cell? ⟨X, on * 2 + 1, none⟩ = some v := (h2.cell (p := ⟨X, on * 2 + 1, none⟩) (blk_lt HB.out.x)).trans x1); (have zf0 : w5.frozen? ⟨X, on * 2, none⟩ = false := blk_frozen B5.out.x _); (have zf1 : w5.frozen? ⟨X, on * 2 + 1, none⟩ = false := blk_frozen B5.out.x _); clear h1 h2))
        have hv2' := HVQ.out
        go_roundg kk
        case measure => omega
        case rel =>
          refine ⟨i + 1, upd P on ⟨w3.heap.size, (P oth).v, (P oth).S, (P oth).l⟩, by simp, hlt, ⟨by have := HK.out; omega⟩, ⟨?_⟩⟩
          have := HB.out.copy on oth HON.out HOTH.out A2.out A1'.out (Nat.le_refl _)
          rw [← HV2.out, hv2'] at this
          rw [← HV2.out, hv2']
          exact this
      have e11 : (kd == 11) = false := beq_eq_false_iff_ne.mpr k11
      clear k11
      by_cases k12 : kd = 12
      · have e12 : (kd == 12) = true := beq_iff_eq.mpr k12
        clear k12
        obtain ⟨Aq, cq, hv2'⟩ := (HB.out.li oth HOTH.out).form
        rw [← HV2.out] at hv2'
        obtain ⟨mq, hmq⟩ : ∃ mq, mq = (P oth).l.length := ⟨_, rfl⟩
        rw [← hmq] at hv2'
        clear hmq
        rw [hv2'] at y1
        have HVQ := Aside0.mk hv2'
        clear hv2'
        have HM2 : Aside0 (Bm w3 g2 (P oth).S) := ⟨by rw [HG2.out]; exact HB.out.m oth HOTH.out⟩
        have K1 : Aside0 (Bm (w3.alloc (.cells Z 37)) w3.heap.size E0) := ⟨by rw [HZ.out]; exact heap_alloc_new w3 _⟩
        have K2 : Aside0 (Below w3.heap.size w3 (w3.alloc (.cells Z 37))) := ⟨(Below.refl _ w3).alloc (Nat.le_refl _) _⟩
        go_wp2_with (first
          | ((with_reducible refine gate_ (.load 37 (.tmp 122)) rfl ?_); refine wpList_load37 rfl (.tmp 122) rfl g2 (P oth).S rfl HM2.out ?_; intro XX hXX; have HXX := Aside0.mk hXX; clear hXX)
          | ((with_reducible refine gate_ (.store 37 (.tmp 13) (.tmp 123)) rfl ?_); refine wpList_store37 rfl (.tmp 13) (.tmp 123) rfl rfl w3.heap.size (P oth).S E0 XX rfl rfl HXX.out K1.out ?_; intro w5 h4 f4; have A1' := Aside0.mk h4; have A2 : Aside0 (Below w3.heap.size w3 w5) := ⟨K2.out.trans ⟨f4.os, f4.tape, f4.output, f4.size, fun k hk => f4.block k (by rw [World.size_alloc]; omega) (by omega)⟩⟩; (have B5 : Aside0 (Bx W X P w5) := ⟨HB.out.below A2.out⟩); (have y1' : w5.cell? ⟨X, oth * 2 + 1, none⟩ = some (.slice Aq mq cq) := (A2.out.cell (p := ⟨X, oth * 2 + 1, none⟩) (blk_lt HB.out.x)).trans y1); (have z0 : w5.cell? ⟨X, on * 2, none⟩ = some (.pointer (some ⟨g, 0, none⟩)) := (A2.out.cell (p := ⟨X, on * 2, none⟩) (blk_lt HB.out.x)).trans x0); (have z1 : w5.cell? ⟨X, on * 2 + 1, none⟩ = some v := (A2.out.cell (p := ⟨X, on * 2 + 1, none⟩) (blk_lt HB.out.x)).trans x1); (have zf0 : w5.frozen? ⟨X, on * 2, none⟩ = false := blk_frozen B5.out.x _); (have zf1 : w5.frozen? ⟨X, on * 2 + 1, none⟩ = false := blk_frozen B5.out.x _); clear h4 f4))
        have hv2' := HVQ.out
        go_roundg kk
        case measure => omega
        case rel =>
          refine ⟨i + 1, upd P on ⟨w3.heap.size, (P oth).v, (P oth).S, (P oth).l⟩, by simp, hlt, ⟨by have := HK.out; omega⟩, ⟨?_⟩⟩
          have := HB.out.copy on oth HON.out HOTH.out A2.out A1'.out (Nat.le_refl _)
          rw [← HV2.out, hv2'] at this
          rw [← HV2.out, hv2']
          exact this
      have e12 : (kd == 12) = false := beq_eq_false_iff_ne.mpr k12
      clear k12
      by_cases k13 : kd = 13
      · have e13 : (kd == 13) = true := beq_iff_eq.mpr k13
        clear k13
        obtain ⟨bb, hbb⟩ : ∃ b, b = eqB (P on).S (P oth).S := ⟨_, rfl⟩
        have CE : Aside0 (∀ n, Calls Tryd.prog 22 #[.pointer (some ⟨g, 0, none⟩), .pointer (some ⟨g2, 0, none⟩)] (w3.drewN n) fun e w' => e = .returned (.bool bb) ∧ ∃ m, w' = (w3.drewN n).drewN m) := ⟨fun n => by
          rw [hbb, HG.out, HG2.out]
          exact equal_calls ((HB.out.m on HON.out).drewN n) ((HB.out.m oth HOTH.out).drewN n)⟩
        have CSm : Aside0 (∀ n, Calls Tryd.prog 23 #[v, v2] (w3.drewN n) fun e w' => e = .returned (.bool bb) ∧ ∃ m, w' = (w3.drewN n).drewN m) := ⟨fun n => by
          rw [hbb, HV.out, HV2.out, eqB_rep (HB.out.rep on HON.out) (HB.out.rep oth HOTH.out)]
          obtain ⟨k, hk⟩ := (same_ev (HB.out.rep on HON.out) (HB.out.rep oth HOTH.out)).rounds
          have l1 : Li (w3.drewN n) (X + 1) (P on).v (P on).l := (HB.out.li on HON.out).keep (fun _ _ _ _ => rfl)
          have l2 : Li (w3.drewN n) (X + 1) (P oth).v (P oth).l := (HB.out.li oth HOTH.out).keep (fun _ _ _ _ => rfl)
          obtain ⟨a1, q1, f1⟩ := l1.form
          obtain ⟨a2, q2, f2⟩ := l2.form
          rw [f1] at l1 ⊢
          rw [f2] at l2 ⊢
          obtain ⟨_, r1, s1⟩ := li_reads l1
          obtain ⟨_, r2, s2⟩ := li_reads l2
          exact (bourselaw06_same.calls k a1 q1 _ a2 q2 _ _ _ s1 r1 s2 r2 hk).mono fun e w' ⟨he, ⟨hd⟩⟩ => ⟨he, hd⟩⟩
        have ebb : (bb != bb) = false := bne_self_eq_false' (a := bb)
        clear hbb
        go_wp2_with (fail)
        go_quiet ((first
          | (go_at_call 22; exact Calls.quiet_of (CE.out _))
          | (go_at_call 23; exact Calls.quiet_of (CSm.out _))))
        go_wp2_with (fail)
        go_roundg kk
        case measure => omega
        case rel => exact ⟨i + 1, P, by simp, hlt, ⟨by have := HK.out; omega⟩, ⟨HB.out.below (pw_below_drewN (Below.refl _ _) _)⟩⟩
      have e13 : (kd == 13) = false := beq_eq_false_iff_ne.mpr k13
      clear k13
      have CAk : Aside0 (Calls Tryd.prog 16 #[.agg #[.pointer (some ⟨g, 0, none⟩), v], .agg #[.int .i64 kd, .int .i64 on', .int .i64 oth', .int .i64 A1, .int .i64 B1]] w3.drew fun e W' => e = .returned (.bool true) ∧ Bm W' g (P on).S ∧ Fr (fun i => i = g) w3.drew W') := ⟨by
        rw [HG.out, HV.out]
        exact ask_calls _ _ _ _ _ HAA.out ((HB.out.m on HON.out).keep rfl) (T3.out.keep rfl) ((HB.out.li on HON.out).keep (fun _ _ _ _ => rfl)) (HB.out.rep on HON.out)⟩
      go_wp2_with (fail)
      go_region_held3 (fun w' => (w'.cell? ⟨ob, 0, none⟩ = some (.int .i64 kd) ∧ w'.cell? ⟨ob, 1, none⟩ = some (.int .i64 on') ∧ w'.cell? ⟨ob, 2, none⟩ = some (.int .i64 oth') ∧ w'.cell? ⟨ob, 3, none⟩ = some (.int .i64 A1) ∧ w'.cell? ⟨ob, 4, none⟩ = some (.int .i64 B1)) ∧ w'.cell? ⟨X, on * 2, none⟩ = some (.pointer (some ⟨g, 0, none⟩)) ∧ w'.cell? ⟨X, on * 2 + 1, none⟩ = some v) ((first | (exact ⟨⟨o0, o1, o2, o3, o4⟩, x0, x1⟩) | (exact HS5.out)))
        (first
          | (go_at_call 16; (with_reducible refine (CAk.out).mono ?_); rintro e w5 ⟨rfl, h1, h2⟩; have G1 := Aside0.mk h1; have G2 := Aside0.mk h2; have B5 : Aside0 (Bx W X P w5) := ⟨HB.out.ask on HON.out (by rw [← HG.out]; exact (Fr.refl (fun k => k = g) w3).drew.trans h2 (fun i hi => .inl hi)) (by rw [← HG.out]; exact h1)⟩; have O5 : w5.heap[ob]? = some (.cells #[.int .i64 kd, .int .i64 on', .int .i64 oth', .int .i64 A1, .int .i64 B1] 45 (0, 0)) := h2.blk HO.out (fun e => by have := HOX.out.2 on HON.out; rw [← HG.out] at this; omega); have HS5 := Aside0.mk (And.intro (And.intro ((blk_cell O5 0).trans rfl : w5.cell? ⟨ob, 0, none⟩ = some (.int .i64 kd)) (And.intro ((blk_cell O5 1).trans rfl : w5.cell? ⟨ob, 1, none⟩ = some (.int .i64 on')) (And.intro ((blk_cell O5 2).trans rfl : w5.cell? ⟨ob, 2, none⟩ = some (.int .i64 oth')) (And.intro ((blk_cell O5 3).trans rfl : w5.cell? ⟨ob, 3, none⟩ = some (.int .i64 A1)) ((blk_cell O5 4).trans rfl : w5.cell? ⟨ob, 4, none⟩ = some (.int .i64 B1)))))) (And.intro (by rw [HG.out]; exact (B5.out.at_ on HON.out).1 : w5.cell? ⟨X, on * 2, none⟩ = some (.pointer (some ⟨g, 0, none⟩))) (by rw [HV.out]; exact (B5.out.at_ on HON.out).2.1 : w5.cell? ⟨X, on * 2 + 1, none⟩ = some v))); clear h1 h2 O5))
      go_wp2_with (fail)
      go_roundg kk
      case measure => omega
      case rel => exact ⟨i + 1, P, by simp, hlt, ⟨by have := HK.out; omega⟩, B5⟩
    · obtain rfl : i = n := by omega
      clear HK
      have hb4 : Below wr.heap.size wr (wr.alloc (.cells Z 37)) := (Below.refl _ wr).alloc (Nat.le_refl _) _
      obtain ⟨gl, hgl⟩ : ∃ gl, gl = wr.heap.size := ⟨_, rfl⟩
      obtain ⟨w4, hw4⟩ : ∃ w4, w4 = wr.alloc (.cells Z 37) := ⟨_, rfl⟩
      rw [← hw4] at hb4
      have HB : Aside0 (Bx W X P w4) := ⟨HN.out.below hb4⟩
      have HLm : Aside0 (Bm w4 gl E0) := ⟨by rw [hw4, hgl, HZ.out]; exact heap_alloc_new wr _⟩
      have HLg : Aside0 (W.heap.size ≤ gl ∧ gl < w4.heap.size ∧ ∀ j, j < 3 → (P j).g ≠ gl) := ⟨by
        rw [hgl]
        exact ⟨HN.out.bel.size, by rw [hw4, World.size_alloc]; omega, fun j hj => by have := (HN.out.m j hj).lt; omega⟩⟩
      have ALK : Aside0 (∀ (w : World) (j : Nat), j < 3 → Bx W X P w → Bm w gl E0 → Calls Tryd.prog 17 #[.agg #[.pointer (some ⟨(P j).g, 0, none⟩), (P j).v]] w fun e w' => e = .returned (.bool true) ∧ Bx W X P w' ∧ Bm w' gl E0) := ⟨fun w j hj hb hm => by
        refine (alike_calls (hb.m j hj) (HTW.out.below hb.bel HTW.out.lt) (hb.li j hj) (hb.rep j hj)).mono ?_
        rintro e w' ⟨rfl, h1, h2⟩
        exact ⟨rfl, hb.ask j hj h2 h1, hm.fr h2 (fun e => HLg.out.2.2 j hj e.symm)⟩⟩
      obtain ⟨q0, hq0⟩ : ∃ q, q = (P 0).g := ⟨_, rfl⟩
      obtain ⟨q1, hq1⟩ : ∃ q, q = (P 1).g := ⟨_, rfl⟩
      obtain ⟨q2, hq2⟩ : ∃ q, q = (P 2).g := ⟨_, rfl⟩
      obtain ⟨r0, hr0⟩ : ∃ r, r = (P 0).v := ⟨_, rfl⟩
      obtain ⟨r1, hr1⟩ : ∃ r, r = (P 1).v := ⟨_, rfl⟩
      obtain ⟨r2, hr2⟩ : ∃ r, r = (P 2).v := ⟨_, rfl⟩
      have CEL : Aside0 (∀ w, Bx W X P w → (w.cell? ⟨X, 0, none⟩ = some (.pointer (some ⟨q0, 0, none⟩)) ∧ w.cell? ⟨X, 1, none⟩ = some r0) ∧ (w.cell? ⟨X, 2, none⟩ = some (.pointer (some ⟨q1, 0, none⟩)) ∧ w.cell? ⟨X, 3, none⟩ = some r1) ∧ (w.cell? ⟨X, 4, none⟩ = some (.pointer (some ⟨q2, 0, none⟩)) ∧ w.cell? ⟨X, 5, none⟩ = some r2)) := ⟨fun w hb => by
        rw [hq0, hq1, hq2, hr0, hr1, hr2]
        exact ⟨⟨(hb.at_ 0 (by decide)).1, (hb.at_ 0 (by decide)).2.1⟩, ⟨(hb.at_ 1 (by decide)).1, (hb.at_ 1 (by decide)).2.1⟩, ⟨(hb.at_ 2 (by decide)).1, (hb.at_ 2 (by decide)).2.1⟩⟩⟩
      have AL0 := Aside0.mk (fun w => ALK.out w 0 (by decide))
      have AL1 := Aside0.mk (fun w => ALK.out w 1 (by decide))
      have AL2 := Aside0.mk (fun w => ALK.out w 2 (by decide))
      rw [← hq0, ← hr0] at AL0
      rw [← hq1, ← hr1] at AL1
      rw [← hq2, ← hr2] at AL2
      have SET : Aside0 (∀ w, Bx W X P w → Bm w gl E0 → Calls Tryd.prog 15 #[.pointer (some ⟨gl, 0, none⟩), .int .i64 70] w fun e w' => e = .returned (.bool true) ∧ Bm w' gl (put E0 70) ∧ Below W.heap.size W w') := ⟨fun w hb hm => by
        refine (set_any E0 hm 70).mono ?_
        rintro e w' ⟨rfl, h1, h2⟩
        exact ⟨rfl, h1, Fr.onto hb.bel h2 (fun i hi => by have := HLg.out.1; omega)⟩⟩
      have TOP : Aside0 (∀ w, Bm w gl (put E0 70) → Calls Tryd.prog 24 #[.pointer (some ⟨gl, 0, none⟩)] w fun e w' => e = .returned (.int .u64 1) ∧ w' = w) := ⟨fun w hm => by have := top_calls hm; rw [top70] at this; exact this⟩
      have LOW : Aside0 (∀ w, Bm w gl (put E0 70) → Calls Tryd.prog 25 #[.pointer (some ⟨gl, 0, none⟩), .int .i64 1] w fun e w' => e = .returned (.int .u64 64) ∧ w' = w) := ⟨fun w hm => by have := low_in hm 1 (by decide); rw [low70] at this; exact this⟩
      obtain ⟨⟨z0, z1⟩, _⟩ := CEL.out _ HB.out
      clear hq0 hq1 hq2 hr0 hr1 hr2 hb4 HN ALK
      go_upto_region 32 with (fail)
      rw [← hw4, ← hgl]
      clear hw4 hgl
      go_wp2_with (first
        | ((with_reducible refine gate_callee (f := 17) rfl ?_); (try (refine gate_guard (by rfl) ?_; dsimp only)); refine goesL_ (some 156) rfl rfl Tryd.func17 (by kernel_rfl) rfl #[.agg #[.pointer (some ⟨q0, 0, none⟩), r0]] rfl (by (try simp only [List.map_toArray, List.map_cons, List.map_nil]); first | done | rfl) ?_; (with_reducible refine (AL0.out _ HB.out HLm.out).mono ?_); rintro e w5 ⟨rfl, h1, h2⟩; refine ⟨_, rfl, ?_⟩; have B5 := Aside0.mk h1; have L5 := Aside0.mk h2; obtain ⟨_, ⟨z2, z3⟩, _⟩ := CEL.out _ h1; clear h1 h2)
        | ((with_reducible refine gate_callee (f := 17) rfl ?_); (try (refine gate_guard (by rfl) ?_; dsimp only)); refine goesL_ (some 160) rfl rfl Tryd.func17 (by kernel_rfl) rfl #[.agg #[.pointer (some ⟨q1, 0, none⟩), r1]] rfl (by (try simp only [List.map_toArray, List.map_cons, List.map_nil]); first | done | rfl) ?_; (with_reducible refine (AL1.out _ B5.out L5.out).mono ?_); rintro e w6 ⟨rfl, h1, h2⟩; refine ⟨_, rfl, ?_⟩; have B6 := Aside0.mk h1; have L6 := Aside0.mk h2; obtain ⟨_, _, ⟨z4, z5⟩⟩ := CEL.out _ h1; clear h1 h2)
        | ((with_reducible refine gate_callee (f := 17) rfl ?_); (try (refine gate_guard (by rfl) ?_; dsimp only)); refine goesL_ (some 165) rfl rfl Tryd.func17 (by kernel_rfl) rfl #[.agg #[.pointer (some ⟨q2, 0, none⟩), r2]] rfl (by (try simp only [List.map_toArray, List.map_cons, List.map_nil]); first | done | rfl) ?_; (with_reducible refine (AL2.out _ B6.out L6.out).mono ?_); rintro e w7 ⟨rfl, h1, h2⟩; refine ⟨_, rfl, ?_⟩; have B7 := Aside0.mk h1; have L7 := Aside0.mk h2; clear h1 h2)
        | ((with_reducible refine gate_callee (f := 15) rfl ?_); (try (refine gate_guard (by rfl) ?_; dsimp only)); refine goesL_ (some 169) rfl rfl Tryd.func15 (by kernel_rfl) rfl #[.pointer (some ⟨gl, 0, none⟩), .int .i64 70] rfl (by (try simp only [List.map_toArray, List.map_cons, List.map_nil]); first | done | rfl) ?_; (with_reducible refine (SET.out _ B7.out L7.out).mono ?_); rintro e w8 ⟨rfl, h1, h2⟩; refine ⟨_, rfl, ?_⟩; have L8 := Aside0.mk h1; have B8 := Aside0.mk h2; clear h1 h2)
        | ((with_reducible refine gate_callee (f := 24) rfl ?_); (try (refine gate_guard (by rfl) ?_; dsimp only)); refine goesL_ (some 173) rfl rfl Tryd.func24 (by kernel_rfl) rfl #[.pointer (some ⟨gl, 0, none⟩)] rfl (by (try simp only [List.map_toArray, List.map_cons, List.map_nil]); first | done | rfl) ?_; (with_reducible refine (TOP.out _ L8.out).mono ?_); rintro e w9 ⟨rfl, rfl⟩; refine ⟨_, rfl, ?_⟩; skip)
        | ((with_reducible refine gate_callee (f := 25) rfl ?_); (try (refine gate_guard (by rfl) ?_; dsimp only)); refine goesL_ (some 178) rfl rfl Tryd.func25 (by kernel_rfl) rfl #[.pointer (some ⟨gl, 0, none⟩), .int .i64 1] rfl (by (try simp only [List.map_toArray, List.map_cons, List.map_nil]); first | done | rfl) ?_; (with_reducible refine (LOW.out _ L8.out).mono ?_); rintro e w9 ⟨rfl, rfl⟩; refine ⟨_, rfl, ?_⟩; skip))
      go_ret
      exact ⟨rfl, B8.out⟩
end Go.Proofs.YtgcelkndgjjbdaaDoor.PBm
