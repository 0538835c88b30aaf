/- MonMa, struck of what this claim does not name (wip/tools/pack2.py). -/
import Derived.Test.YthmjmkbahneneaaZa51
section
namespace Go.Proofs.Ythmjmkbahneneaa.PMon
open Go.RowKit Go.Proofs.Ythmjmkbahneneaa.PBig Go.Proofs.YthmjmkbahneneaaW.PrintWords Go.Proofs.YthmjmkbahneneaaW.PrintLast Go.Proofs.YthmjmkbahneneaaW.PrintMore
set_option linter.unusedVariables false
set_option linter.unusedSimpArgs false

def OpAt (w : World) (ab ao : Nat) (i : Nat) : Prop := ∃ (kd i1 i2 i3 cn x0 x1 px py rd : Int) (S : ByteArray), (-9223372036854775808 ≤ cn ∧ cn ≤ 9223372036854775807) ∧ (0 ≤ x0 ∧ x0 < 18446744073709551616) ∧ (0 ≤ x1 ∧ x1 < 18446744073709551616) ∧ (0 ≤ px ∧ px < 4294967296) ∧ (0 ≤ py ∧ py < 4294967296) ∧ S.data.toList.length ≤ 9223372036854775807 ∧
  ∀ j v, (#[.int .i64 kd, .int .i64 i1, .int .i64 i2, .int .i64 i3, .int .i64 cn, .int .u64 x0, .int .u64 x1, .string S, .int .u32 px, .int .u32 py, .int .i64 rd] : Array Value)[j]? = some v → w.cell? ⟨ab, ao + i * 11 + j, none⟩ = some v
theorem OpAt.below {w w' : World} {ab ao : Nat} {i : Nat} (h : OpAt w ab ao i) (hb : Below w.heap.size w w') : OpAt w' ab ao i := by
  obtain ⟨kd, i1, i2, i3, cn, x0, x1, px, py, rd, S, a, b, c, d, e, f, k⟩ := h
  exact ⟨kd, i1, i2, i3, cn, x0, x1, px, py, rd, S, a, b, c, d, e, f, fun j v hj => pw_cell_below hb (k j v hj)⟩
def AllW (w : World) (g : Nat) (w' : World) : Prop := Below w.heap.size w w' ∧ w.heap.size ≤ g ∧ ∃ v, (∀ i, Small (v i)) ∧ MW w' g v
theorem upd_small {v : Nat → Int} {t : Nat} {y : Int} (h : ∀ i, Small (v i)) (hy : Small y) : ∀ i, Small (upd v t y i) := by
  intro i
  unfold upd
  split
  · exact hy
  · exact h i
theorem MW.zero (w : World) : MW (w.alloc (.cells #[.int .u64 0, .int .u64 0, .bool false, .int .u64 0, .int .u64 0, .bool false, .int .u64 0, .int .u64 0, .bool false, .int .u64 0, .int .u64 0, .bool false, .bool false, .slice none 0 0, .bool false, .slice none 0 0, .bool false, .slice none 0 0, .bool false, .slice none 0 0] 65)) w.heap.size (fun _ => 0) := by
  refine ⟨_, World.alloc_heap_new _ _, rfl, fun i hi => ?_⟩
  have h0 : Rm (w.alloc (.cells #[.int .u64 0, .int .u64 0, .bool false, .int .u64 0, .int .u64 0, .bool false, .int .u64 0, .int .u64 0, .bool false, .int .u64 0, .int .u64 0, .bool false, .bool false, .slice none 0 0, .bool false, .slice none 0 0, .bool false, .slice none 0 0, .bool false, .slice none 0 0] 65)) (.agg #[.bool (mnM 0), .slice none (D (0 : Int).natAbs).length 0]) 0 := by
    have := Rm.zero (w.alloc (.cells #[.int .u64 0, .int .u64 0, .bool false, .int .u64 0, .int .u64 0, .bool false, .int .u64 0, .int .u64 0, .bool false, .int .u64 0, .int .u64 0, .bool false, .bool false, .slice none 0 0, .bool false, .slice none 0 0, .bool false, .slice none 0 0, .bool false, .slice none 0 0] 65))
    rw [show (0 : Int).natAbs = 0 from rfl, D_zero]
    exact this
  obtain rfl | rfl | rfl | rfl : i = 0 ∨ i = 1 ∨ i = 2 ∨ i = 3 := by omega
  all_goals (refine ⟨rfl, rfl, rfl, none, 0, rfl, ?_, h0⟩; rw [show (0 : Int).natAbs = 0 from rfl, D_zero]; rfl)
theorem text_m5 : text (-5) = [45, 48, 46, 48, 53] := by
  unfold text back
  rw [show (-5 : Int).natAbs = 5 from rfl, if_pos (by decide)]
  unfold rem
  simp [tl, lds_pos, lds_zero, dg]
theorem text_0 : text 0 = [48, 46, 48, 48] := by
  unfold text back
  rw [show (0 : Int).natAbs = 0 from rfl, if_neg (by decide)]
  unfold rem
  simp [tl, lds_pos, lds_zero, dg]

set_option maxHeartbeats 64000000 in
set_option maxRecDepth 100000 in
theorem all_walk (A : Option Addr) (m c : Nat) (w : World) (hm : m ≤ 9223372036854775807) (HO : Aside0 (0 < m → ∃ ab ao, A = some ⟨ab, ao, none⟩ ∧ ∀ i, i < m → OpAt w ab ao i)) :
    Calls Try.prog 10 #[.slice A m c] w fun e w' => e = .returned (.bool true) ∧ Below w.heap.size w w' := by
  have HMM := Aside0.mk hm
  clear hm
  go_enter Try.func10, Try.ntmps10
  go_upto_region 2 with (fail)
  obtain ⟨W1, hW⟩ : ∃ W, W = w.alloc (.cells #[.int .u64 0, .int .u64 0, .bool false, .int .u64 0, .int .u64 0, .bool false, .int .u64 0, .int .u64 0, .bool false, .int .u64 0, .int .u64 0, .bool false, .bool false, .slice none 0 0, .bool false, .slice none 0 0, .bool false, .slice none 0 0, .bool false, .slice none 0 0] 65) := ⟨_, rfl⟩
  obtain ⟨g, hg⟩ : ∃ g, g = w.heap.size := ⟨_, rfl⟩
  have HA : Aside0 (AllW w g W1) := ⟨⟨by rw [hW]; exact (Below.refl _ _).alloc (Nat.le_refl _) _, by rw [hg]; exact Nat.le_refl _, fun _ => 0, fun _ => (show (0 : Int).natAbs < 170141183460469231731687303715884105728 by decide), by rw [hW, hg]; exact MW.zero w⟩⟩
  rw [← hW, ← hg]
  clear hW hg
  go_wp2_with (fail)
  go_loopg [4] m (fun kq v4 w' => ∃ i : Nat, v4 = .int .i64 (i : Int) ∧ Aside0 (kq + i = m) ∧ Aside0 (AllW w g w'))
  case atStart => exact ⟨0, rfl, ⟨rfl⟩, HA⟩
  case round =>
    clear HA
    obtain ⟨i, rfl, HI, HA⟩ := hrel
    by_cases hi : i < m
    · have hiI : (i : Int) < (m : Int) := by omega
      have hi0 : (0 : Int) ≤ (i : Int) := by omega
      obtain ⟨ab, ao, hA, hop⟩ := HO.out (by omega)
      subst hA
      have HAB : Aside0 (ab < w.heap.size) := ⟨by
        obtain ⟨kd, i1, i2, i3, cn, x0, x1, px, py, rd, S, _, _, _, _, _, _, hc⟩ := hop i hi
        exact World.block_lt_of_cell? w _ (hc 0 _ rfl)⟩
      have hop := (hop i hi).below HA.out.1
      obtain ⟨kd, i1, i2, i3, cn, x0, x1, px, py, rd, S, b1, b2, b3, b4, b5, b6, hcell⟩ := hop
      obtain ⟨v, hv, hmw⟩ := HA.out.2.2
      obtain ⟨t, ht, et⟩ := at_any i1
      obtain ⟨a, ha, ea⟩ := at_any i2
      obtain ⟨b, hb, eb⟩ := at_any i3
      have HST := Aside0.mk (step_walk g kd i1 i2 i3 cn x0 x1 px py rd S t a b v wr ht ha hb hv b1 b2 b3 b4 b5 b6 hmw ⟨fun W => at_calls i1 t et W⟩ ⟨fun W => at_calls i2 a ea W⟩ ⟨fun W => at_calls i3 b eb W⟩)
      have HAT := Aside0.mk (And.intro (fun W => at_calls i1 t et W) (fun W => at_calls i3 b eb W))
      have HV := Aside0.mk hv
      have HTB := Aside0.mk (And.intro ht hb)
      have HCELL := Aside0.mk hcell
      have hw : IntKind.i64.wrap ((i : Int) + 1) = ((i + 1 : Nat) : Int) := by rw [IntWalk.i64_in _ (by have := HMM.out; omega)]; rfl
      have HI2 : Aside0 (gk - 1 + (i + 1) = m ∧ gk - 1 < gk) := ⟨by have := HI.out; omega⟩
      clear b1 b2 b3 b4 b5 b6 hv hmw ht ha hb et ea eb hcell hi
      have c0 : wr.cell? ⟨ab, ao + i * 11, none⟩ = some (.int .i64 kd) := HCELL.out 0 _ rfl
      have c1 : wr.cell? ⟨ab, ao + i * 11 + 1, none⟩ = some (.int .i64 i1) := HCELL.out 1 _ rfl
      have c2 : wr.cell? ⟨ab, ao + i * 11 + 2, none⟩ = some (.int .i64 i2) := HCELL.out 2 _ rfl
      have c3 : wr.cell? ⟨ab, ao + i * 11 + 3, none⟩ = some (.int .i64 i3) := HCELL.out 3 _ rfl
      have c4 : wr.cell? ⟨ab, ao + i * 11 + 4, none⟩ = some (.int .i64 cn) := HCELL.out 4 _ rfl
      have c5 : wr.cell? ⟨ab, ao + i * 11 + 5, none⟩ = some (.int .u64 x0) := HCELL.out 5 _ rfl
      have c6 : wr.cell? ⟨ab, ao + i * 11 + 6, none⟩ = some (.int .u64 x1) := HCELL.out 6 _ rfl
      have c7 : wr.cell? ⟨ab, ao + i * 11 + 7, none⟩ = some (.string S) := HCELL.out 7 _ rfl
      have c8 : wr.cell? ⟨ab, ao + i * 11 + 8, none⟩ = some (.int .u32 px) := HCELL.out 8 _ rfl
      have c9 : wr.cell? ⟨ab, ao + i * 11 + 9, none⟩ = some (.int .u32 py) := HCELL.out 9 _ rfl
      have c10 : wr.cell? ⟨ab, ao + i * 11 + 10, none⟩ = some (.int .i64 rd) := HCELL.out 10 _ rfl
      go_upto_region 7 with (first
        | ((with_reducible refine gate_callee (f := 38) rfl ?_); (try (refine gate_guard (by rfl) ?_; dsimp only)); refine goesL_ (some 22) rfl rfl Try.func38 (by kernel_rfl) rfl #[.pointer (some ⟨g, 0, none⟩), .agg #[.int .i64 kd, .int .i64 i1, .int .i64 i2, .int .i64 i3, .int .i64 cn, .int .u64 x0, .int .u64 x1, .string S, .int .u32 px, .int .u32 py, .int .i64 rd]] rfl (by (try simp only [List.map_toArray, List.map_cons, List.map_nil]); first | done | rfl) ?_; (with_reducible refine (HST.out).mono ?_); rintro e w5 ⟨rfl, hq, _, hk⟩; refine ⟨_, rfl, ?_⟩; obtain ⟨y, hy, hmw⟩ := hq; have HMW := Aside0.mk hmw; have HSY := Aside0.mk hy; have HK := Aside0.mk hk; clear hmw hy hk))
      obtain ⟨v2, hv2⟩ : ∃ v2, v2 = upd v t y := ⟨_, rfl⟩
      have HV2 : Aside0 (∀ i, Small (v2 i)) := ⟨by rw [hv2]; exact upd_small HV.out HSY.out⟩
      rw [← hv2] at HMW
      have HB5 : Aside0 (Below w.heap.size w w5) := ⟨HA.out.1.trans (HK.out.mono HA.out.2.1)⟩
      have HC5 : Aside0 (w5.cell? ⟨ab, ao + i * 11 + 1, none⟩ = some (.int .i64 i1) ∧ w5.cell? ⟨ab, ao + i * 11 + 3, none⟩ = some (.int .i64 i3)) := ⟨by
        have hb0 : ab < w.heap.size := HAB.out
        have e1 := HCELL.out 1 _ rfl
        have e3 := HCELL.out 3 _ rfl
        have k : ∀ j, w5.cell? ⟨ab, j, none⟩ = wr.cell? ⟨ab, j, none⟩ := fun j => (HB5.out.cell (p := ⟨ab, j, none⟩) hb0).trans (HA.out.1.cell (p := ⟨ab, j, none⟩) hb0).symm
        exact ⟨(k _).trans e1, (k _).trans e3⟩⟩
      clear hv2 HV HSY HK HST c0 c1 c2 c3 c4 c5 c6 c7 c8 c9 c10
      have HSM5 := HV2
      obtain ⟨u0, u1, u2_, Et, Ft, u3, u4, hrt⟩ := HMW.out.cells t HTB.out.1
      have HCt := Aside0.mk (And.intro u0 (And.intro u1 (And.intro u2_ (And.intro u3 u4))))
      have HRt := Aside0.mk hrt
      clear u0 u1 u2_ u3 u4 hrt
      obtain ⟨u0, u1, u2_, Eb, Fb, u3, u4, hrb⟩ := HMW.out.cells b HTB.out.2
      have HCb := Aside0.mk (And.intro u0 (And.intro u1 (And.intro u2_ (And.intro u3 u4))))
      have HRb := Aside0.mk hrb
      clear u0 u1 u2_ u3 u4 hrb
      have hg5 : g < w5.heap.size := by obtain ⟨cs, h1, _⟩ := HMW.out; exact blk_lt h1
      have HBw5 : Aside0 (Bx w5 w5 []) := ⟨Bx.refl w5⟩
      obtain ⟨N, fw, hf0, hfs, hfc⟩ := calm_class (fun W => Bx w5 W []) w5 HBw5.out.drew (fun W w' h hb => h.below hb)
      have hne : Nonempty N := ⟨hf0.choose⟩
      have HFC := Aside0.mk hfc
      have HFS := Aside0.mk hfs
      have c1 : ∀ n, (fw n).cell? ⟨ab, ao + i * 11 + 1, none⟩ = some (.int .i64 i1) := fun n => pw_cell_below (hfs n).bel (HC5.out.1)
      have c3 : ∀ n, (fw n).cell? ⟨ab, ao + i * 11 + 3, none⟩ = some (.int .i64 i3) := fun n => pw_cell_below (hfs n).bel (HC5.out.2)
      clear hfs hfc
      refine wp_region_calm fw (by kernel_rfl) (by kernel_rfl) hf0 ?_
      repeat (go_big_quiet_step ((first
        | (go_at_call 39; with_reducible exact Calls.calm HFC (HAT.out.1 _))
        | (go_at_call 39; with_reducible exact Calls.calm HFC (HAT.out.2 _)))))
      refine wpQuiet_nil ?_
      intro _ hw'
      obtain ⟨nq, hw''⟩ := hw'
      subst hw''
      have HBW1 : Aside0 (Bx w5 (fw nq) []) := ⟨HFS.out nq⟩
      obtain ⟨W1, hW⟩ : ∃ W, W = fw nq := ⟨_, rfl⟩
      rw [← hW] at HBW1 ⊢
      clear hW
      clear HFC HFS hf0 hne c1 c3
      have htI : (t : Int) < 4 := by have := HTB.out.1; omega
      have ht0 : (0 : Int) ≤ (t : Int) := by omega
      have hbI : (b : Int) < 4 := by have := HTB.out.2; omega
      have hb0 : (0 : Int) ≤ (b : Int) := by omega
      have q0 : W1.cell? ⟨g, t * 3, none⟩ = some (.int .u64 (hiM (v2 t))) := (HBW1.out.bel.cell (p := ⟨g, t * 3, none⟩) hg5).trans HCt.out.1
      have q1 : W1.cell? ⟨g, t * 3 + 1, none⟩ = some (.int .u64 (loM (v2 t))) := (HBW1.out.bel.cell (p := ⟨g, t * 3 + 1, none⟩) hg5).trans HCt.out.2.1
      have q2 : W1.cell? ⟨g, t * 3 + 2, none⟩ = some (.bool (mnM (v2 t))) := (HBW1.out.bel.cell (p := ⟨g, t * 3 + 2, none⟩) hg5).trans HCt.out.2.2.1
      have q3 : W1.cell? ⟨g, 12 + t * 2, none⟩ = some (.bool (mnM (v2 t))) := (HBW1.out.bel.cell (p := ⟨g, 12 + t * 2, none⟩) hg5).trans HCt.out.2.2.2.1
      have q4 : W1.cell? ⟨g, 12 + t * 2 + 1, none⟩ = some (.slice Et (D (v2 t).natAbs).length Ft) := (HBW1.out.bel.cell (p := ⟨g, 12 + t * 2 + 1, none⟩) hg5).trans HCt.out.2.2.2.2
      have hgW : g < W1.heap.size := Nat.lt_of_lt_of_le hg5 HBW1.out.bel.size
      go_wp2_with (fail)
      go_cut [7, 8] from 36 to 47 (fun v7 v8 wc => ∃ gX gY : Nat, v7 = .pointer (some ⟨gX, 0, none⟩) ∧ v8 = .pointer (some ⟨gY, 0, none⟩) ∧ Bx w5 wc [(gX, #[.int .u64 (hiM (v2 t)), .int .u64 (loM (v2 t)), .bool (mnM (v2 t))], 40), (gY, #[.bool (mnM (v2 t)), .slice Et (D (v2 t).natAbs).length Ft], 46)])
      case first =>
        go_region
        all_goals (go_wp2_with (fail); go_meet)
        all_goals (refine ⟨_, _, rfl, rfl, ?_⟩)
        all_goals first
          | exact ((HBW1.out.alloc #[.int .u64 (hiM (v2 t)), .int .u64 (loM (v2 t)), .bool (mnM (v2 t))] 40).alloc #[.bool (mnM (v2 t)), .slice Et (D (v2 t).natAbs).length Ft] 46).drew.sub (fun p hp => by simp only [World.size_alloc, List.mem_append, List.mem_cons, List.not_mem_nil, or_false] at hp ⊢; rcases hp with h | h <;> simp [h])
          | exact ((HBW1.out.alloc #[.bool (mnM (v2 t)), .slice Et (D (v2 t).natAbs).length Ft] 46).alloc #[.int .u64 (hiM (v2 t)), .int .u64 (loM (v2 t)), .bool (mnM (v2 t))] 40).drew.sub (fun p hp => by simp only [World.size_alloc, List.mem_append, List.mem_cons, List.not_mem_nil, or_false] at hp ⊢; rcases hp with h | h <;> simp [h])
      case rest =>
        clear q0 q1 q2 q3 q4 hgW
        obtain ⟨gX, gY, rfl, rfl, hbx⟩ := hcut
        obtain ⟨W9, hW⟩ : ∃ W, W = wc := ⟨_, rfl⟩
        have HBW9 : Aside0 (Bx w5 W9 [(gX, #[.int .u64 (hiM (v2 t)), .int .u64 (loM (v2 t)), .bool (mnM (v2 t))], 40), (gY, #[.bool (mnM (v2 t)), .slice Et (D (v2 t).natAbs).length Ft], 46)]) := ⟨by rw [hW]; exact hbx⟩
        rw [← hW]
        clear hW hbx HBW1
        obtain ⟨T, hT⟩ : ∃ T, T = bs (text (v2 t)) := ⟨_, rfl⟩
        obtain ⟨p0, hp0⟩ : ∃ p, p = wd0 (v2 t) := ⟨_, rfl⟩
        obtain ⟨p1, hp1⟩ : ∃ p, p = wd1 (v2 t) := ⟨_, rfl⟩
        obtain ⟨sg, hsg⟩ : ∃ s, s = sig (v2 t) := ⟨_, rfl⟩
        obtain ⟨cp, hcp⟩ : ∃ c : Int, c = if v2 t = v2 b then 0 else if v2 t < v2 b then -1 else 1 := ⟨_, rfl⟩
        have D1 : Aside0 (∀ W, Calls Try.prog 28 #[.agg #[.int .u64 (hiM (v2 t)), .int .u64 (loM (v2 t)), .bool (mnM (v2 t))]] W fun e w' => e = .returned (.string T) ∧ Below W.heap.size W w') := ⟨fun W => by rw [hT]; exact text_calls (v2 t) (HV2.out t) W⟩
        have D2 : Aside0 (∀ W, Rm W (.agg #[.bool (mnM (v2 t)), .slice Et (D (v2 t).natAbs).length Ft]) (v2 t) → Calls Try.prog 31 #[.agg #[.bool (mnM (v2 t)), .slice Et (D (v2 t).natAbs).length Ft]] W fun e w' => e = .returned (.string T) ∧ Below W.heap.size W w') := ⟨fun W r => by rw [hT]; exact rtext_any (v2 t) (HV2.out t) _ W r⟩
        have D3 : Aside0 (∀ W, Calls Try.prog 26 #[.agg #[.int .u64 (hiM (v2 t)), .int .u64 (loM (v2 t)), .bool (mnM (v2 t))]] W fun e w' => e = .returned (.agg #[.int .u64 p0, .int .u64 p1]) ∧ Below W.heap.size W w') := ⟨fun W => by rw [hp0, hp1]; exact words_calls (v2 t) (HV2.out t) W⟩
        have D4 : Aside0 (∀ W, Rm W (.agg #[.bool (mnM (v2 t)), .slice Et (D (v2 t).natAbs).length Ft]) (v2 t) → Calls Try.prog 27 #[.agg #[.bool (mnM (v2 t)), .slice Et (D (v2 t).natAbs).length Ft]] W fun e w' => e = .returned (.agg #[.int .u64 p0, .int .u64 p1]) ∧ Below W.heap.size W w') := ⟨fun W r => by rw [hp0, hp1]; exact rwords_any (v2 t) (HV2.out t) _ W r⟩
        have D5 : Aside0 (∀ W, Calls Try.prog 36 #[.agg #[.int .u64 (hiM (v2 t)), .int .u64 (loM (v2 t)), .bool (mnM (v2 t))]] W fun e w' => e = .returned (.int .i64 sg) ∧ Below W.heap.size W w') := ⟨fun W => by rw [hsg]; exact sign_calls (v2 t) (HV2.out t) W⟩
        have D6 : Aside0 (∀ W, Rm W (.agg #[.bool (mnM (v2 t)), .slice Et (D (v2 t).natAbs).length Ft]) (v2 t) → Calls Try.prog 40 #[.agg #[.bool (mnM (v2 t)), .slice Et (D (v2 t).natAbs).length Ft]] W fun e w' => e = .returned (.int .i64 sg) ∧ Below W.heap.size W w') := ⟨fun W r => by rw [hsg]; exact rsign_any (v2 t) _ W r⟩
        have D7 : Aside0 (∀ W, Calls Try.prog 32 #[.agg #[.int .u64 (hiM (v2 t)), .int .u64 (loM (v2 t)), .bool (mnM (v2 t))], .agg #[.int .u64 (hiM (v2 b)), .int .u64 (loM (v2 b)), .bool (mnM (v2 b))]] W fun e w' => e = .returned (.int .i64 cp) ∧ Below W.heap.size W w') := ⟨fun W => by rw [hcp]; exact comp_calls (v2 t) (v2 b) (HV2.out t) (HV2.out b) W⟩
        have D8 : Aside0 (∀ W, Rm W (.agg #[.bool (mnM (v2 t)), .slice Et (D (v2 t).natAbs).length Ft]) (v2 t) → Rm W (.agg #[.bool (mnM (v2 b)), .slice Eb (D (v2 b).natAbs).length Fb]) (v2 b) → Calls Try.prog 41 #[.agg #[.bool (mnM (v2 t)), .slice Et (D (v2 t).natAbs).length Ft], .agg #[.bool (mnM (v2 b)), .slice Eb (D (v2 b).natAbs).length Fb]] W fun e w' => e = .returned (.int .i64 cp) ∧ Below W.heap.size W w') := ⟨fun W r r2 => by rw [hcp]; exact rcomp_any (v2 t) (v2 b) (HV2.out t) (HV2.out b) _ _ W r r2⟩
        have DE : ∀ W, (Op.equalIn 10000 38 (.agg #[.int .u64 p0, .int .u64 p1]) (.agg #[.int .u64 p0, .int .u64 p1])).run Try.prog W = .ok true W := fun W => eq_self38 _ _ W
        have es : (sg != sg) = false := bne_self_eq_false' (a := sg)
        have ec : (cp != cp) = false := bne_self_eq_false' (a := cp)
        clear hT hp0 hp1 hsg hcp
        go_upto_region 9 with (fail)
        obtain ⟨N, fw, hf0, hfs, hfc⟩ := calm_class (fun W => Bx w5 W [(gX, #[.int .u64 (hiM (v2 t)), .int .u64 (loM (v2 t)), .bool (mnM (v2 t))], 40), (gY, #[.bool (mnM (v2 t)), .slice Et (D (v2 t).natAbs).length Ft], 46)]) W9 HBW9.out.drew (fun W w' h hb => h.below hb)
        have hne : Nonempty N := ⟨hf0.choose⟩
        have HFC := Aside0.mk hfc
        have HFS := Aside0.mk hfs
        have qgX0 : ∀ n, (fw n).cell? ⟨gX, 0, none⟩ = some (.int .u64 (hiM (v2 t))) := fun n => (blk_cell (Bx.get (hfs n) (gX, #[.int .u64 (hiM (v2 t)), .int .u64 (loM (v2 t)), .bool (mnM (v2 t))], 40) (by simp)) 0).trans rfl
        have qgX1 : ∀ n, (fw n).cell? ⟨gX, 1, none⟩ = some (.int .u64 (loM (v2 t))) := fun n => (blk_cell (Bx.get (hfs n) (gX, #[.int .u64 (hiM (v2 t)), .int .u64 (loM (v2 t)), .bool (mnM (v2 t))], 40) (by simp)) 1).trans rfl
        have qgX2 : ∀ n, (fw n).cell? ⟨gX, 2, none⟩ = some (.bool (mnM (v2 t))) := fun n => (blk_cell (Bx.get (hfs n) (gX, #[.int .u64 (hiM (v2 t)), .int .u64 (loM (v2 t)), .bool (mnM (v2 t))], 40) (by simp)) 2).trans rfl
        have qgY0 : ∀ n, (fw n).cell? ⟨gY, 0, none⟩ = some (.bool (mnM (v2 t))) := fun n => (blk_cell (Bx.get (hfs n) (gY, #[.bool (mnM (v2 t)), .slice Et (D (v2 t).natAbs).length Ft], 46) (by simp)) 0).trans rfl
        have qgY1 : ∀ n, (fw n).cell? ⟨gY, 1, none⟩ = some (.slice Et (D (v2 t).natAbs).length Ft) := fun n => (blk_cell (Bx.get (hfs n) (gY, #[.bool (mnM (v2 t)), .slice Et (D (v2 t).natAbs).length Ft], 46) (by simp)) 1).trans rfl
        have z0 : ∀ n, (fw n).cell? ⟨g, b * 3, none⟩ = some (.int .u64 (hiM (v2 b))) := fun n => pw_cell_below (hfs n).bel (HCb.out.1)
        have z1 : ∀ n, (fw n).cell? ⟨g, b * 3 + 1, none⟩ = some (.int .u64 (loM (v2 b))) := fun n => pw_cell_below (hfs n).bel (HCb.out.2.1)
        have z2 : ∀ n, (fw n).cell? ⟨g, b * 3 + 2, none⟩ = some (.bool (mnM (v2 b))) := fun n => pw_cell_below (hfs n).bel (HCb.out.2.2.1)
        have z3 : ∀ n, (fw n).cell? ⟨g, 12 + b * 2, none⟩ = some (.bool (mnM (v2 b))) := fun n => pw_cell_below (hfs n).bel (HCb.out.2.2.2.1)
        have z4 : ∀ n, (fw n).cell? ⟨g, 12 + b * 2 + 1, none⟩ = some (.slice Eb (D (v2 b).natAbs).length Fb) := fun n => pw_cell_below (hfs n).bel (HCb.out.2.2.2.2)
        have HRX := Aside0.mk (fun n => HRt.out.below (hfs n).bel)
        have HRX2 := Aside0.mk (fun n => HRb.out.below (hfs n).bel)
        clear hfs hfc
        refine wp_region_calm fw (by kernel_rfl) (by kernel_rfl) hf0 ?_
        repeat (go_big_quiet_step ((first
          | (go_at_call 28; with_reducible exact Calls.calm HFC (D1.out _))
          | (go_at_call 31; with_reducible exact Calls.calm HFC (D2.out _ (HRX.out _)))
          | (go_at_call 26; with_reducible exact Calls.calm HFC (D3.out _))
          | (go_at_call 27; with_reducible exact Calls.calm HFC (D4.out _ (HRX.out _)))
          | (go_at_call 36; with_reducible exact Calls.calm HFC (D5.out _))
          | (go_at_call 40; with_reducible exact Calls.calm HFC (D6.out _ (HRX.out _)))
          | (go_at_call 32; with_reducible exact Calls.calm HFC (D7.out _))
          | (go_at_call 41; with_reducible exact Calls.calm HFC (D8.out _ (HRX.out _) (HRX2.out _))))))
        refine wpQuiet_nil ?_
        intro _ hw'
        obtain ⟨nq, hw''⟩ := hw'
        subst hw''
        have HBW2 : Aside0 (Bx w5 (fw nq) [(gX, #[.int .u64 (hiM (v2 t)), .int .u64 (loM (v2 t)), .bool (mnM (v2 t))], 40), (gY, #[.bool (mnM (v2 t)), .slice Et (D (v2 t).natAbs).length Ft], 46)]) := ⟨HFS.out nq⟩
        obtain ⟨W2, hW⟩ : ∃ W, W = fw nq := ⟨_, rfl⟩
        rw [← hW] at HBW2 ⊢
        clear hW
        clear HFC HFS hf0 hne qgX0 qgX1 qgX2 qgY0 qgY1 z0 z1 z2 z3 z4 HRX HRX2
        clear D1 D2 D3 D4 D5 D6 D7 D8 DE es ec
        have HAW : Aside0 (AllW w g W2) := ⟨⟨HB5.out.trans (HBW2.out.bel.mono HB5.out.size), HA.out.2.1, v2, HV2.out, HMW.out.below HBW2.out.bel⟩⟩
        go_wp2
        go_roundg (gk - 1)
        all_goals first
          | exact HI2.out.2
          | exact ⟨i + 1, rfl, ⟨HI2.out.1⟩, HAW⟩
    · have hni : m = i := by have := HI.out; omega
      subst hni
      have E1 : Aside0 (∀ W, Calls Try.prog 33 #[.int .i64 (-5)] W fun e w' => e = .returned (.agg #[.int .u64 0, .int .u64 5, .bool true]) ∧ Below W.heap.size W w') := ⟨fun W => cents_any (-5) (by decide) (by decide) W⟩
      have E2 : Aside0 (∀ W, Calls Try.prog 28 #[.agg #[.int .u64 0, .int .u64 5, .bool true]] W fun e w' => e = .returned (.string ⟨#[45, 48, 46, 48, 53]⟩) ∧ Below W.heap.size W w') := ⟨fun W => by
        have h := text_calls (-5) (by unfold Small; decide) W
        rw [text_m5] at h
        exact h⟩
      have E3 : Aside0 (∀ W, Calls Try.prog 28 #[.agg #[.int .u64 0, .int .u64 0, .bool false]] W fun e w' => e = .returned (.string ⟨#[48, 46, 48, 48]⟩) ∧ Below W.heap.size W w') := ⟨fun W => by
        have h := text_calls 0 (by unfold Small; decide) W
        rw [text_0] at h
        exact h⟩
      go_wp2_with (first
        | ((with_reducible refine gate_callee (f := 33) rfl ?_); (try (refine gate_guard (by rfl) ?_; dsimp only)); refine goesL_ (some 86) rfl rfl Try.func33 (by kernel_rfl) rfl #[.int .i64 (-5)] rfl (by (try simp only [List.map_toArray, List.map_cons, List.map_nil]); first | done | rfl) ?_; (with_reducible refine (E1.out _).mono ?_); rintro e w5 ⟨rfl, hb⟩; refine ⟨_, rfl, ?_⟩; have HB5 : Aside0 (Below w.heap.size w w5) := ⟨below_then HA.out.1 HA.out.1.size hb⟩; clear hb)
        | ((with_reducible refine gate_callee (f := 28) rfl ?_); (try (refine gate_guard (by rfl) ?_; dsimp only)); refine goesL_ (some 87) rfl rfl Try.func28 (by kernel_rfl) rfl #[.agg #[.int .u64 0, .int .u64 5, .bool true]] rfl (by (try simp only [List.map_toArray, List.map_cons, List.map_nil]); first | done | rfl) ?_; (with_reducible refine (E2.out _).mono ?_); rintro e w6 ⟨rfl, hb⟩; refine ⟨_, rfl, ?_⟩; have HB6 : Aside0 (Below w.heap.size w w6) := ⟨below_then HB5.out HB5.out.size hb⟩; clear hb)
        | ((with_reducible refine gate_callee (f := 28) rfl ?_); (try (refine gate_guard (by rfl) ?_; dsimp only)); refine goesL_ (some 91) rfl rfl Try.func28 (by kernel_rfl) rfl #[.agg #[.int .u64 0, .int .u64 0, .bool false]] rfl (by (try simp only [List.map_toArray, List.map_cons, List.map_nil]); first | done | rfl) ?_; (with_reducible refine (E3.out _).mono ?_); rintro e w7 ⟨rfl, hb⟩; refine ⟨_, rfl, ?_⟩; have HB7 : Aside0 (Below w.heap.size w w7) := ⟨below_then HB6.out HB6.out.size hb⟩; clear hb))
      go_ret
      exact ⟨rfl, HB7.out⟩
end Go.Proofs.Ythmjmkbahneneaa.PMon
end
