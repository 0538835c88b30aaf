-- Written by a program of this session (wip/tools): Lean checks it.
import Derived.Test.YtopekdmipnpnaaaPBeax0
import Derived.Test.YtopekdmipnpnaaaPBeax4
import Derived.Test.YtopekdmipnpnaaaPBeax7
namespace Go.Proofs.Ytopekdmipnpnaaa.PBea
open Go.RowKit Go.Proofs.YtopekdmipnpnaaaW.PrintWords Go.Proofs.YtopekdmipnpnaaaW.PrintLast Go.Proofs.YtopekdmipnpnaaaW.PrintMore
attribute [local go_sem] max2_int min2_int max_two min_two max_three min_three max_four min_four   -- for this text's walks alone
set_option linter.unusedVariables false
set_option linter.unusedSimpArgs false

/-! ### bourseref22_Bear: function 15 -/
def bourseref22_Bear.l0 : Nat → Int → Int → Int → List (S45) → Int → List Int → Int → Option (Int × Int × List Int × Int × Int)
  | 0, _, _, _, _, _, _, _ => none
  | k + 1, x0, x1, x2, x3, x10, x11, x12 => if x12 < (x3.length : Int) then (if 0 ≤ x12 then ((bourseref01_Add.f k x10 ((rd_T45 x3 x12).f1)).bind fun bt309 => (if bt309.2 = 0 then (if x11.length < 17592186044416 then (bourseref22_Bear.l0 k x0 x1 x2 x3 bt309.1 (x11 ++ [(rd_T45 x3 x12).f1]) (wrap64 (x12 + 1))) else (none)) else (some (0, 0, ([] : List Int), 0, bt309.2)))) else (none)) else ((bourseref22_lesser.f x0 x1).bind fun t315 => (if 0 ≤ (x3.length : Int) then (if ((x3.length : Int) : Int).toNat ≤ 35184372088832 then ((bourseref22_lesser.f (IntKind.u64.wrap (x0 - t315)) x2).bind fun t320 => ((bourseref22_lesser.f (IntKind.u64.wrap ((IntKind.u64.wrap (x0 - t315)) - t320)) x10).bind fun t321 => (if x10 > 0 then ((bourseref01_Share.f k t321 x11).bind fun bt322 => (some (t315, t320, bt322.1, IntKind.u64.wrap ((IntKind.u64.wrap ((IntKind.u64.wrap (x0 - t315)) - t320)) - t321), 0))) else (some (t315, t320, (List.replicate ((x3.length : Int) : Int).toNat 0), IntKind.u64.wrap ((IntKind.u64.wrap ((IntKind.u64.wrap (x0 - t315)) - t320)) - t321), 0))))) else (none)) else (none)))
def bourseref22_Bear.f (k : Nat) (a0 : Int) (a1 : Int) (a2 : Int) (l3 : List (S45)) : Option (Int × Int × List Int × Int × Int) := bourseref22_Bear.l0 k a0 a1 a2 l3 0 ([] : List Int) 0
theorem bourseref22_Bear.mono_l : ∀ k, (∀ y0 y1 y2 y3 y4 y5 y6, LeO (bourseref22_Bear.l0 k y0 y1 y2 y3 y4 y5 y6) (bourseref22_Bear.l0 (k + 1) y0 y1 y2 y3 y4 y5 y6))
  | 0 => fun _ _ _ _ _ _ _ r h => by simp [bourseref22_Bear.l0] at h
  | k + 1 => by
    have ih0 := bourseref22_Bear.mono_l k
    · intro y0 y1 y2 y3 y4 y5 y6
      unfold bourseref22_Bear.l0
      repeat' first
      | (with_reducible exact ih0 _ _ _ _ _ _ _)
      | (with_reducible exact bourseref01_Add.mono _ _ _)
      | (with_reducible exact bourseref01_Share.mono _ _ _)
      | (with_reducible exact LeO.refl _)
      | (with_reducible exact LeO.none _)
      | (with_reducible refine LeO.ite ?_ ?_)
      | (with_reducible refine LeO.bind ?_ (fun _ => ?_))
      | exact ih0 _ _ _ _ _ _ _
      | exact bourseref01_Add.mono _ _ _
      | exact bourseref01_Share.mono _ _ _
      | exact LeO.none _
      | refine LeO.ite ?_ ?_
      | refine LeO.bind ?_ (fun _ => ?_)
theorem bourseref22_Bear.mono : ∀ a0 a1 a2 a3 k, LeO (bourseref22_Bear.f k a0 a1 a2 a3) (bourseref22_Bear.f (k + 1) a0 a1 a2 a3) := by
  intro a0 a1 a2 a3 k
  have ih0 := bourseref22_Bear.mono_l k
  unfold bourseref22_Bear.f
  repeat' first
      | (with_reducible exact ih0 _ _ _ _ _ _ _)
      | (with_reducible exact bourseref01_Add.mono _ _ _)
      | (with_reducible exact bourseref01_Share.mono _ _ _)
      | (with_reducible exact LeO.refl _)
      | (with_reducible exact LeO.none _)
      | (with_reducible refine LeO.ite ?_ ?_)
      | (with_reducible refine LeO.bind ?_ (fun _ => ?_))
      | exact ih0 _ _ _ _ _ _ _
      | exact bourseref01_Add.mono _ _ _
      | exact bourseref01_Share.mono _ _ _
      | exact LeO.none _
      | refine LeO.ite ?_ ?_
      | refine LeO.bind ?_ (fun _ => ?_)
def bourseref22_Bear.T11 : Bool × List (List Nat × List Nat) := (true, [([], []), ([], []), ([0, 1], [0, 1]), ([], []), ([3], [3]), ([4, 4], [4]), ([2, 5], [2, 5]), ([], []), ([7, 6, 2, 0, 1, 2, 3, 4, 5, 6, 7], [6, 7])])
def bourseref22_Bear.B11 : List Nat := [0, 0, 3, 0, 8, 24, 63, 0, 255]
theorem bourseref22_Bear.tab11 : rtab .any (opsOf Try.f15 11) = bourseref22_Bear.T11 := by kernel_rfl
theorem bourseref22_Bear.bits11 : waitsOk bourseref22_Bear.T11.2 bourseref22_Bear.B11 = true := by kernel_rfl
set_option maxHeartbeats 8000000 in
set_option maxRecDepth 100000 in
theorem bourseref22_Bear.calls (k : Nat) (a0 : Int) (a1 : Int) (a2 : Int) (A3 : Option Addr) (c3 : Nat) (l3 : List (S45)) (r1 : Int) (r2 : Int) (r3 : List Int) (r4 : Int) (r5 : Int) (w : World) (hr3 : Kd.C k45 w A3 l3.length l3) (hc3 : l3.length ≤ c3) (h : bourseref22_Bear.f k a0 a1 a2 l3 = some (r1, r2, r3, r4, r5)) :
    Calls Try.prog 15 #[.int .u64 a0, .int .u64 a1, .int .u64 a2, .slice A3 l3.length c3] w fun e w' => ∃ v2_ : Value, e = .returned (.tuple #[.agg #[.int .u64 r1, .int .u64 r2, v2_, .int .u64 r4], .int .i64 r5]) ∧ Kd.R (Kd.int .u64) 29 w' w.heap.size (fun _ => True) v2_ r3 ∧ Below w.heap.size w w' := by
  have hu41 := Try.underlying41
  have HR3 := Aside0.mk hr3
  have HC3 := Aside0.mk hc3
  clear hr3 hc3
  have HB := Aside0.mk (Below.refl w.heap.size w)
  have H : (bourseref22_Bear.l0 k a0 a1 a2 l3 0 ([] : List Int) 0) = some (r1, r2, r3, r4, r5) := h
  clear h
  have H' := Aside0.mk H
  clear H
  go_enter Try.func15, Try.ntmps15
  go_wp2_with (first | ((with_reducible refine gate_dst (N := 8) rfl ?_); refine box_event ?hg (N := 8) ?hd (cs := #[.int .u64 0, .int .u64 0, .slice none 0 0, .int .u64 0]) (t := 41) ?hr ?_; (case hd => rfl); (case hg => rfl); (case hr => first | (go_simp; done) | (go_simp; rfl)); intro gb307 hg w5 hbox hb; have n0_ := Aside0.mk (below_step (by repeat (first | (with_reducible first | exact HB.out | apply below_alloc | apply pw_below_drewN | apply below_drew1) | exact HB.out | exact Below.refl (World.heap _).size _)) hb); have n1_ := Aside0.mk (hbox); have n2_ := Aside0.mk ((by rw [hg]; exact (below_size (by repeat (first | (with_reducible first | exact HB.out | apply below_alloc | apply pw_below_drewN | apply below_drew1) | exact HB.out | exact Below.refl (World.heap _).size _))) : w.heap.size ≤ gb307)); have n3_ := Aside0.mk ((by rw [hg]; exact (below_size (by repeat (first | (with_reducible first | exact HB.out | apply below_alloc | apply pw_below_drewN | apply below_drew1) | exact HB.out | exact Below.refl (World.heap _).size _))) : w.heap.size ≤ gb307)); clear HB; have HB := n0_; have BK307 := n1_; have GW307 := n2_; have GE307 := n3_; clear n0_ n1_ n2_ n3_; clear hb hbox hg))
  go_loopg [10, 11, 12] k (fun kq v10 v11 v12 w' => ∃ (x10_1 : Int) (x11_1 : List Int) (x12_1 : Int) (x308000_1 : Int) (x308001_1 : Int) (x308003_1 : Int), v10 = .int .u64 x10_1 ∧ v12 = .int .i64 x12_1 ∧ Aside0 (bourseref22_Bear.l0 kq a0 a1 a2 l3 x10_1 x11_1 x12_1 = some (r1, r2, r3, r4, r5)) ∧ Aside0 (kq ≤ k) ∧ Aside0 (Kd.R (Kd.int .u64) 29 w' w.heap.size (fun _ => True) v11 x11_1) ∧ Aside0 (w'.heap[gb307]? = some (.cells #[.int .u64 x308000_1, .int .u64 x308001_1, (.slice none 0 0), .int .u64 x308003_1] 41 (0, 0))) ∧ Aside0 (Below w.heap.size w w'))
  case atStart => exact ⟨(0), (([] : List Int)), (0), (0), (0), (0), (by first | rfl | (simp; done) | (simp [*]; done)), (by first | rfl | (simp; done) | (simp [*]; done)), H', ⟨Nat.le_refl _⟩, ⟨by first | exact Kd.R_nil _ _ _ _ _ | exact Kd.N_nil _ _ _ _ _ | exact Kd.V_nil _ _ _ _ _ | exact Kd.Q_nil _ _ _ _ _ | exact Kd.S_nil _ _ _ _ _⟩, ⟨by (with_reducible repeat (first | refine blk_drewN ?_ _ | refine blk_drew ?_ | refine blk_alloc ?_ _)); exact BK307.out⟩, ⟨by repeat (first | (with_reducible first | exact HB.out | apply below_alloc | apply pw_below_drewN | apply below_drew1 | refine below_set ?_ GE307.out) | exact HB.out | exact Below.refl (World.heap _).size _)⟩⟩
  case round =>
    clear H'
    try clear c1
    try clear p2
    try clear c3
    obtain ⟨x10_1, x11_1, x12_1, x308000_1, x308001_1, x308003_1, rfl, rfl, HA, HK1, HO_11, BK307, HB⟩ := hrel
    cases gk with
    | zero => exact absurd HA.out (by simp [bourseref22_Bear.l0])
    | succ k1 =>
      have H := HA.out
      clear HA
      simp only [bourseref22_Bear.l0] at H
      by_cases c6 : x12_1 < (l3.length : Int)
      · rw [if_pos c6] at H
        have c6b0 : decide (x12_1 < (l3.length : Int)) = true := decide_eq_true c6
        clear c6
        by_cases c7 : 0 ≤ x12_1
        · rw [if_pos c7] at H
          have c7b0 : decide (0 ≤ x12_1) = true := decide_eq_true c7
          clear c7
          replace H := Option.bind_eq_some_iff.mp H
          obtain ⟨⟨t309, t310⟩, A80, H⟩ := H
          replace H : (if t310 = 0 then (if x11_1.length < 17592186044416 then (bourseref22_Bear.l0 k1 a0 a1 a2 l3 t309 (x11_1 ++ [(rd_T45 l3 x12_1).f1]) (wrap64 (x12_1 + 1))) else (none)) else (some (0, 0, ([] : List Int), 0, t310))) = some (r1, r2, r3, r4, r5) := H
          have A8 := Aside0.mk A80
          clear A80
          by_cases c9 : t310 = 0
          · rw [if_pos c9] at H
            have c9b0 : (t310 == 0) = true := beq_iff_eq.mpr c9
            have c9b1 : (t310 != 0) = false := bne_eq_false_iff_eq.mpr c9
            clear c9
            by_cases c10 : x11_1.length < 17592186044416
            · rw [if_pos c10] at H
              have LMc10 := Aside0.mk c10
              clear c10
              obtain ⟨y312, hy312⟩ : ∃ y_ : List Int, y_ = (x11_1 ++ [(rd_T45 l3 x12_1).f1]) := ⟨_, rfl⟩
              replace H : (bourseref22_Bear.l0 k1 a0 a1 a2 l3 t309 y312 (wrap64 (x12_1 + 1))) = some (r1, r2, r3, r4, r5) := by first | (rw [hy312]; with_reducible exact H) | (have H2_ := (Option.bind_some _ _).symm.trans H; rw [hy312]; with_reducible exact H2_) | (have H2_ := (Option.bind_some _ _).symm.trans H; with_reducible exact H2_) | with_reducible exact H | (rw [hy312]; exact H) | exact H
              have Ny312 := Aside0.mk hy312
              clear hy312
              have H' := Aside0.mk H
              clear H
              have p308 : 0 ≤ (x12_1 : Int) := of_decide_eq_true (by first | (with_reducible assumption) | assumption)
              have q308 : x12_1 < (l3.length : Int) := of_decide_eq_true (by first | (with_reducible assumption) | assumption)
              obtain ⟨ad308, e308, hx308_0, hx308_1⟩ := at_T45 HR3.out x12_1 p308 q308
              cases e308
              replace hx308_0 := (HB.out.cell (World.block_lt_of_cell? w _ hx308_0)).trans hx308_0
              replace hx308_1 := (HB.out.cell (World.block_lt_of_cell? w _ hx308_1)).trans hx308_1
              replace p308 := eq_true p308
              replace q308 := eq_true q308
              go_wp2_with (first | ((with_reducible refine gate_callee (f := 48) rfl ?_); refine goesL_ (some 31) rfl rfl Try.func48 (by kernel_rfl) rfl #[.int .u64 x10_1, .int .u64 ((rd_T45 l3 x12_1).f1)] rfl (by (try simp only [List.map_toArray, List.map_cons, List.map_nil]); first | done | rfl | (simp only [List.length_drop, List.length_take]; rfl)) ?_; (with_reducible refine (bourseref01_Add.calls k1 x10_1 ((rd_T45 l3 x12_1).f1) t309 t310 _ A8.out).mono ?_); rintro e w11 ⟨rfl, hb⟩; refine ⟨_, rfl, ?_⟩; have n0_ := Aside0.mk (Kd.R_below (by (with_reducible repeat (first | apply Kd.R_alloc | apply Kd.R_drewN | apply Kd.R_drew)); exact HO_11.out) hb); have n1_ := Aside0.mk (blk_below (g := gb307) (o := .cells #[.int .u64 x308000_1, .int .u64 x308001_1, .slice none 0 0, .int .u64 x308003_1] 41 (0, 0)) (by (with_reducible repeat (first | refine blk_drewN ?_ _ | refine blk_drew ?_ | refine blk_alloc ?_ _)); exact BK307.out) hb); have n2_ := Aside0.mk (below_step (by repeat (first | (with_reducible first | exact HB.out | apply below_alloc | apply pw_below_drewN | apply below_drew1 | refine below_set ?_ GE307.out) | exact HB.out | exact Below.refl (World.heap _).size _)) hb); clear HO_11; clear BK307; clear HB; have HO_11 := n0_; have BK307 := n1_; have HB := n2_; clear n0_ n1_ n2_; (try clear hb); (try clear hb2); (try clear hk); (try clear hi); have p311 : 0 ≤ (x12_1 : Int) := of_decide_eq_true (by first | (with_reducible assumption) | assumption); have q311 : x12_1 < (l3.length : Int) := of_decide_eq_true (by first | (with_reducible assumption) | assumption); obtain ⟨ad311, e311, hx311_0, hx311_1⟩ := at_T45 HR3.out x12_1 p311 q311; obtain rfl : ad308 = ad311 := (by injection e311); replace hx311_0 := (HB.out.cell (World.block_lt_of_cell? w _ hx311_0)).trans hx311_0; replace hx311_1 := (HB.out.cell (World.block_lt_of_cell? w _ hx311_1)).trans hx311_1; replace p311 := eq_true p311; replace q311 := eq_true q311) | ((with_reducible refine gate_builtin (b := .append) (xs := #[.tmp 39, .tmp 45]) rfl ?_); at_builtin; refine Kd.R_append (Kd.int .u64) (w0 := w) w.heap.size rfl (.tmp 39) (.tmp 45) 39 29 (.int .u64 0) 8 rfl Try.underlying39 info29 rfl (by decide) (by omega) u11 x11_1 ((rd_T45 l3 x12_1).f1) [.int .u64 ((rd_T45 l3 x12_1).f1)] (fun _ => True) (fun _ => False) rfl rfl ?aP (fun _ hk => hk.elim) ?aF ?aO ?aB ?aS ?aL ?_; (case aP => exact rfl); (case aB => exact (by repeat (first | (with_reducible first | exact HB.out | apply below_alloc | apply pw_below_drewN | apply below_drew1 | refine below_set ?_ GE307.out) | exact HB.out | exact Below.refl (World.heap _).size _))); (case aF => exact (fun _ _ => trivial)); (case aO => exact (by (with_reducible repeat (first | apply Kd.R_alloc | apply Kd.R_drewN | apply Kd.R_drew)); exact HO_11.out)); (case aS => exact (below_size (by repeat (first | (with_reducible first | exact HB.out | apply below_alloc | apply pw_below_drewN | apply below_drew1 | refine below_set ?_ GE307.out) | exact HB.out | exact Below.refl (World.heap _).size _)))); (case aL => have := LMc10.out; omega); intro v313 w12 ho hb hg hat; rw [← Ny312.out] at ho; have n0_ := Aside0.mk (blk_grown (g := gb307) (o := .cells #[.int .u64 x308000_1, .int .u64 x308001_1, .slice none 0 0, .int .u64 x308003_1] 41 (0, 0)) (by (with_reducible repeat (first | refine blk_drewN ?_ _ | refine blk_drew ?_ | refine blk_alloc ?_ _)); exact BK307.out) hg (Kd.R_ne HO_11.out BK307.out (by decide))); have n1_ := Aside0.mk (hb); have n2_ := Aside0.mk (ho); clear BK307; clear HB; clear HO_11; have BK307 := n0_; have HB := n1_; have HO314 := n2_; clear n0_ n1_ n2_; clear ho hb hg hat))
              go_roundg k1
              case measure => have := HK1.out; omega
              case rel => exact ⟨(t309), (y312), (wrap64 (x12_1 + 1)), (x308000_1), (x308001_1), (x308003_1), (by first | rfl | (simp; done) | (simp [*]; done)), (by first | rfl | (simp; done) | (simp [*]; done)), H', ⟨by have := HK1.out; omega⟩, ⟨by (with_reducible repeat (first | apply Kd.R_alloc | apply Kd.R_drewN | apply Kd.R_drew)); exact HO314.out⟩, ⟨by (with_reducible repeat (first | refine blk_drewN ?_ _ | refine blk_drew ?_ | refine blk_alloc ?_ _)); exact BK307.out⟩, ⟨by repeat (first | (with_reducible first | exact HB.out | apply below_alloc | apply pw_below_drewN | apply below_drew1 | refine below_set ?_ GE307.out) | exact HB.out | exact Below.refl (World.heap _).size _)⟩⟩
            · rw [if_neg c10] at H
              exact absurd H (by simp)
          · rw [if_neg c9] at H
            have c9b0 : (t310 == 0) = false := beq_eq_false_iff_ne.mpr c9
            have c9b1 : (t310 != 0) = true := bne_iff_ne.mpr c9
            simp only [Option.some.injEq, Prod.mk.injEq] at H
            obtain ⟨rfl, rfl, rfl, rfl, rfl⟩ := H
            have p308 : 0 ≤ (x12_1 : Int) := of_decide_eq_true (by first | (with_reducible assumption) | assumption)
            have q308 : x12_1 < (l3.length : Int) := of_decide_eq_true (by first | (with_reducible assumption) | assumption)
            obtain ⟨ad308, e308, hx308_0, hx308_1⟩ := at_T45 HR3.out x12_1 p308 q308
            cases e308
            replace hx308_0 := (HB.out.cell (World.block_lt_of_cell? w _ hx308_0)).trans hx308_0
            replace hx308_1 := (HB.out.cell (World.block_lt_of_cell? w _ hx308_1)).trans hx308_1
            replace p308 := eq_true p308
            replace q308 := eq_true q308
            go_wp2_with (first | ((with_reducible refine gate_callee (f := 48) rfl ?_); refine goesL_ (some 31) rfl rfl Try.func48 (by kernel_rfl) rfl #[.int .u64 x10_1, .int .u64 ((rd_T45 l3 x12_1).f1)] rfl (by (try simp only [List.map_toArray, List.map_cons, List.map_nil]); first | done | rfl | (simp only [List.length_drop, List.length_take]; rfl)) ?_; (with_reducible refine (bourseref01_Add.calls k1 x10_1 ((rd_T45 l3 x12_1).f1) t309 t310 _ A8.out).mono ?_); rintro e w13 ⟨rfl, hb⟩; refine ⟨_, rfl, ?_⟩; have n0_ := Aside0.mk (Kd.R_below (by (with_reducible repeat (first | apply Kd.R_alloc | apply Kd.R_drewN | apply Kd.R_drew)); exact HO_11.out) hb); have n1_ := Aside0.mk (blk_below (g := gb307) (o := .cells #[.int .u64 x308000_1, .int .u64 x308001_1, .slice none 0 0, .int .u64 x308003_1] 41 (0, 0)) (by (with_reducible repeat (first | refine blk_drewN ?_ _ | refine blk_drew ?_ | refine blk_alloc ?_ _)); exact BK307.out) hb); have n2_ := Aside0.mk (below_step (by repeat (first | (with_reducible first | exact HB.out | apply below_alloc | apply pw_below_drewN | apply below_drew1 | refine below_set ?_ GE307.out) | exact HB.out | exact Below.refl (World.heap _).size _)) hb); clear HO_11; clear BK307; clear HB; have HO_11 := n0_; have BK307 := n1_; have HB := n2_; clear n0_ n1_ n2_; (try clear hb); (try clear hb2); (try clear hk); (try clear hi); have hcz14_0 : w13.cell? ⟨gb307, 0, none⟩ = some (.int .u64 x308000_1) := (blk_cell BK307.out 0).trans rfl; have hcz14_1 : w13.cell? ⟨gb307, 1, none⟩ = some (.int .u64 x308001_1) := (blk_cell BK307.out 1).trans rfl; have hcz14_2 : w13.cell? ⟨gb307, 2, none⟩ = some (.slice none 0 0) := (blk_cell BK307.out 2).trans rfl; have hcz14_3 : w13.cell? ⟨gb307, 3, none⟩ = some (.int .u64 x308003_1) := (blk_cell BK307.out 3).trans rfl; have hfz14_0 := blk_frozen BK307.out 0; have hfz14_1 := blk_frozen BK307.out 1; have hfz14_2 := blk_frozen BK307.out 2; have hfz14_3 := blk_frozen BK307.out 3))
            refine bodyPost_ret (results_ct rfl _ _ gb307 41 #[.int .u64 0, .int .u64 0, .slice none 0 0, .int .u64 0] (0, 0) _ rfl (by (with_reducible repeat (first | refine blk_drewN ?_ _ | refine blk_drew ?_ | refine blk_alloc ?_ _)); refine blk_put (cs := #[.int .u64 0, .int .u64 0, .slice none 0 0, .int .u64 x308003_1]) ?_ 3 _ rfl; (with_reducible repeat (first | refine blk_drewN ?_ _ | refine blk_drew ?_ | refine blk_alloc ?_ _)); refine blk_put (cs := #[.int .u64 0, .int .u64 0, .slice none 0 0, .int .u64 x308003_1]) ?_ 2 _ rfl; (with_reducible repeat (first | refine blk_drewN ?_ _ | refine blk_drew ?_ | refine blk_alloc ?_ _)); refine blk_put (cs := #[.int .u64 0, .int .u64 x308001_1, .slice none 0 0, .int .u64 x308003_1]) ?_ 1 _ rfl; (with_reducible repeat (first | refine blk_drewN ?_ _ | refine blk_drew ?_ | refine blk_alloc ?_ _)); refine blk_put (cs := #[.int .u64 x308000_1, .int .u64 x308001_1, .slice none 0 0, .int .u64 x308003_1]) ?_ 0 _ rfl; (with_reducible repeat (first | refine blk_drewN ?_ _ | refine blk_drew ?_ | refine blk_alloc ?_ _)); exact BK307.out) Try.underlying41 rfl (by kernel_rfl)) rfl ?_
            exact ⟨_, by first | rfl | (simp [errW_none, errW_some] <;> rfl) | (simp [*, errW_none, errW_some] <;> rfl), by first | exact Kd.R_nil _ _ _ _ _ | exact Kd.N_nil _ _ _ _ _ | exact Kd.V_nil _ _ _ _ _ | exact Kd.Q_nil _ _ _ _ _ | exact Kd.S_nil _ _ _ _ _, by repeat (first | (with_reducible first | exact HB.out | apply below_alloc | apply pw_below_drewN | apply below_drew1 | refine below_set ?_ GE307.out) | exact HB.out | exact Below.refl (World.heap _).size _)⟩
        · rw [if_neg c7] at H
          exact absurd H (by simp)
      · rw [if_neg c6] at H
        have c6b0 : decide (x12_1 < (l3.length : Int)) = false := decide_eq_false c6
        clear c6
        replace H := Option.bind_eq_some_iff.mp H
        obtain ⟨t315, A150, H⟩ := H
        replace H : (if 0 ≤ (l3.length : Int) then (if ((l3.length : Int) : Int).toNat ≤ 35184372088832 then ((bourseref22_lesser.f (IntKind.u64.wrap (a0 - t315)) a2).bind fun t320 => ((bourseref22_lesser.f (IntKind.u64.wrap ((IntKind.u64.wrap (a0 - t315)) - t320)) x10_1).bind fun t321 => (if x10_1 > 0 then ((bourseref01_Share.f k1 t321 x11_1).bind fun bt322 => (some (t315, t320, bt322.1, IntKind.u64.wrap ((IntKind.u64.wrap ((IntKind.u64.wrap (a0 - t315)) - t320)) - t321), 0))) else (some (t315, t320, (List.replicate ((l3.length : Int) : Int).toNat 0), IntKind.u64.wrap ((IntKind.u64.wrap ((IntKind.u64.wrap (a0 - t315)) - t320)) - t321), 0))))) else (none)) else (none)) = some (r1, r2, r3, r4, r5) := H
        have A15 := Aside0.mk A150
        clear A150
        by_cases c16 : 0 ≤ (l3.length : Int)
        · rw [if_pos c16] at H
          have c16b0 := eq_true c16
          have c16b1 : decide (0 ≤ (l3.length : Int)) = true := decide_eq_true c16
          clear c16
          by_cases c17 : ((l3.length : Int) : Int).toNat ≤ 35184372088832
          · rw [if_pos c17] at H
            have c17b0 := eq_true c17
            have c17b1 : decide (((l3.length : Int) : Int).toNat ≤ 35184372088832) = true := decide_eq_true c17
            clear c17
            obtain ⟨y316, hy316⟩ : ∃ y_ : List Int, y_ = (List.replicate ((l3.length : Int) : Int).toNat 0) := ⟨_, rfl⟩
            replace H : ((bourseref22_lesser.f (IntKind.u64.wrap (a0 - t315)) a2).bind fun t320 => ((bourseref22_lesser.f (IntKind.u64.wrap ((IntKind.u64.wrap (a0 - t315)) - t320)) x10_1).bind fun t321 => (if x10_1 > 0 then ((bourseref01_Share.f k1 t321 x11_1).bind fun bt322 => (some (t315, t320, bt322.1, IntKind.u64.wrap ((IntKind.u64.wrap ((IntKind.u64.wrap (a0 - t315)) - t320)) - t321), 0))) else (some (t315, t320, y316, IntKind.u64.wrap ((IntKind.u64.wrap ((IntKind.u64.wrap (a0 - t315)) - t320)) - t321), 0))))) = some (r1, r2, r3, r4, r5) := by first | (rw [hy316]; with_reducible exact H) | (have H2_ := (Option.bind_some _ _).symm.trans H; rw [hy316]; with_reducible exact H2_) | (have H2_ := (Option.bind_some _ _).symm.trans H; with_reducible exact H2_) | with_reducible exact H | (rw [hy316]; exact H) | exact H
            have Ny316 := Aside0.mk hy316
            clear hy316
            replace H := Option.bind_eq_some_iff.mp H
            obtain ⟨t320, A180, H⟩ := H
            replace H : ((bourseref22_lesser.f (IntKind.u64.wrap ((IntKind.u64.wrap (a0 - t315)) - t320)) x10_1).bind fun t321 => (if x10_1 > 0 then ((bourseref01_Share.f k1 t321 x11_1).bind fun bt322 => (some (t315, t320, bt322.1, IntKind.u64.wrap ((IntKind.u64.wrap ((IntKind.u64.wrap (a0 - t315)) - t320)) - t321), 0))) else (some (t315, t320, y316, IntKind.u64.wrap ((IntKind.u64.wrap ((IntKind.u64.wrap (a0 - t315)) - t320)) - t321), 0)))) = some (r1, r2, r3, r4, r5) := H
            have A18 := Aside0.mk A180
            clear A180
            replace H := Option.bind_eq_some_iff.mp H
            obtain ⟨t321, A190, H⟩ := H
            replace H : (if x10_1 > 0 then ((bourseref01_Share.f k1 t321 x11_1).bind fun bt322 => (some (t315, t320, bt322.1, IntKind.u64.wrap ((IntKind.u64.wrap ((IntKind.u64.wrap (a0 - t315)) - t320)) - t321), 0))) else (some (t315, t320, y316, IntKind.u64.wrap ((IntKind.u64.wrap ((IntKind.u64.wrap (a0 - t315)) - t320)) - t321), 0))) = some (r1, r2, r3, r4, r5) := H
            have A19 := Aside0.mk A190
            clear A190
            by_cases c20 : x10_1 > 0
            · rw [if_pos c20] at H
              have c20b0 : decide (0 < x10_1) = true := decide_eq_true c20
              clear c20
              replace H := Option.bind_eq_some_iff.mp H
              obtain ⟨⟨t322, t323⟩, A210, H⟩ := H
              replace H : (some (t315, t320, t322, IntKind.u64.wrap ((IntKind.u64.wrap ((IntKind.u64.wrap (a0 - t315)) - t320)) - t321), 0)) = some (r1, r2, r3, r4, r5) := H
              have A21 := Aside0.mk A210
              clear A210
              simp only [Option.some.injEq, Prod.mk.injEq] at H
              obtain ⟨rfl, rfl, rfl, rfl, rfl⟩ := H
              try go_wp2
              have n0_ := Aside0.mk (Kd.R_drew HO_11.out)
              have n1_ := Aside0.mk (blk_drew BK307.out)
              have n2_ := Aside0.mk (below_drew1 HB.out)
              clear HO_11
              clear BK307
              clear HB
              have HO_11 := n0_
              have BK307 := n1_
              have HB := n2_
              clear n0_ n1_ n2_
              refine start_ (n := 9) (S := fun w' => True) (ds := []) #[false, false, false, false, false, false, false, false, false] (by kernel_rfl) rfl rfl trivial (fun hHeld => ?_); refine with_tabW bourseref22_Bear.tab11 bourseref22_Bear.bits11 (fun HT_ HW_ => ?_)
              generalize wr.drew = w22 at HO_11 BK307 HB hHeld ⊢
              refine pure_ (i := 0) (N := some 47) (v := ?_) (a' := ?_) #[true, false, false, false, false, false, false, false, false] rfl rfl (any_of HT_.out (by kernel_rfl)) (fun _ _ _ h => h) (Or.inl ⟨by rfl, ?_⟩) ?_ ?_
              rotate_left
              · intro w'
                go_simp
                with_reducible rfl
              rotate_left
              · simp only [Act.put, List.setIfInBounds_toArray, List.set_cons_zero, List.set_cons_succ, i64_w, i32_w]
                rfl
              refine pure_ (i := 1) (N := some 48) (v := ?_) (a' := ?_) #[true, true, false, false, false, false, false, false, false] rfl rfl (any_of HT_.out (by kernel_rfl)) (fun _ _ _ h => h) (Or.inl ⟨by rfl, ?_⟩) ?_ ?_
              rotate_left
              · intro w'
                go_simp
                with_reducible rfl
              rotate_left
              · simp only [Act.put, List.setIfInBounds_toArray, List.set_cons_zero, List.set_cons_succ, i64_w, i32_w]
                rfl
              refine pure_ (i := 3) (N := some 50) (v := ?_) (a' := ?_) #[true, true, false, true, false, false, false, false, false] rfl rfl (any_of HT_.out (by kernel_rfl)) (fun _ _ _ h => h) (Or.inl ⟨by rfl, ?_⟩) ?_ ?_
              rotate_left
              · intro w'
                go_simp
                with_reducible rfl
              rotate_left
              · simp only [Act.put, List.setIfInBounds_toArray, List.set_cons_zero, List.set_cons_succ, i64_w, i32_w]
                rfl
              refine pure_ (i := 4) (N := some 51) (v := ?_) (a' := ?_) #[true, true, false, true, true, false, false, false, false] rfl rfl (any_of HT_.out (by kernel_rfl)) (fun _ _ _ h => h) (Or.inl ⟨by rfl, ?_⟩) ?_ ?_
              rotate_left
              · intro w'
                go_simp
                with_reducible rfl
              rotate_left
              · simp only [Act.put, List.setIfInBounds_toArray, List.set_cons_zero, List.set_cons_succ, i64_w, i32_w]
                rfl
              refine join_ (σ := Value × Nat) 1 #[true, true, true, true, true, true, true, true, false] (fun s_ => [(49, .int .u64 t315), (52, s_.1), (15, .pointer (some ⟨s_.2, 0, none⟩)), (53, .agg #[.int .u64 t315, .int .u64 0, s_.1, .int .u64 0])]) (fun s_ w' => (Kd.R (Kd.int .u64) 29 w' w.heap.size (fun k_ => some k_ ≠ (u11 : Value).ownBlock) s_.1 y316) ∧ (Kd.R (Kd.int .u64) 29 w' w.heap.size (fun k_ => some k_ ≠ (s_.1 : Value).ownBlock) u11 x11_1) ∧ (w'.heap[gb307]? = some (.cells #[.int .u64 x308000_1, .int .u64 x308001_1, .slice none 0 0, .int .u64 x308003_1] 41 (0, 0))) ∧ (w'.heap[s_.2]? = some (.cells #[.int .u64 0, .int .u64 0, .slice none 0 0, .int .u64 0] 41 (0, 0))) ∧ (w.heap.size ≤ s_.2) ∧ (w.heap.size ≤ s_.2) ∧ (gb307 ≠ s_.2) ∧ (s_.2 ≠ gb307) ∧ (Below w.heap.size w w')) ?_ ?_
              rotate_left
              · intro hJ2_5_7
                refine join_ (σ := Value) 2 #[true, true, true, true, true, true, true, false, false] (fun s_ => [(49, .int .u64 t315), (52, s_), (53, .agg #[.int .u64 t315, .int .u64 0, s_, .int .u64 0])]) (fun s_ w' => (Kd.R (Kd.int .u64) 29 w' w.heap.size (fun k_ => some k_ ≠ (u11 : Value).ownBlock) s_ y316) ∧ (Kd.R (Kd.int .u64) 29 w' w.heap.size (fun k_ => some k_ ≠ (s_ : Value).ownBlock) u11 x11_1) ∧ (w'.heap[gb307]? = some (.cells #[.int .u64 x308000_1, .int .u64 x308001_1, .slice none 0 0, .int .u64 x308003_1] 41 (0, 0))) ∧ (Below w.heap.size w w')) ?_ ?_
                rotate_left
                · intro hJ2_5
                  refine join_ (σ := Nat) 3 #[true, true, true, true, true, false, false, true, false] (fun s_ => [(49, .int .u64 t315), (15, .pointer (some ⟨s_, 0, none⟩))]) (fun s_ w' => (Kd.R (Kd.int .u64) 29 w' w.heap.size (fun _ => True) u11 x11_1) ∧ (w'.heap[gb307]? = some (.cells #[.int .u64 x308000_1, .int .u64 x308001_1, .slice none 0 0, .int .u64 x308003_1] 41 (0, 0))) ∧ (w'.heap[s_]? = some (.cells #[.int .u64 0, .int .u64 0, .slice none 0 0, .int .u64 0] 41 (0, 0))) ∧ (w.heap.size ≤ s_) ∧ (w.heap.size ≤ s_) ∧ (gb307 ≠ s_) ∧ (s_ ≠ gb307) ∧ (Below w.heap.size w w')) ?_ ?_
                  rotate_left
                  · intro hJ2_7
                    refine join_ (σ := Value × Nat) 3 #[true, true, false, true, true, true, false, true, false] (fun s_ => [(52, s_.1), (15, .pointer (some ⟨s_.2, 0, none⟩))]) (fun s_ w' => (Kd.R (Kd.int .u64) 29 w' w.heap.size (fun k_ => some k_ ≠ (u11 : Value).ownBlock) s_.1 y316) ∧ (Kd.R (Kd.int .u64) 29 w' w.heap.size (fun k_ => some k_ ≠ (s_.1 : Value).ownBlock) u11 x11_1) ∧ (w'.heap[gb307]? = some (.cells #[.int .u64 x308000_1, .int .u64 x308001_1, .slice none 0 0, .int .u64 x308003_1] 41 (0, 0))) ∧ (w'.heap[s_.2]? = some (.cells #[.int .u64 0, .int .u64 0, .slice none 0 0, .int .u64 0] 41 (0, 0))) ∧ (w.heap.size ≤ s_.2) ∧ (w.heap.size ≤ s_.2) ∧ (gb307 ≠ s_.2) ∧ (s_.2 ≠ gb307) ∧ (Below w.heap.size w w')) ?_ ?_
                    rotate_left
                    · intro hJ5_7
                      refine join_ (σ := Unit) 4 #[true, true, true, true, true, false, false, false, false] (fun s_ => [(49, .int .u64 t315)]) (fun s_ w' => (Kd.R (Kd.int .u64) 29 w' w.heap.size (fun _ => True) u11 x11_1) ∧ (w'.heap[gb307]? = some (.cells #[.int .u64 x308000_1, .int .u64 x308001_1, .slice none 0 0, .int .u64 x308003_1] 41 (0, 0))) ∧ (Below w.heap.size w w')) ?_ ?_
                      rotate_left
                      · intro hJ2
                        refine join_ (σ := Value) 4 #[true, true, false, true, true, true, false, false, false] (fun s_ => [(52, s_)]) (fun s_ w' => (Kd.R (Kd.int .u64) 29 w' w.heap.size (fun k_ => some k_ ≠ (u11 : Value).ownBlock) s_ y316) ∧ (Kd.R (Kd.int .u64) 29 w' w.heap.size (fun k_ => some k_ ≠ (s_ : Value).ownBlock) u11 x11_1) ∧ (w'.heap[gb307]? = some (.cells #[.int .u64 x308000_1, .int .u64 x308001_1, .slice none 0 0, .int .u64 x308003_1] 41 (0, 0))) ∧ (Below w.heap.size w w')) ?_ ?_
                        rotate_left
                        · intro hJ5
                          refine join_ (σ := Nat) 4 #[true, true, false, true, true, false, false, true, false] (fun s_ => [(15, .pointer (some ⟨s_, 0, none⟩))]) (fun s_ w' => (Kd.R (Kd.int .u64) 29 w' w.heap.size (fun _ => True) u11 x11_1) ∧ (w'.heap[gb307]? = some (.cells #[.int .u64 x308000_1, .int .u64 x308001_1, .slice none 0 0, .int .u64 x308003_1] 41 (0, 0))) ∧ (w'.heap[s_]? = some (.cells #[.int .u64 0, .int .u64 0, .slice none 0 0, .int .u64 0] 41 (0, 0))) ∧ (w.heap.size ≤ s_) ∧ (w.heap.size ≤ s_) ∧ (gb307 ≠ s_) ∧ (s_ ≠ gb307) ∧ (Below w.heap.size w w')) ?_ ?_
                          rotate_left
                          · intro hJ7
                            refine three_ (i := 2) (j := 5) (k := 7) (Ni := some 49) (Nj := some 52) (Nk := some 15) #[true, true, true, true, true, false, false, false, false] #[true, true, false, true, true, true, false, false, false] #[true, true, false, true, true, false, false, true, false] rfl rfl rfl rfl rfl rfl (three_of HT_.out (by kernel_rfl)) (by decide) (by decide) (by decide) (fun K hK => ?_) (fun K hK => ?_) (fun K hK => ?_)
                            · skip
                              refine goes_ Try.func49 (by kernel_rfl) rfl #[.int .u64 a0, .int .u64 a1] (by rfl) rfl rfl (by (try simp only [List.map_toArray, List.map_cons, List.map_nil]); first | done | rfl | (simp only [List.length_drop, List.length_take]; rfl)) ?_
                              with_reducible refine (bourseref22_lesser.calls a0 a1 t315 _ A15.out).mono ?_
                              rintro e w' ⟨rfl, ⟨nd, rfl⟩⟩
                              refine ⟨_, rfl, ?_⟩
                              refine hK.out _ _ trivial (fun hHeld => ?_)
                              clear hK K
                              refine norm_ (a' := ?_) ?_ ?_
                              rotate_left
                              · show Act.put _ (some 49) _ = _
                                simp only [Act.put, List.setIfInBounds_toArray, List.set_cons_zero, List.set_cons_succ, i64_w, i32_w]
                                rfl
                              exact norm_ (by first | (simp only [putAll, Act.put, List.setIfInBounds_toArray, List.set_cons_zero, List.set_cons_succ]; done) | (simp only [putAll, Act.put, List.setIfInBounds_toArray, List.set_cons_zero, List.set_cons_succ]; rfl)) (hJ2 () _ ⟨(by (with_reducible repeat (first | apply Kd.R_alloc | apply Kd.R_drewN | apply Kd.R_drew)); exact HO_11.out), (by (with_reducible repeat (first | refine blk_drewN ?_ _ | refine blk_drew ?_ | refine blk_alloc ?_ _)); exact BK307.out), (by repeat (first | (with_reducible first | exact HB.out | apply below_alloc | apply pw_below_drewN | apply below_drew1 | refine below_set ?_ GE307.out) | exact HB.out | exact Below.refl (World.heap _).size _))⟩)
                            · skip
                              refine Kd.R_make_step (Kd.int .u64) _ 29 (by rfl) (N := 52) rfl 39 _ _ rfl (l3.length : Int) rfl rfl Try.underlying39 (.int .u64 0) 8 info29 rfl (by decide) (by omega) 0 (ok := fun _ => True) (okp := fun _ => True) rfl (fun _ hk => hk) trivial (of_decide_eq_true (by first | (with_reducible assumption) | assumption)) (Nat.le_trans (Nat.mul_le_mul_right _ (of_decide_eq_true (by first | (with_reducible assumption) | assumption) : (l3.length : Int).toNat ≤ 35184372088832)) (by omega)) (Below.refl _ _) (Nat.le_refl _) ?_
                              intro v317 w23 ho24 hb hg_ hnew_
                              clear hg_ hnew_
                              (first | rw [← Ny316.out] at ho24 | (simp only [Int.reduceToNat] at ho24; rw [← Ny316.out] at ho24))
                              have n0_ := Aside0.mk (Kd.R_elder' (by (with_reducible repeat (first | apply Kd.R_alloc | apply Kd.R_drewN | apply Kd.R_drew)); exact HO_11.out) (Kd.R_base ho24) hb)
                              have n1_ := Aside0.mk (Kd.R_lower (Kd.R_new' ho24 (Kd.R_lt (by (with_reducible repeat (first | apply Kd.R_alloc | apply Kd.R_drewN | apply Kd.R_drew)); exact HO_11.out))) (below_size (by repeat (first | (with_reducible first | exact HB.out | apply below_alloc | apply pw_below_drewN | apply below_drew1 | refine below_set ?_ GE307.out) | exact HB.out | exact Below.refl (World.heap _).size _))))
                              have n2_ := Aside0.mk (blk_below (g := gb307) (o := .cells #[.int .u64 x308000_1, .int .u64 x308001_1, .slice none 0 0, .int .u64 x308003_1] 41 (0, 0)) (by (with_reducible repeat (first | refine blk_drewN ?_ _ | refine blk_drew ?_ | refine blk_alloc ?_ _)); exact BK307.out) hb)
                              have n3_ := Aside0.mk (below_step (by repeat (first | (with_reducible first | exact HB.out | apply below_alloc | apply pw_below_drewN | apply below_drew1 | refine below_set ?_ GE307.out) | exact HB.out | exact Below.refl (World.heap _).size _)) hb)
                              clear HO_11
                              clear BK307
                              clear HB
                              have HO_11 := n0_
                              have HO318 := n1_
                              have BK307 := n2_
                              have HB := n3_
                              clear n0_ n1_ n2_ n3_
                              clear hb ho24
                              refine hK.out _ _ trivial (fun hHeld => ?_)
                              clear hK K
                              refine norm_ (a' := ?_) ?_ ?_
                              rotate_left
                              · show Act.put _ (some 52) _ = _
                                simp only [Act.put, List.setIfInBounds_toArray, List.set_cons_zero, List.set_cons_succ, i64_w, i32_w]
                                rfl
                              exact norm_ (by first | (simp only [putAll, Act.put, List.setIfInBounds_toArray, List.set_cons_zero, List.set_cons_succ]; done) | (simp only [putAll, Act.put, List.setIfInBounds_toArray, List.set_cons_zero, List.set_cons_succ]; rfl)) (hJ5 (v317) _ ⟨(by (with_reducible repeat (first | apply Kd.R_alloc | apply Kd.R_drewN | apply Kd.R_drew)); exact Kd.R_mono HO318.out (fun _ hk => hk.2)), (by (with_reducible repeat (first | apply Kd.R_alloc | apply Kd.R_drewN | apply Kd.R_drew)); exact Kd.R_mono HO_11.out (fun _ hk => hk.2)), (by (with_reducible repeat (first | refine blk_drewN ?_ _ | refine blk_drew ?_ | refine blk_alloc ?_ _)); exact BK307.out), (by repeat (first | (with_reducible first | exact HB.out | apply below_alloc | apply pw_below_drewN | apply below_drew1 | refine below_set ?_ GE307.out) | exact HB.out | exact Below.refl (World.heap _).size _))⟩)
                            · skip
                              refine box_step ?hg (N := 15) ?hd (cs := #[.int .u64 0, .int .u64 0, .slice none 0 0, .int .u64 0]) (t := 41) ?hr ?_; (case hd => rfl); (case hg => rfl); (case hr => first | (go_simp; done) | (go_simp; rfl))
                              intro gb319 hg w23 hbox hb
                              have n0_ := Aside0.mk (Kd.R_below (by (with_reducible repeat (first | apply Kd.R_alloc | apply Kd.R_drewN | apply Kd.R_drew)); exact HO_11.out) hb)
                              have n1_ := Aside0.mk (blk_below (g := gb307) (o := .cells #[.int .u64 x308000_1, .int .u64 x308001_1, .slice none 0 0, .int .u64 x308003_1] 41 (0, 0)) (by (with_reducible repeat (first | refine blk_drewN ?_ _ | refine blk_drew ?_ | refine blk_alloc ?_ _)); exact BK307.out) hb)
                              have n2_ := Aside0.mk (below_step (by repeat (first | (with_reducible first | exact HB.out | apply below_alloc | apply pw_below_drewN | apply below_drew1 | refine below_set ?_ GE307.out) | exact HB.out | exact Below.refl (World.heap _).size _)) hb)
                              have n3_ := Aside0.mk (hbox)
                              have n4_ := Aside0.mk ((by rw [hg]; exact (below_size (by repeat (first | (with_reducible first | exact HB.out | apply below_alloc | apply pw_below_drewN | apply below_drew1 | refine below_set ?_ GE307.out) | exact HB.out | exact Below.refl (World.heap _).size _))) : w.heap.size ≤ gb319))
                              have n5_ := Aside0.mk ((by rw [hg]; exact (below_size (by repeat (first | (with_reducible first | exact HB.out | apply below_alloc | apply pw_below_drewN | apply below_drew1 | refine below_set ?_ GE307.out) | exact HB.out | exact Below.refl (World.heap _).size _))) : w.heap.size ≤ gb319))
                              have n6_ := Aside0.mk ((by rw [hg]; exact Nat.ne_of_lt (blk_lt (g := gb307) (o := .cells #[.int .u64 x308000_1, .int .u64 x308001_1, .slice none 0 0, .int .u64 x308003_1] 41 (0, 0)) (by (with_reducible repeat (first | refine blk_drewN ?_ _ | refine blk_drew ?_ | refine blk_alloc ?_ _)); exact BK307.out)) : gb307 ≠ gb319))
                              have n7_ := Aside0.mk ((by rw [hg]; exact Nat.ne_of_gt (blk_lt (g := gb307) (o := .cells #[.int .u64 x308000_1, .int .u64 x308001_1, .slice none 0 0, .int .u64 x308003_1] 41 (0, 0)) (by (with_reducible repeat (first | refine blk_drewN ?_ _ | refine blk_drew ?_ | refine blk_alloc ?_ _)); exact BK307.out)) : gb319 ≠ gb307))
                              clear HO_11
                              clear BK307
                              clear HB
                              have HO_11 := n0_
                              have BK307 := n1_
                              have HB := n2_
                              have BK319 := n3_
                              have GW319 := n4_
                              have GE319 := n5_
                              have NB307_319 := n6_
                              have NB319_307 := n7_
                              clear n0_ n1_ n2_ n3_ n4_ n5_ n6_ n7_
                              clear hb hbox hg
                              refine hK.out _ _ trivial (fun hHeld => ?_)
                              clear hK K
                              refine norm_ (a' := ?_) ?_ ?_
                              rotate_left
                              · show Act.put _ (some 15) _ = _
                                simp only [Act.put, List.setIfInBounds_toArray, List.set_cons_zero, List.set_cons_succ, i64_w, i32_w]
                                rfl
                              exact norm_ (by first | (simp only [putAll, Act.put, List.setIfInBounds_toArray, List.set_cons_zero, List.set_cons_succ]; done) | (simp only [putAll, Act.put, List.setIfInBounds_toArray, List.set_cons_zero, List.set_cons_succ]; rfl)) (hJ7 (gb319) _ ⟨(by (with_reducible repeat (first | apply Kd.R_alloc | apply Kd.R_drewN | apply Kd.R_drew)); exact HO_11.out), (by (with_reducible repeat (first | refine blk_drewN ?_ _ | refine blk_drew ?_ | refine blk_alloc ?_ _)); exact BK307.out), (by (with_reducible repeat (first | refine blk_drewN ?_ _ | refine blk_drew ?_ | refine blk_alloc ?_ _)); exact BK319.out), GW319.out, GE319.out, NB307_319.out, NB319_307.out, (by repeat (first | (with_reducible first | exact HB.out | apply below_alloc | apply pw_below_drewN | apply below_drew1 | refine below_set ?_ GE307.out | refine below_set ?_ GE319.out) | exact HB.out | exact Below.refl (World.heap _).size _))⟩)
                          · skip
                            rintro gb319 w24 ⟨h0_, h1_, h2_, h3_, h4_, h5_, h6_, h7_⟩
                            have n0_ : Aside0 (Kd.R (Kd.int .u64) 29 w24 w.heap.size (fun _ => True) u11 x11_1) := ⟨h0_⟩
                            have n1_ : Aside0 (w24.heap[gb307]? = some (.cells #[.int .u64 x308000_1, .int .u64 x308001_1, .slice none 0 0, .int .u64 x308003_1] 41 (0, 0))) := ⟨h1_⟩
                            have n2_ : Aside0 (w24.heap[gb319]? = some (.cells #[.int .u64 0, .int .u64 0, .slice none 0 0, .int .u64 0] 41 (0, 0))) := ⟨h2_⟩
                            have n3_ : Aside0 (w.heap.size ≤ gb319) := ⟨h3_⟩
                            have n4_ : Aside0 (w.heap.size ≤ gb319) := ⟨h4_⟩
                            have n5_ : Aside0 (gb307 ≠ gb319) := ⟨h5_⟩
                            have n6_ : Aside0 (gb319 ≠ gb307) := ⟨h6_⟩
                            have n7_ : Aside0 (Below w.heap.size w w24) := ⟨h7_⟩
                            clear HO_11
                            clear BK307
                            clear HB
                            clear h0_ h1_ h2_ h3_ h4_ h5_ h6_ h7_
                            have HO_11 := n0_
                            have BK307 := n1_
                            have BK319 := n2_
                            have GW319 := n3_
                            have GE319 := n4_
                            have NB307_319 := n5_
                            have NB319_307 := n6_
                            have HB := n7_
                            clear n0_ n1_ n2_ n3_ n4_ n5_ n6_ n7_
                            have hHeld := trivial
                            refine norm_ (a' := ?_) ?_ ?_
                            rotate_left
                            · simp only [putAll, Act.put, List.setIfInBounds_toArray, List.set_cons_zero, List.set_cons_succ]
                              rfl
                            refine two_ (i := 2) (j := 5) (Ni := some 49) (Nj := some 52) #[true, true, true, true, true, false, false, true, false] #[true, true, false, true, true, true, false, true, false] rfl rfl rfl rfl (two_of HT_.out (by kernel_rfl)) (by decide) (by decide) (fun K hK => ?_) (fun K hK => ?_)
                            · skip
                              refine goes_ Try.func49 (by kernel_rfl) rfl #[.int .u64 a0, .int .u64 a1] (by rfl) rfl rfl (by (try simp only [List.map_toArray, List.map_cons, List.map_nil]); first | done | rfl | (simp only [List.length_drop, List.length_take]; rfl)) ?_
                              with_reducible refine (bourseref22_lesser.calls a0 a1 t315 _ A15.out).mono ?_
                              rintro e w' ⟨rfl, ⟨nd, rfl⟩⟩
                              refine ⟨_, rfl, ?_⟩
                              refine hK.out _ _ trivial (fun hHeld => ?_)
                              clear hK K
                              refine norm_ (a' := ?_) ?_ ?_
                              rotate_left
                              · show Act.put _ (some 49) _ = _
                                simp only [Act.put, List.setIfInBounds_toArray, List.set_cons_zero, List.set_cons_succ, i64_w, i32_w]
                                rfl
                              exact norm_ (by first | (simp only [putAll, Act.put, List.setIfInBounds_toArray, List.set_cons_zero, List.set_cons_succ]; done) | (simp only [putAll, Act.put, List.setIfInBounds_toArray, List.set_cons_zero, List.set_cons_succ]; rfl)) (hJ2_7 (gb319) _ ⟨(by (with_reducible repeat (first | apply Kd.R_alloc | apply Kd.R_drewN | apply Kd.R_drew)); exact HO_11.out), (by (with_reducible repeat (first | refine blk_drewN ?_ _ | refine blk_drew ?_ | refine blk_alloc ?_ _)); exact BK307.out), (by (with_reducible repeat (first | refine blk_drewN ?_ _ | refine blk_drew ?_ | refine blk_alloc ?_ _)); exact BK319.out), GW319.out, GE319.out, NB307_319.out, NB319_307.out, (by repeat (first | (with_reducible first | exact HB.out | apply below_alloc | apply pw_below_drewN | apply below_drew1 | refine below_set ?_ GE307.out | refine below_set ?_ GE319.out) | exact HB.out | exact Below.refl (World.heap _).size _))⟩)
                            · skip
                              refine Kd.R_make_step (Kd.int .u64) _ 29 (by rfl) (N := 52) rfl 39 _ _ rfl (l3.length : Int) rfl rfl Try.underlying39 (.int .u64 0) 8 info29 rfl (by decide) (by omega) 0 (ok := fun _ => True) (okp := fun _ => True) rfl (fun _ hk => hk) trivial (of_decide_eq_true (by first | (with_reducible assumption) | assumption)) (Nat.le_trans (Nat.mul_le_mul_right _ (of_decide_eq_true (by first | (with_reducible assumption) | assumption) : (l3.length : Int).toNat ≤ 35184372088832)) (by omega)) (Below.refl _ _) (Nat.le_refl _) ?_
                              intro v317 w25 ho26 hb hg_ hnew_
                              clear hg_ hnew_
                              (first | rw [← Ny316.out] at ho26 | (simp only [Int.reduceToNat] at ho26; rw [← Ny316.out] at ho26))
                              have n0_ := Aside0.mk (Kd.R_elder' (by (with_reducible repeat (first | apply Kd.R_alloc | apply Kd.R_drewN | apply Kd.R_drew)); exact HO_11.out) (Kd.R_base ho26) hb)
                              have n1_ := Aside0.mk (Kd.R_lower (Kd.R_new' ho26 (Kd.R_lt (by (with_reducible repeat (first | apply Kd.R_alloc | apply Kd.R_drewN | apply Kd.R_drew)); exact HO_11.out))) (below_size (by repeat (first | (with_reducible first | exact HB.out | apply below_alloc | apply pw_below_drewN | apply below_drew1 | refine below_set ?_ GE307.out | refine below_set ?_ GE319.out) | exact HB.out | exact Below.refl (World.heap _).size _))))
                              have n2_ := Aside0.mk (blk_below (g := gb307) (o := .cells #[.int .u64 x308000_1, .int .u64 x308001_1, .slice none 0 0, .int .u64 x308003_1] 41 (0, 0)) (by (with_reducible repeat (first | refine blk_drewN ?_ _ | refine blk_drew ?_ | refine blk_alloc ?_ _)); exact BK307.out) hb)
                              have n3_ := Aside0.mk (blk_below (g := gb319) (o := .cells #[.int .u64 0, .int .u64 0, .slice none 0 0, .int .u64 0] 41 (0, 0)) (by (with_reducible repeat (first | refine blk_drewN ?_ _ | refine blk_drew ?_ | refine blk_alloc ?_ _)); exact BK319.out) hb)
                              have n4_ := Aside0.mk (below_step (by repeat (first | (with_reducible first | exact HB.out | apply below_alloc | apply pw_below_drewN | apply below_drew1 | refine below_set ?_ GE307.out | refine below_set ?_ GE319.out) | exact HB.out | exact Below.refl (World.heap _).size _)) hb)
                              clear HO_11
                              clear BK307
                              clear BK319
                              clear HB
                              have HO_11 := n0_
                              have HO318 := n1_
                              have BK307 := n2_
                              have BK319 := n3_
                              have HB := n4_
                              clear n0_ n1_ n2_ n3_ n4_
                              clear hb ho26
                              refine hK.out _ _ trivial (fun hHeld => ?_)
                              clear hK K
                              refine norm_ (a' := ?_) ?_ ?_
                              rotate_left
                              · show Act.put _ (some 52) _ = _
                                simp only [Act.put, List.setIfInBounds_toArray, List.set_cons_zero, List.set_cons_succ, i64_w, i32_w]
                                rfl
                              exact norm_ (by first | (simp only [putAll, Act.put, List.setIfInBounds_toArray, List.set_cons_zero, List.set_cons_succ]; done) | (simp only [putAll, Act.put, List.setIfInBounds_toArray, List.set_cons_zero, List.set_cons_succ]; rfl)) (hJ5_7 (v317, gb319) _ ⟨(by (with_reducible repeat (first | apply Kd.R_alloc | apply Kd.R_drewN | apply Kd.R_drew)); exact Kd.R_mono HO318.out (fun _ hk => hk.2)), (by (with_reducible repeat (first | apply Kd.R_alloc | apply Kd.R_drewN | apply Kd.R_drew)); exact Kd.R_mono HO_11.out (fun _ hk => hk.2)), (by (with_reducible repeat (first | refine blk_drewN ?_ _ | refine blk_drew ?_ | refine blk_alloc ?_ _)); exact BK307.out), (by (with_reducible repeat (first | refine blk_drewN ?_ _ | refine blk_drew ?_ | refine blk_alloc ?_ _)); exact BK319.out), GW319.out, GE319.out, NB307_319.out, NB319_307.out, (by repeat (first | (with_reducible first | exact HB.out | apply below_alloc | apply pw_below_drewN | apply below_drew1 | refine below_set ?_ GE307.out | refine below_set ?_ GE319.out) | exact HB.out | exact Below.refl (World.heap _).size _))⟩)
                        · skip
                          rintro v317 w25 ⟨h0_, h1_, h2_, h3_⟩
                          have n0_ : Aside0 (Kd.R (Kd.int .u64) 29 w25 w.heap.size (fun k_ => some k_ ≠ (u11 : Value).ownBlock) v317 y316) := ⟨h0_⟩
                          have n1_ : Aside0 (Kd.R (Kd.int .u64) 29 w25 w.heap.size (fun k_ => some k_ ≠ (v317 : Value).ownBlock) u11 x11_1) := ⟨h1_⟩
                          have n2_ : Aside0 (w25.heap[gb307]? = some (.cells #[.int .u64 x308000_1, .int .u64 x308001_1, .slice none 0 0, .int .u64 x308003_1] 41 (0, 0))) := ⟨h2_⟩
                          have n3_ : Aside0 (Below w.heap.size w w25) := ⟨h3_⟩
                          clear HO_11
                          clear BK307
                          clear HB
                          clear h0_ h1_ h2_ h3_
                          have HO318 := n0_
                          have HO_11 := n1_
                          have BK307 := n2_
                          have HB := n3_
                          clear n0_ n1_ n2_ n3_
                          have hHeld := trivial
                          refine norm_ (a' := ?_) ?_ ?_
                          rotate_left
                          · simp only [putAll, Act.put, List.setIfInBounds_toArray, List.set_cons_zero, List.set_cons_succ]
                            rfl
                          refine two_ (i := 2) (j := 7) (Ni := some 49) (Nj := some 15) #[true, true, true, true, true, true, false, false, false] #[true, true, false, true, true, true, false, true, false] rfl rfl rfl rfl (two_of HT_.out (by kernel_rfl)) (by decide) (by decide) (fun K hK => ?_) (fun K hK => ?_)
                          · skip
                            refine goes_ Try.func49 (by kernel_rfl) rfl #[.int .u64 a0, .int .u64 a1] (by rfl) rfl rfl (by (try simp only [List.map_toArray, List.map_cons, List.map_nil]); first | done | rfl | (simp only [List.length_drop, List.length_take]; rfl)) ?_
                            with_reducible refine (bourseref22_lesser.calls a0 a1 t315 _ A15.out).mono ?_
                            rintro e w' ⟨rfl, ⟨nd, rfl⟩⟩
                            refine ⟨_, rfl, ?_⟩
                            obtain ⟨Ao26, co26, eo26⟩ := Kd.R_slice HO318.out
                            (first | subst eo26 | (injection eo26 with f1_ f2_ f3_; have f4_ := f1_.symm; have f5_ := f3_.symm; clear f1_ f2_ f3_; subst f4_; subst f5_))
                            refine hK.out _ _ trivial (fun hHeld => ?_)
                            clear hK K
                            refine norm_ (a' := ?_) ?_ ?_
                            rotate_left
                            · show Act.put _ (some 49) _ = _
                              simp only [Act.put, List.setIfInBounds_toArray, List.set_cons_zero, List.set_cons_succ, i64_w, i32_w]
                              rfl
                            refine pure_ (i := 6) (N := some 53) (v := ?_) (a' := ?_) #[true, true, true, true, true, true, true, false, false] rfl rfl (any_of HT_.out (by kernel_rfl)) (fun _ _ _ h => h) (Or.inl ⟨by rfl, ?_⟩) ?_ ?_
                            rotate_left
                            · intro w'
                              go_simp
                              with_reducible rfl
                            rotate_left
                            · simp only [Act.put, List.setIfInBounds_toArray, List.set_cons_zero, List.set_cons_succ, i64_w, i32_w]
                              rfl
                            exact norm_ (by first | (simp only [putAll, Act.put, List.setIfInBounds_toArray, List.set_cons_zero, List.set_cons_succ]; done) | (simp only [putAll, Act.put, List.setIfInBounds_toArray, List.set_cons_zero, List.set_cons_succ]; rfl)) (hJ2_5 (.slice Ao26 y316.length co26) _ ⟨(by (with_reducible repeat (first | apply Kd.R_alloc | apply Kd.R_drewN | apply Kd.R_drew)); exact HO318.out), (by (with_reducible repeat (first | apply Kd.R_alloc | apply Kd.R_drewN | apply Kd.R_drew)); exact HO_11.out), (by (with_reducible repeat (first | refine blk_drewN ?_ _ | refine blk_drew ?_ | refine blk_alloc ?_ _)); exact BK307.out), (by repeat (first | (with_reducible first | exact HB.out | apply below_alloc | apply pw_below_drewN | apply below_drew1 | refine below_set ?_ GE307.out) | exact HB.out | exact Below.refl (World.heap _).size _))⟩)
                          · skip
                            refine box_step ?hg (N := 15) ?hd (cs := #[.int .u64 0, .int .u64 0, .slice none 0 0, .int .u64 0]) (t := 41) ?hr ?_; (case hd => rfl); (case hg => rfl); (case hr => first | (go_simp; done) | (go_simp; rfl))
                            intro gb319 hg w26 hbox hb
                            have n0_ := Aside0.mk (Kd.R_below (by (with_reducible repeat (first | apply Kd.R_alloc | apply Kd.R_drewN | apply Kd.R_drew)); exact HO_11.out) hb)
                            have n1_ := Aside0.mk (Kd.R_below (by (with_reducible repeat (first | apply Kd.R_alloc | apply Kd.R_drewN | apply Kd.R_drew)); exact HO318.out) hb)
                            have n2_ := Aside0.mk (blk_below (g := gb307) (o := .cells #[.int .u64 x308000_1, .int .u64 x308001_1, .slice none 0 0, .int .u64 x308003_1] 41 (0, 0)) (by (with_reducible repeat (first | refine blk_drewN ?_ _ | refine blk_drew ?_ | refine blk_alloc ?_ _)); exact BK307.out) hb)
                            have n3_ := Aside0.mk (below_step (by repeat (first | (with_reducible first | exact HB.out | apply below_alloc | apply pw_below_drewN | apply below_drew1 | refine below_set ?_ GE307.out) | exact HB.out | exact Below.refl (World.heap _).size _)) hb)
                            have n4_ := Aside0.mk (hbox)
                            have n5_ := Aside0.mk ((by rw [hg]; exact (below_size (by repeat (first | (with_reducible first | exact HB.out | apply below_alloc | apply pw_below_drewN | apply below_drew1 | refine below_set ?_ GE307.out) | exact HB.out | exact Below.refl (World.heap _).size _))) : w.heap.size ≤ gb319))
                            have n6_ := Aside0.mk ((by rw [hg]; exact (below_size (by repeat (first | (with_reducible first | exact HB.out | apply below_alloc | apply pw_below_drewN | apply below_drew1 | refine below_set ?_ GE307.out) | exact HB.out | exact Below.refl (World.heap _).size _))) : w.heap.size ≤ gb319))
                            have n7_ := Aside0.mk ((by rw [hg]; exact Nat.ne_of_lt (blk_lt (g := gb307) (o := .cells #[.int .u64 x308000_1, .int .u64 x308001_1, .slice none 0 0, .int .u64 x308003_1] 41 (0, 0)) (by (with_reducible repeat (first | refine blk_drewN ?_ _ | refine blk_drew ?_ | refine blk_alloc ?_ _)); exact BK307.out)) : gb307 ≠ gb319))
                            have n8_ := Aside0.mk ((by rw [hg]; exact Nat.ne_of_gt (blk_lt (g := gb307) (o := .cells #[.int .u64 x308000_1, .int .u64 x308001_1, .slice none 0 0, .int .u64 x308003_1] 41 (0, 0)) (by (with_reducible repeat (first | refine blk_drewN ?_ _ | refine blk_drew ?_ | refine blk_alloc ?_ _)); exact BK307.out)) : gb319 ≠ gb307))
                            clear HO_11
                            clear HO318
                            clear BK307
                            clear HB
                            have HO_11 := n0_
                            have HO318 := n1_
                            have BK307 := n2_
                            have HB := n3_
                            have BK319 := n4_
                            have GW319 := n5_
                            have GE319 := n6_
                            have NB307_319 := n7_
                            have NB319_307 := n8_
                            clear n0_ n1_ n2_ n3_ n4_ n5_ n6_ n7_ n8_
                            clear hb hbox hg
                            refine hK.out _ _ trivial (fun hHeld => ?_)
                            clear hK K
                            refine norm_ (a' := ?_) ?_ ?_
                            rotate_left
                            · show Act.put _ (some 15) _ = _
                              simp only [Act.put, List.setIfInBounds_toArray, List.set_cons_zero, List.set_cons_succ, i64_w, i32_w]
                              rfl
                            exact norm_ (by first | (simp only [putAll, Act.put, List.setIfInBounds_toArray, List.set_cons_zero, List.set_cons_succ]; done) | (simp only [putAll, Act.put, List.setIfInBounds_toArray, List.set_cons_zero, List.set_cons_succ]; rfl)) (hJ5_7 (v317, gb319) _ ⟨(by (with_reducible repeat (first | apply Kd.R_alloc | apply Kd.R_drewN | apply Kd.R_drew)); exact HO318.out), (by (with_reducible repeat (first | apply Kd.R_alloc | apply Kd.R_drewN | apply Kd.R_drew)); exact HO_11.out), (by (with_reducible repeat (first | refine blk_drewN ?_ _ | refine blk_drew ?_ | refine blk_alloc ?_ _)); exact BK307.out), (by (with_reducible repeat (first | refine blk_drewN ?_ _ | refine blk_drew ?_ | refine blk_alloc ?_ _)); exact BK319.out), GW319.out, GE319.out, NB307_319.out, NB319_307.out, (by repeat (first | (with_reducible first | exact HB.out | apply below_alloc | apply pw_below_drewN | apply below_drew1 | refine below_set ?_ GE307.out | refine below_set ?_ GE319.out) | exact HB.out | exact Below.refl (World.heap _).size _))⟩)
                      · skip
                        rintro _ w23 ⟨h0_, h1_, h2_⟩
                        have n0_ : Aside0 (Kd.R (Kd.int .u64) 29 w23 w.heap.size (fun _ => True) u11 x11_1) := ⟨h0_⟩
                        have n1_ : Aside0 (w23.heap[gb307]? = some (.cells #[.int .u64 x308000_1, .int .u64 x308001_1, .slice none 0 0, .int .u64 x308003_1] 41 (0, 0))) := ⟨h1_⟩
                        have n2_ : Aside0 (Below w.heap.size w w23) := ⟨h2_⟩
                        clear HO_11
                        clear BK307
                        clear HB
                        clear h0_ h1_ h2_
                        have HO_11 := n0_
                        have BK307 := n1_
                        have HB := n2_
                        clear n0_ n1_ n2_
                        have hHeld := trivial
                        refine norm_ (a' := ?_) ?_ ?_
                        rotate_left
                        · simp only [putAll, Act.put, List.setIfInBounds_toArray, List.set_cons_zero, List.set_cons_succ]
                          rfl
                        refine two_ (i := 5) (j := 7) (Ni := some 52) (Nj := some 15) #[true, true, true, true, true, true, false, false, false] #[true, true, true, true, true, false, false, true, false] rfl rfl rfl rfl (two_of HT_.out (by kernel_rfl)) (by decide) (by decide) (fun K hK => ?_) (fun K hK => ?_)
                        · skip
                          refine Kd.R_make_step (Kd.int .u64) _ 29 (by rfl) (N := 52) rfl 39 _ _ rfl (l3.length : Int) rfl rfl Try.underlying39 (.int .u64 0) 8 info29 rfl (by decide) (by omega) 0 (ok := fun _ => True) (okp := fun _ => True) rfl (fun _ hk => hk) trivial (of_decide_eq_true (by first | (with_reducible assumption) | assumption)) (Nat.le_trans (Nat.mul_le_mul_right _ (of_decide_eq_true (by first | (with_reducible assumption) | assumption) : (l3.length : Int).toNat ≤ 35184372088832)) (by omega)) (Below.refl _ _) (Nat.le_refl _) ?_
                          intro v317 w24 ho25 hb hg_ hnew_
                          clear hg_ hnew_
                          (first | rw [← Ny316.out] at ho25 | (simp only [Int.reduceToNat] at ho25; rw [← Ny316.out] at ho25))
                          have n0_ := Aside0.mk (Kd.R_elder' (by (with_reducible repeat (first | apply Kd.R_alloc | apply Kd.R_drewN | apply Kd.R_drew)); exact HO_11.out) (Kd.R_base ho25) hb)
                          have n1_ := Aside0.mk (Kd.R_lower (Kd.R_new' ho25 (Kd.R_lt (by (with_reducible repeat (first | apply Kd.R_alloc | apply Kd.R_drewN | apply Kd.R_drew)); exact HO_11.out))) (below_size (by repeat (first | (with_reducible first | exact HB.out | apply below_alloc | apply pw_below_drewN | apply below_drew1 | refine below_set ?_ GE307.out) | exact HB.out | exact Below.refl (World.heap _).size _))))
                          have n2_ := Aside0.mk (blk_below (g := gb307) (o := .cells #[.int .u64 x308000_1, .int .u64 x308001_1, .slice none 0 0, .int .u64 x308003_1] 41 (0, 0)) (by (with_reducible repeat (first | refine blk_drewN ?_ _ | refine blk_drew ?_ | refine blk_alloc ?_ _)); exact BK307.out) hb)
                          have n3_ := Aside0.mk (below_step (by repeat (first | (with_reducible first | exact HB.out | apply below_alloc | apply pw_below_drewN | apply below_drew1 | refine below_set ?_ GE307.out) | exact HB.out | exact Below.refl (World.heap _).size _)) hb)
                          clear HO_11
                          clear BK307
                          clear HB
                          have HO_11 := n0_
                          have HO318 := n1_
                          have BK307 := n2_
                          have HB := n3_
                          clear n0_ n1_ n2_ n3_
                          clear hb ho25
                          obtain ⟨Ao26, co26, eo26⟩ := Kd.R_slice HO318.out
                          (first | subst eo26 | (injection eo26 with f1_ f2_ f3_; have f4_ := f1_.symm; have f5_ := f3_.symm; clear f1_ f2_ f3_; subst f4_; subst f5_))
                          refine hK.out _ _ trivial (fun hHeld => ?_)
                          clear hK K
                          refine norm_ (a' := ?_) ?_ ?_
                          rotate_left
                          · show Act.put _ (some 52) _ = _
                            simp only [Act.put, List.setIfInBounds_toArray, List.set_cons_zero, List.set_cons_succ, i64_w, i32_w]
                            rfl
                          refine pure_ (i := 6) (N := some 53) (v := ?_) (a' := ?_) #[true, true, true, true, true, true, true, false, false] rfl rfl (any_of HT_.out (by kernel_rfl)) (fun _ _ _ h => h) (Or.inl ⟨by rfl, ?_⟩) ?_ ?_
                          rotate_left
                          · intro w'
                            go_simp
                            with_reducible rfl
                          rotate_left
                          · simp only [Act.put, List.setIfInBounds_toArray, List.set_cons_zero, List.set_cons_succ, i64_w, i32_w]
                            rfl
                          exact norm_ (by first | (simp only [putAll, Act.put, List.setIfInBounds_toArray, List.set_cons_zero, List.set_cons_succ]; done) | (simp only [putAll, Act.put, List.setIfInBounds_toArray, List.set_cons_zero, List.set_cons_succ]; rfl)) (hJ2_5 (.slice Ao26 y316.length co26) _ ⟨(by (with_reducible repeat (first | apply Kd.R_alloc | apply Kd.R_drewN | apply Kd.R_drew)); exact Kd.R_mono HO318.out (fun _ hk => hk.2)), (by (with_reducible repeat (first | apply Kd.R_alloc | apply Kd.R_drewN | apply Kd.R_drew)); exact Kd.R_mono HO_11.out (fun _ hk => hk.2)), (by (with_reducible repeat (first | refine blk_drewN ?_ _ | refine blk_drew ?_ | refine blk_alloc ?_ _)); exact BK307.out), (by repeat (first | (with_reducible first | exact HB.out | apply below_alloc | apply pw_below_drewN | apply below_drew1 | refine below_set ?_ GE307.out) | exact HB.out | exact Below.refl (World.heap _).size _))⟩)
                        · skip
                          refine box_step ?hg (N := 15) ?hd (cs := #[.int .u64 0, .int .u64 0, .slice none 0 0, .int .u64 0]) (t := 41) ?hr ?_; (case hd => rfl); (case hg => rfl); (case hr => first | (go_simp; done) | (go_simp; rfl))
                          intro gb319 hg w24 hbox hb
                          have n0_ := Aside0.mk (Kd.R_below (by (with_reducible repeat (first | apply Kd.R_alloc | apply Kd.R_drewN | apply Kd.R_drew)); exact HO_11.out) hb)
                          have n1_ := Aside0.mk (blk_below (g := gb307) (o := .cells #[.int .u64 x308000_1, .int .u64 x308001_1, .slice none 0 0, .int .u64 x308003_1] 41 (0, 0)) (by (with_reducible repeat (first | refine blk_drewN ?_ _ | refine blk_drew ?_ | refine blk_alloc ?_ _)); exact BK307.out) hb)
                          have n2_ := Aside0.mk (below_step (by repeat (first | (with_reducible first | exact HB.out | apply below_alloc | apply pw_below_drewN | apply below_drew1 | refine below_set ?_ GE307.out) | exact HB.out | exact Below.refl (World.heap _).size _)) hb)
                          have n3_ := Aside0.mk (hbox)
                          have n4_ := Aside0.mk ((by rw [hg]; exact (below_size (by repeat (first | (with_reducible first | exact HB.out | apply below_alloc | apply pw_below_drewN | apply below_drew1 | refine below_set ?_ GE307.out) | exact HB.out | exact Below.refl (World.heap _).size _))) : w.heap.size ≤ gb319))
                          have n5_ := Aside0.mk ((by rw [hg]; exact (below_size (by repeat (first | (with_reducible first | exact HB.out | apply below_alloc | apply pw_below_drewN | apply below_drew1 | refine below_set ?_ GE307.out) | exact HB.out | exact Below.refl (World.heap _).size _))) : w.heap.size ≤ gb319))
                          have n6_ := Aside0.mk ((by rw [hg]; exact Nat.ne_of_lt (blk_lt (g := gb307) (o := .cells #[.int .u64 x308000_1, .int .u64 x308001_1, .slice none 0 0, .int .u64 x308003_1] 41 (0, 0)) (by (with_reducible repeat (first | refine blk_drewN ?_ _ | refine blk_drew ?_ | refine blk_alloc ?_ _)); exact BK307.out)) : gb307 ≠ gb319))
                          have n7_ := Aside0.mk ((by rw [hg]; exact Nat.ne_of_gt (blk_lt (g := gb307) (o := .cells #[.int .u64 x308000_1, .int .u64 x308001_1, .slice none 0 0, .int .u64 x308003_1] 41 (0, 0)) (by (with_reducible repeat (first | refine blk_drewN ?_ _ | refine blk_drew ?_ | refine blk_alloc ?_ _)); exact BK307.out)) : gb319 ≠ gb307))
                          clear HO_11
                          clear BK307
                          clear HB
                          have HO_11 := n0_
                          have BK307 := n1_
                          have HB := n2_
                          have BK319 := n3_
                          have GW319 := n4_
                          have GE319 := n5_
                          have NB307_319 := n6_
                          have NB319_307 := n7_
                          clear n0_ n1_ n2_ n3_ n4_ n5_ n6_ n7_
                          clear hb hbox hg
                          refine hK.out _ _ trivial (fun hHeld => ?_)
                          clear hK K
                          refine norm_ (a' := ?_) ?_ ?_
                          rotate_left
                          · show Act.put _ (some 15) _ = _
                            simp only [Act.put, List.setIfInBounds_toArray, List.set_cons_zero, List.set_cons_succ, i64_w, i32_w]
                            rfl
                          exact norm_ (by first | (simp only [putAll, Act.put, List.setIfInBounds_toArray, List.set_cons_zero, List.set_cons_succ]; done) | (simp only [putAll, Act.put, List.setIfInBounds_toArray, List.set_cons_zero, List.set_cons_succ]; rfl)) (hJ2_7 (gb319) _ ⟨(by (with_reducible repeat (first | apply Kd.R_alloc | apply Kd.R_drewN | apply Kd.R_drew)); exact HO_11.out), (by (with_reducible repeat (first | refine blk_drewN ?_ _ | refine blk_drew ?_ | refine blk_alloc ?_ _)); exact BK307.out), (by (with_reducible repeat (first | refine blk_drewN ?_ _ | refine blk_drew ?_ | refine blk_alloc ?_ _)); exact BK319.out), GW319.out, GE319.out, NB307_319.out, NB319_307.out, (by repeat (first | (with_reducible first | exact HB.out | apply below_alloc | apply pw_below_drewN | apply below_drew1 | refine below_set ?_ GE307.out | refine below_set ?_ GE319.out) | exact HB.out | exact Below.refl (World.heap _).size _))⟩)
                    · skip
                      rintro ⟨v317, gb319⟩ w26 ⟨h0_, h1_, h2_, h3_, h4_, h5_, h6_, h7_, h8_⟩
                      have n0_ : Aside0 (Kd.R (Kd.int .u64) 29 w26 w.heap.size (fun k_ => some k_ ≠ (u11 : Value).ownBlock) v317 y316) := ⟨h0_⟩
                      have n1_ : Aside0 (Kd.R (Kd.int .u64) 29 w26 w.heap.size (fun k_ => some k_ ≠ (v317 : Value).ownBlock) u11 x11_1) := ⟨h1_⟩
                      have n2_ : Aside0 (w26.heap[gb307]? = some (.cells #[.int .u64 x308000_1, .int .u64 x308001_1, .slice none 0 0, .int .u64 x308003_1] 41 (0, 0))) := ⟨h2_⟩
                      have n3_ : Aside0 (w26.heap[gb319]? = some (.cells #[.int .u64 0, .int .u64 0, .slice none 0 0, .int .u64 0] 41 (0, 0))) := ⟨h3_⟩
                      have n4_ : Aside0 (w.heap.size ≤ gb319) := ⟨h4_⟩
                      have n5_ : Aside0 (w.heap.size ≤ gb319) := ⟨h5_⟩
                      have n6_ : Aside0 (gb307 ≠ gb319) := ⟨h6_⟩
                      have n7_ : Aside0 (gb319 ≠ gb307) := ⟨h7_⟩
                      have n8_ : Aside0 (Below w.heap.size w w26) := ⟨h8_⟩
                      clear HO_11
                      clear BK307
                      clear HB
                      clear h0_ h1_ h2_ h3_ h4_ h5_ h6_ h7_ h8_
                      have HO318 := n0_
                      have HO_11 := n1_
                      have BK307 := n2_
                      have BK319 := n3_
                      have GW319 := n4_
                      have GE319 := n5_
                      have NB307_319 := n6_
                      have NB319_307 := n7_
                      have HB := n8_
                      clear n0_ n1_ n2_ n3_ n4_ n5_ n6_ n7_ n8_
                      have hHeld := trivial
                      refine norm_ (a' := ?_) ?_ ?_
                      rotate_left
                      · simp only [putAll, Act.put, List.setIfInBounds_toArray, List.set_cons_zero, List.set_cons_succ]
                        rfl
                      refine one_ (i := 2) (N := some 49) #[true, true, true, true, true, true, false, true, false] rfl rfl (one_of HT_.out (by kernel_rfl)) (by decide) (fun K hK => ?_)
                      refine goes_ Try.func49 (by kernel_rfl) rfl #[.int .u64 a0, .int .u64 a1] (by rfl) rfl rfl (by (try simp only [List.map_toArray, List.map_cons, List.map_nil]); first | done | rfl | (simp only [List.length_drop, List.length_take]; rfl)) ?_
                      with_reducible refine (bourseref22_lesser.calls a0 a1 t315 _ A15.out).mono ?_
                      rintro e w' ⟨rfl, ⟨nd, rfl⟩⟩
                      refine ⟨_, rfl, ?_⟩
                      obtain ⟨Ao27, co27, eo27⟩ := Kd.R_slice HO318.out
                      (first | subst eo27 | (injection eo27 with f1_ f2_ f3_; have f4_ := f1_.symm; have f5_ := f3_.symm; clear f1_ f2_ f3_; subst f4_; subst f5_))
                      refine hK.out _ _ trivial (fun hHeld => ?_)
                      clear hK K
                      refine norm_ (a' := ?_) ?_ ?_
                      rotate_left
                      · show Act.put _ (some 49) _ = _
                        simp only [Act.put, List.setIfInBounds_toArray, List.set_cons_zero, List.set_cons_succ, i64_w, i32_w]
                        rfl
                      refine pure_ (i := 6) (N := some 53) (v := ?_) (a' := ?_) #[true, true, true, true, true, true, true, true, false] rfl rfl (any_of HT_.out (by kernel_rfl)) (fun _ _ _ h => h) (Or.inl ⟨by rfl, ?_⟩) ?_ ?_
                      rotate_left
                      · intro w'
                        go_simp
                        with_reducible rfl
                      rotate_left
                      · simp only [Act.put, List.setIfInBounds_toArray, List.set_cons_zero, List.set_cons_succ, i64_w, i32_w]
                        rfl
                      exact norm_ (by first | (simp only [putAll, Act.put, List.setIfInBounds_toArray, List.set_cons_zero, List.set_cons_succ]; done) | (simp only [putAll, Act.put, List.setIfInBounds_toArray, List.set_cons_zero, List.set_cons_succ]; rfl)) (hJ2_5_7 (.slice Ao27 y316.length co27, gb319) _ ⟨(by (with_reducible repeat (first | apply Kd.R_alloc | apply Kd.R_drewN | apply Kd.R_drew)); exact HO318.out), (by (with_reducible repeat (first | apply Kd.R_alloc | apply Kd.R_drewN | apply Kd.R_drew)); exact HO_11.out), (by (with_reducible repeat (first | refine blk_drewN ?_ _ | refine blk_drew ?_ | refine blk_alloc ?_ _)); exact BK307.out), (by (with_reducible repeat (first | refine blk_drewN ?_ _ | refine blk_drew ?_ | refine blk_alloc ?_ _)); exact BK319.out), GW319.out, GE319.out, NB307_319.out, NB319_307.out, (by repeat (first | (with_reducible first | exact HB.out | apply below_alloc | apply pw_below_drewN | apply below_drew1 | refine below_set ?_ GE307.out | refine below_set ?_ GE319.out) | exact HB.out | exact Below.refl (World.heap _).size _))⟩)
                  · skip
                    rintro gb319 w24 ⟨h0_, h1_, h2_, h3_, h4_, h5_, h6_, h7_⟩
                    have n0_ : Aside0 (Kd.R (Kd.int .u64) 29 w24 w.heap.size (fun _ => True) u11 x11_1) := ⟨h0_⟩
                    have n1_ : Aside0 (w24.heap[gb307]? = some (.cells #[.int .u64 x308000_1, .int .u64 x308001_1, .slice none 0 0, .int .u64 x308003_1] 41 (0, 0))) := ⟨h1_⟩
                    have n2_ : Aside0 (w24.heap[gb319]? = some (.cells #[.int .u64 0, .int .u64 0, .slice none 0 0, .int .u64 0] 41 (0, 0))) := ⟨h2_⟩
                    have n3_ : Aside0 (w.heap.size ≤ gb319) := ⟨h3_⟩
                    have n4_ : Aside0 (w.heap.size ≤ gb319) := ⟨h4_⟩
                    have n5_ : Aside0 (gb307 ≠ gb319) := ⟨h5_⟩
                    have n6_ : Aside0 (gb319 ≠ gb307) := ⟨h6_⟩
                    have n7_ : Aside0 (Below w.heap.size w w24) := ⟨h7_⟩
                    clear HO_11
                    clear BK307
                    clear HB
                    clear h0_ h1_ h2_ h3_ h4_ h5_ h6_ h7_
                    have HO_11 := n0_
                    have BK307 := n1_
                    have BK319 := n2_
                    have GW319 := n3_
                    have GE319 := n4_
                    have NB307_319 := n5_
                    have NB319_307 := n6_
                    have HB := n7_
                    clear n0_ n1_ n2_ n3_ n4_ n5_ n6_ n7_
                    have hHeld := trivial
                    refine norm_ (a' := ?_) ?_ ?_
                    rotate_left
                    · simp only [putAll, Act.put, List.setIfInBounds_toArray, List.set_cons_zero, List.set_cons_succ]
                      rfl
                    refine one_ (i := 5) (N := some 52) #[true, true, true, true, true, true, false, true, false] rfl rfl (one_of HT_.out (by kernel_rfl)) (by decide) (fun K hK => ?_)
                    refine Kd.R_make_step (Kd.int .u64) _ 29 (by rfl) (N := 52) rfl 39 _ _ rfl (l3.length : Int) rfl rfl Try.underlying39 (.int .u64 0) 8 info29 rfl (by decide) (by omega) 0 (ok := fun _ => True) (okp := fun _ => True) rfl (fun _ hk => hk) trivial (of_decide_eq_true (by first | (with_reducible assumption) | assumption)) (Nat.le_trans (Nat.mul_le_mul_right _ (of_decide_eq_true (by first | (with_reducible assumption) | assumption) : (l3.length : Int).toNat ≤ 35184372088832)) (by omega)) (Below.refl _ _) (Nat.le_refl _) ?_
                    intro v317 w25 ho26 hb hg_ hnew_
                    clear hg_ hnew_
                    (first | rw [← Ny316.out] at ho26 | (simp only [Int.reduceToNat] at ho26; rw [← Ny316.out] at ho26))
                    have n0_ := Aside0.mk (Kd.R_elder' (by (with_reducible repeat (first | apply Kd.R_alloc | apply Kd.R_drewN | apply Kd.R_drew)); exact HO_11.out) (Kd.R_base ho26) hb)
                    have n1_ := Aside0.mk (Kd.R_lower (Kd.R_new' ho26 (Kd.R_lt (by (with_reducible repeat (first | apply Kd.R_alloc | apply Kd.R_drewN | apply Kd.R_drew)); exact HO_11.out))) (below_size (by repeat (first | (with_reducible first | exact HB.out | apply below_alloc | apply pw_below_drewN | apply below_drew1 | refine below_set ?_ GE307.out | refine below_set ?_ GE319.out) | exact HB.out | exact Below.refl (World.heap _).size _))))
                    have n2_ := Aside0.mk (blk_below (g := gb307) (o := .cells #[.int .u64 x308000_1, .int .u64 x308001_1, .slice none 0 0, .int .u64 x308003_1] 41 (0, 0)) (by (with_reducible repeat (first | refine blk_drewN ?_ _ | refine blk_drew ?_ | refine blk_alloc ?_ _)); exact BK307.out) hb)
                    have n3_ := Aside0.mk (blk_below (g := gb319) (o := .cells #[.int .u64 0, .int .u64 0, .slice none 0 0, .int .u64 0] 41 (0, 0)) (by (with_reducible repeat (first | refine blk_drewN ?_ _ | refine blk_drew ?_ | refine blk_alloc ?_ _)); exact BK319.out) hb)
                    have n4_ := Aside0.mk (below_step (by repeat (first | (with_reducible first | exact HB.out | apply below_alloc | apply pw_below_drewN | apply below_drew1 | refine below_set ?_ GE307.out | refine below_set ?_ GE319.out) | exact HB.out | exact Below.refl (World.heap _).size _)) hb)
                    clear HO_11
                    clear BK307
                    clear BK319
                    clear HB
                    have HO_11 := n0_
                    have HO318 := n1_
                    have BK307 := n2_
                    have BK319 := n3_
                    have HB := n4_
                    clear n0_ n1_ n2_ n3_ n4_
                    clear hb ho26
                    obtain ⟨Ao27, co27, eo27⟩ := Kd.R_slice HO318.out
                    (first | subst eo27 | (injection eo27 with f1_ f2_ f3_; have f4_ := f1_.symm; have f5_ := f3_.symm; clear f1_ f2_ f3_; subst f4_; subst f5_))
                    refine hK.out _ _ trivial (fun hHeld => ?_)
                    clear hK K
                    refine norm_ (a' := ?_) ?_ ?_
                    rotate_left
                    · show Act.put _ (some 52) _ = _
                      simp only [Act.put, List.setIfInBounds_toArray, List.set_cons_zero, List.set_cons_succ, i64_w, i32_w]
                      rfl
                    refine pure_ (i := 6) (N := some 53) (v := ?_) (a' := ?_) #[true, true, true, true, true, true, true, true, false] rfl rfl (any_of HT_.out (by kernel_rfl)) (fun _ _ _ h => h) (Or.inl ⟨by rfl, ?_⟩) ?_ ?_
                    rotate_left
                    · intro w'
                      go_simp
                      with_reducible rfl
                    rotate_left
                    · simp only [Act.put, List.setIfInBounds_toArray, List.set_cons_zero, List.set_cons_succ, i64_w, i32_w]
                      rfl
                    exact norm_ (by first | (simp only [putAll, Act.put, List.setIfInBounds_toArray, List.set_cons_zero, List.set_cons_succ]; done) | (simp only [putAll, Act.put, List.setIfInBounds_toArray, List.set_cons_zero, List.set_cons_succ]; rfl)) (hJ2_5_7 (.slice Ao27 y316.length co27, gb319) _ ⟨(by (with_reducible repeat (first | apply Kd.R_alloc | apply Kd.R_drewN | apply Kd.R_drew)); exact Kd.R_mono HO318.out (fun _ hk => hk.2)), (by (with_reducible repeat (first | apply Kd.R_alloc | apply Kd.R_drewN | apply Kd.R_drew)); exact Kd.R_mono HO_11.out (fun _ hk => hk.2)), (by (with_reducible repeat (first | refine blk_drewN ?_ _ | refine blk_drew ?_ | refine blk_alloc ?_ _)); exact BK307.out), (by (with_reducible repeat (first | refine blk_drewN ?_ _ | refine blk_drew ?_ | refine blk_alloc ?_ _)); exact BK319.out), GW319.out, GE319.out, NB307_319.out, NB319_307.out, (by repeat (first | (with_reducible first | exact HB.out | apply below_alloc | apply pw_below_drewN | apply below_drew1 | refine below_set ?_ GE307.out | refine below_set ?_ GE319.out) | exact HB.out | exact Below.refl (World.heap _).size _))⟩)
                · skip
                  rintro v317 w26 ⟨h0_, h1_, h2_, h3_⟩
                  have n0_ : Aside0 (Kd.R (Kd.int .u64) 29 w26 w.heap.size (fun k_ => some k_ ≠ (u11 : Value).ownBlock) v317 y316) := ⟨h0_⟩
                  have n1_ : Aside0 (Kd.R (Kd.int .u64) 29 w26 w.heap.size (fun k_ => some k_ ≠ (v317 : Value).ownBlock) u11 x11_1) := ⟨h1_⟩
                  have n2_ : Aside0 (w26.heap[gb307]? = some (.cells #[.int .u64 x308000_1, .int .u64 x308001_1, .slice none 0 0, .int .u64 x308003_1] 41 (0, 0))) := ⟨h2_⟩
                  have n3_ : Aside0 (Below w.heap.size w w26) := ⟨h3_⟩
                  clear HO_11
                  clear BK307
                  clear HB
                  clear h0_ h1_ h2_ h3_
                  have HO318 := n0_
                  have HO_11 := n1_
                  have BK307 := n2_
                  have HB := n3_
                  clear n0_ n1_ n2_ n3_
                  have hHeld := trivial
                  obtain ⟨Ao27, co27, eo27⟩ := Kd.R_slice HO318.out
                  (first | subst eo27 | (injection eo27 with f1_ f2_ f3_; have f4_ := f1_.symm; have f5_ := f3_.symm; clear f1_ f2_ f3_; subst f4_; subst f5_))
                  refine norm_ (a' := ?_) ?_ ?_
                  rotate_left
                  · simp only [putAll, Act.put, List.setIfInBounds_toArray, List.set_cons_zero, List.set_cons_succ]
                    rfl
                  refine one_ (i := 7) (N := some 15) #[true, true, true, true, true, true, true, true, false] rfl rfl (one_of HT_.out (by kernel_rfl)) (by decide) (fun K hK => ?_)
                  refine box_step ?hg (N := 15) ?hd (cs := #[.int .u64 0, .int .u64 0, .slice none 0 0, .int .u64 0]) (t := 41) ?hr ?_; (case hd => rfl); (case hg => rfl); (case hr => first | (go_simp; done) | (go_simp; rfl))
                  intro gb319 hg w28 hbox hb
                  have n0_ := Aside0.mk (Kd.R_below (by (with_reducible repeat (first | apply Kd.R_alloc | apply Kd.R_drewN | apply Kd.R_drew)); exact HO_11.out) hb)
                  have n1_ := Aside0.mk (Kd.R_below (by (with_reducible repeat (first | apply Kd.R_alloc | apply Kd.R_drewN | apply Kd.R_drew)); exact HO318.out) hb)
                  have n2_ := Aside0.mk (blk_below (g := gb307) (o := .cells #[.int .u64 x308000_1, .int .u64 x308001_1, .slice none 0 0, .int .u64 x308003_1] 41 (0, 0)) (by (with_reducible repeat (first | refine blk_drewN ?_ _ | refine blk_drew ?_ | refine blk_alloc ?_ _)); exact BK307.out) hb)
                  have n3_ := Aside0.mk (below_step (by repeat (first | (with_reducible first | exact HB.out | apply below_alloc | apply pw_below_drewN | apply below_drew1 | refine below_set ?_ GE307.out) | exact HB.out | exact Below.refl (World.heap _).size _)) hb)
                  have n4_ := Aside0.mk (hbox)
                  have n5_ := Aside0.mk ((by rw [hg]; exact (below_size (by repeat (first | (with_reducible first | exact HB.out | apply below_alloc | apply pw_below_drewN | apply below_drew1 | refine below_set ?_ GE307.out) | exact HB.out | exact Below.refl (World.heap _).size _))) : w.heap.size ≤ gb319))
                  have n6_ := Aside0.mk ((by rw [hg]; exact (below_size (by repeat (first | (with_reducible first | exact HB.out | apply below_alloc | apply pw_below_drewN | apply below_drew1 | refine below_set ?_ GE307.out) | exact HB.out | exact Below.refl (World.heap _).size _))) : w.heap.size ≤ gb319))
                  have n7_ := Aside0.mk ((by rw [hg]; exact Nat.ne_of_lt (blk_lt (g := gb307) (o := .cells #[.int .u64 x308000_1, .int .u64 x308001_1, .slice none 0 0, .int .u64 x308003_1] 41 (0, 0)) (by (with_reducible repeat (first | refine blk_drewN ?_ _ | refine blk_drew ?_ | refine blk_alloc ?_ _)); exact BK307.out)) : gb307 ≠ gb319))
                  have n8_ := Aside0.mk ((by rw [hg]; exact Nat.ne_of_gt (blk_lt (g := gb307) (o := .cells #[.int .u64 x308000_1, .int .u64 x308001_1, .slice none 0 0, .int .u64 x308003_1] 41 (0, 0)) (by (with_reducible repeat (first | refine blk_drewN ?_ _ | refine blk_drew ?_ | refine blk_alloc ?_ _)); exact BK307.out)) : gb319 ≠ gb307))
                  clear HO_11
                  clear HO318
                  clear BK307
                  clear HB
                  have HO_11 := n0_
                  have HO318 := n1_
                  have BK307 := n2_
                  have HB := n3_
                  have BK319 := n4_
                  have GW319 := n5_
                  have GE319 := n6_
                  have NB307_319 := n7_
                  have NB319_307 := n8_
                  clear n0_ n1_ n2_ n3_ n4_ n5_ n6_ n7_ n8_
                  clear hb hbox hg
                  refine hK.out _ _ trivial (fun hHeld => ?_)
                  clear hK K
                  refine norm_ (a' := ?_) ?_ ?_
                  rotate_left
                  · show Act.put _ (some 15) _ = _
                    simp only [Act.put, List.setIfInBounds_toArray, List.set_cons_zero, List.set_cons_succ, i64_w, i32_w]
                    rfl
                  exact norm_ (by first | (simp only [putAll, Act.put, List.setIfInBounds_toArray, List.set_cons_zero, List.set_cons_succ]; done) | (simp only [putAll, Act.put, List.setIfInBounds_toArray, List.set_cons_zero, List.set_cons_succ]; rfl)) (hJ2_5_7 (.slice Ao27 y316.length co27, gb319) _ ⟨(by (with_reducible repeat (first | apply Kd.R_alloc | apply Kd.R_drewN | apply Kd.R_drew)); exact HO318.out), (by (with_reducible repeat (first | apply Kd.R_alloc | apply Kd.R_drewN | apply Kd.R_drew)); exact HO_11.out), (by (with_reducible repeat (first | refine blk_drewN ?_ _ | refine blk_drew ?_ | refine blk_alloc ?_ _)); exact BK307.out), (by (with_reducible repeat (first | refine blk_drewN ?_ _ | refine blk_drew ?_ | refine blk_alloc ?_ _)); exact BK319.out), GW319.out, GE319.out, NB307_319.out, NB319_307.out, (by repeat (first | (with_reducible first | exact HB.out | apply below_alloc | apply pw_below_drewN | apply below_drew1 | refine below_set ?_ GE307.out | refine below_set ?_ GE319.out) | exact HB.out | exact Below.refl (World.heap _).size _))⟩)
              rintro ⟨v317, gb319⟩ w27 ⟨h0_, h1_, h2_, h3_, h4_, h5_, h6_, h7_, h8_⟩
              have n0_ : Aside0 (Kd.R (Kd.int .u64) 29 w27 w.heap.size (fun k_ => some k_ ≠ (u11 : Value).ownBlock) v317 y316) := ⟨h0_⟩
              have n1_ : Aside0 (Kd.R (Kd.int .u64) 29 w27 w.heap.size (fun k_ => some k_ ≠ (v317 : Value).ownBlock) u11 x11_1) := ⟨h1_⟩
              have n2_ : Aside0 (w27.heap[gb307]? = some (.cells #[.int .u64 x308000_1, .int .u64 x308001_1, .slice none 0 0, .int .u64 x308003_1] 41 (0, 0))) := ⟨h2_⟩
              have n3_ : Aside0 (w27.heap[gb319]? = some (.cells #[.int .u64 0, .int .u64 0, .slice none 0 0, .int .u64 0] 41 (0, 0))) := ⟨h3_⟩
              have n4_ : Aside0 (w.heap.size ≤ gb319) := ⟨h4_⟩
              have n5_ : Aside0 (w.heap.size ≤ gb319) := ⟨h5_⟩
              have n6_ : Aside0 (gb307 ≠ gb319) := ⟨h6_⟩
              have n7_ : Aside0 (gb319 ≠ gb307) := ⟨h7_⟩
              have n8_ : Aside0 (Below w.heap.size w w27) := ⟨h8_⟩
              clear HO_11
              clear BK307
              clear HB
              clear h0_ h1_ h2_ h3_ h4_ h5_ h6_ h7_ h8_
              have HO318 := n0_
              have HO_11 := n1_
              have BK307 := n2_
              have BK319 := n3_
              have GW319 := n4_
              have GE319 := n5_
              have NB307_319 := n6_
              have NB319_307 := n7_
              have HB := n8_
              clear n0_ n1_ n2_ n3_ n4_ n5_ n6_ n7_ n8_
              have hHeld := trivial
              obtain ⟨Ao28, co28, eo28⟩ := Kd.R_slice HO318.out
              (first | subst eo28 | (injection eo28 with f1_ f2_ f3_; have f4_ := f1_.symm; have f5_ := f3_.symm; clear f1_ f2_ f3_; subst f4_; subst f5_))
              refine norm_ (a' := ?_) ?_ ?_
              rotate_left
              · simp only [putAll, Act.put, List.setIfInBounds_toArray, List.set_cons_zero, List.set_cons_succ]
                rfl
              refine one_ (i := 8) (N := none) #[true, true, true, true, true, true, true, true, true] rfl rfl (one_of HT_.out (by kernel_rfl)) (by decide) (fun K hK => ?_)
              have hs29 : w27.cell? ⟨gb319, 0, none⟩ = some (.int .u64 0) := (blk_cell BK319.out 0).trans rfl
              have hfs29 := blk_frozen BK319.out 0
              have hns29_0 := NB307_319.out
              have hms29_0 := NB319_307.out
              have hs30 : w27.cell? ⟨gb319, 1, none⟩ = some (.int .u64 0) := (blk_cell BK319.out 1).trans rfl
              have hfs30 := blk_frozen BK319.out 1
              have hns30_0 := NB307_319.out
              have hms30_0 := NB319_307.out
              have hs31 : w27.cell? ⟨gb319, 2, none⟩ = some (.slice none 0 0) := (blk_cell BK319.out 2).trans rfl
              have hfs31 := blk_frozen BK319.out 2
              have hns31_0 := NB307_319.out
              have hms31_0 := NB319_307.out
              have hs32 : w27.cell? ⟨gb319, 3, none⟩ = some (.int .u64 0) := (blk_cell BK319.out 3).trans rfl
              have hfs32 := blk_frozen BK319.out 3
              have hns32_0 := NB307_319.out
              have hms32_0 := NB319_307.out
              refine skip_ (w1 := ?_) (by rfl) rfl ?_ ?_
              rotate_left
              · go_simp
                rfl
              refine hK.out _ _ trivial (fun hHeld => ?_)
              clear hK K
              refine done_ (done_of HT_.out (by kernel_rfl)) ?_
              have hnb33 := NB319_307.out
              have hnc33 := NB307_319.out
              have hcz34_0 : w27.cell? ⟨gb319, 0, none⟩ = some (.int .u64 0) := (blk_cell BK319.out 0).trans rfl
              have hcz34_1 : w27.cell? ⟨gb319, 1, none⟩ = some (.int .u64 0) := (blk_cell BK319.out 1).trans rfl
              have hcz34_2 : w27.cell? ⟨gb319, 2, none⟩ = some (.slice none 0 0) := (blk_cell BK319.out 2).trans rfl
              have hcz34_3 : w27.cell? ⟨gb319, 3, none⟩ = some (.int .u64 0) := (blk_cell BK319.out 3).trans rfl
              have hfz34_0 := blk_frozen BK319.out 0
              have hfz34_1 := blk_frozen BK319.out 1
              have hfz34_2 := blk_frozen BK319.out 2
              have hfz34_3 := blk_frozen BK319.out 3
              have hx : ∀ nd : Nat, (((((((w27.setCell ⟨gb319, 0, none⟩ (.int .u64 t315)).setCell ⟨gb319, 1, none⟩ (.int .u64 0)).setCell ⟨gb319, 2, none⟩ (.slice Ao28 y316.length co28)).setCell ⟨gb319, 3, none⟩ (.int .u64 0)).drewN nd).setCell ⟨gb319, 1, none⟩ (.int .u64 t320)).cell? ⟨gb319, 1, none⟩) = some (.int .u64 t320) := fun nd => (blk_cell (blk_set (w := ((((w27.setCell ⟨gb319, 0, none⟩ (.int .u64 t315)).setCell ⟨gb319, 1, none⟩ (.int .u64 0)).setCell ⟨gb319, 2, none⟩ (.slice Ao28 y316.length co28)).setCell ⟨gb319, 3, none⟩ (.int .u64 0)).drewN nd) (blk_set (blk_set (blk_set (blk_set BK319.out 0 _) 1 _) 2 _) 3 _) 1 _) 1).trans rfl
              try go_wp2_with (first | ((with_reducible refine gate_callee (f := 49) rfl ?_); refine goesL_ (some 60) rfl rfl Try.func49 (by kernel_rfl) rfl #[.int .u64 (IntKind.u64.wrap (a0 - t315)), .int .u64 a2] rfl (by (try simp only [List.map_toArray, List.map_cons, List.map_nil]); first | done | rfl | (simp only [List.length_drop, List.length_take]; rfl)) ?_; (with_reducible refine (bourseref22_lesser.calls (IntKind.u64.wrap (a0 - t315)) a2 t320 _ A18.out).mono ?_); rintro e w' ⟨rfl, ⟨nd, rfl⟩⟩; refine ⟨_, rfl, ?_⟩) | ((with_reducible refine gate_callee (f := 49) rfl ?_); refine goesL_ (some 68) rfl rfl Try.func49 (by kernel_rfl) rfl #[.int .u64 (IntKind.u64.wrap ((IntKind.u64.wrap (a0 - t315)) - t320)), .int .u64 x10_1] rfl (by (try simp only [List.map_toArray, List.map_cons, List.map_nil]); first | done | rfl | (simp only [List.length_drop, List.length_take]; rfl)) ?_; (with_reducible refine (bourseref22_lesser.calls (IntKind.u64.wrap ((IntKind.u64.wrap (a0 - t315)) - t320)) x10_1 t321 _ A19.out).mono ?_); rintro e w' ⟨rfl, ⟨nd, rfl⟩⟩; refine ⟨_, rfl, ?_⟩; obtain ⟨Ao35, co35, eo35⟩ := Kd.R_slice HO_11.out; subst eo35) | ((with_reducible refine gate_callee (f := 50) rfl ?_); refine goesL_ (some 74) rfl rfl Try.func50 (by kernel_rfl) rfl #[.int .u64 t321, .slice Ao35 x11_1.length co35] rfl (by (try simp only [List.map_toArray, List.map_cons, List.map_nil]); first | done | rfl | (simp only [List.length_drop, List.length_take]; rfl)) ?_; (with_reducible refine (bourseref01_Share.calls k1 t321 _ _ x11_1 t322 t323 _ ?side1 ?side2 A21.out).mono ?_); (case side1 => refine (Kd.R_reads' (e := 29) (base := w.heap.size) (ok := fun k_ => some k_ ≠ (.slice Ao28 y316.length co28 : Value).ownBlock) (n := x11_1.length) (c := co35) ?_).2.2; exact (by (with_reducible repeat (first | apply Kd.R_alloc | apply Kd.R_drewN | apply Kd.R_drew)); exact (Kd.R_mono (Kd.R_far (p := ⟨gb319, 1, none⟩) (Kd.R_far (p := ⟨gb319, 3, none⟩) (Kd.R_far (p := ⟨gb319, 2, none⟩) (Kd.R_far (p := ⟨gb319, 1, none⟩) (Kd.R_far (p := ⟨gb319, 0, none⟩) (Kd.R_types HO_11.out BK319.out (by decide)) (fun _ hk => hk.2) (.int .u64 t315)) (fun _ hk => hk.2) (.int .u64 0)) (fun _ hk => hk.2) (.slice Ao28 y316.length co28)) (fun _ hk => hk.2) (.int .u64 0)) (fun _ hk => hk.2) (.int .u64 t320)) (fun _ h_ => h_.1)))); (case side2 => exact (Kd.R_reads' HO_11.out).2.1); rintro e w36 ⟨v324, rfl, ho0, hb⟩; refine ⟨_, rfl, ?_⟩; have n0_ := Aside0.mk (Kd.R_elder' (by (with_reducible repeat (first | apply Kd.R_alloc | apply Kd.R_drewN | apply Kd.R_drew)); exact (Kd.R_mono (Kd.R_far (p := ⟨gb319, 1, none⟩) (Kd.R_far (p := ⟨gb319, 3, none⟩) (Kd.R_far (p := ⟨gb319, 2, none⟩) (Kd.R_far (p := ⟨gb319, 1, none⟩) (Kd.R_far (p := ⟨gb319, 0, none⟩) (Kd.R_types HO_11.out BK319.out (by decide)) (fun _ hk => hk.2) (.int .u64 t315)) (fun _ hk => hk.2) (.int .u64 0)) (fun _ hk => hk.2) (.slice Ao28 y316.length co28)) (fun _ hk => hk.2) (.int .u64 0)) (fun _ hk => hk.2) (.int .u64 t320)) (fun _ h_ => h_.1))) (Kd.R_base ho0) hb); have n1_ := Aside0.mk (Kd.R_elder' (by (with_reducible repeat (first | apply Kd.R_alloc | apply Kd.R_drewN | apply Kd.R_drew)); exact (Kd.R_mono (Kd.R_far (p := ⟨gb319, 1, none⟩) (Kd.R_far (p := ⟨gb319, 3, none⟩) (Kd.R_far (p := ⟨gb319, 2, none⟩) (Kd.R_far (p := ⟨gb319, 1, none⟩) (Kd.R_far (p := ⟨gb319, 0, none⟩) (Kd.R_types HO318.out BK319.out (by decide)) (fun _ hk => hk.2) (.int .u64 t315)) (fun _ hk => hk.2) (.int .u64 0)) (fun _ hk => hk.2) (.slice Ao28 y316.length co28)) (fun _ hk => hk.2) (.int .u64 0)) (fun _ hk => hk.2) (.int .u64 t320)) (fun _ h_ => h_.1))) (Kd.R_base ho0) hb); have n2_ := Aside0.mk (Kd.R_lower (Kd.R_new' (Kd.R_new' ho0 (Kd.R_lt (by (with_reducible repeat (first | apply Kd.R_alloc | apply Kd.R_drewN | apply Kd.R_drew)); exact (Kd.R_mono (Kd.R_far (p := ⟨gb319, 1, none⟩) (Kd.R_far (p := ⟨gb319, 3, none⟩) (Kd.R_far (p := ⟨gb319, 2, none⟩) (Kd.R_far (p := ⟨gb319, 1, none⟩) (Kd.R_far (p := ⟨gb319, 0, none⟩) (Kd.R_types HO_11.out BK319.out (by decide)) (fun _ hk => hk.2) (.int .u64 t315)) (fun _ hk => hk.2) (.int .u64 0)) (fun _ hk => hk.2) (.slice Ao28 y316.length co28)) (fun _ hk => hk.2) (.int .u64 0)) (fun _ hk => hk.2) (.int .u64 t320)) (fun _ h_ => h_.1))))) (Kd.R_lt (by (with_reducible repeat (first | apply Kd.R_alloc | apply Kd.R_drewN | apply Kd.R_drew)); exact (Kd.R_mono (Kd.R_far (p := ⟨gb319, 1, none⟩) (Kd.R_far (p := ⟨gb319, 3, none⟩) (Kd.R_far (p := ⟨gb319, 2, none⟩) (Kd.R_far (p := ⟨gb319, 1, none⟩) (Kd.R_far (p := ⟨gb319, 0, none⟩) (Kd.R_types HO318.out BK319.out (by decide)) (fun _ hk => hk.2) (.int .u64 t315)) (fun _ hk => hk.2) (.int .u64 0)) (fun _ hk => hk.2) (.slice Ao28 y316.length co28)) (fun _ hk => hk.2) (.int .u64 0)) (fun _ hk => hk.2) (.int .u64 t320)) (fun _ h_ => h_.1))))) (below_size (by repeat (first | (with_reducible first | exact HB.out | apply below_alloc | apply pw_below_drewN | apply below_drew1 | refine below_set ?_ GE307.out | refine below_set ?_ GE319.out) | exact HB.out | exact Below.refl (World.heap _).size _)))); have n3_ := Aside0.mk (blk_below (g := gb307) (o := .cells #[.int .u64 x308000_1, .int .u64 x308001_1, .slice none 0 0, .int .u64 x308003_1] 41 (0, 0)) (by (with_reducible repeat (first | refine blk_drewN ?_ _ | refine blk_drew ?_ | refine blk_alloc ?_ _)); refine blk_far ?_ NB307_319.out _; (with_reducible repeat (first | refine blk_drewN ?_ _ | refine blk_drew ?_ | refine blk_alloc ?_ _)); refine blk_far ?_ NB307_319.out _; (with_reducible repeat (first | refine blk_drewN ?_ _ | refine blk_drew ?_ | refine blk_alloc ?_ _)); refine blk_far ?_ NB307_319.out _; (with_reducible repeat (first | refine blk_drewN ?_ _ | refine blk_drew ?_ | refine blk_alloc ?_ _)); refine blk_far ?_ NB307_319.out _; (with_reducible repeat (first | refine blk_drewN ?_ _ | refine blk_drew ?_ | refine blk_alloc ?_ _)); refine blk_far ?_ NB307_319.out _; (with_reducible repeat (first | refine blk_drewN ?_ _ | refine blk_drew ?_ | refine blk_alloc ?_ _)); exact BK307.out) hb); have n4_ := Aside0.mk (blk_below (g := gb319) (o := .cells #[.int .u64 t315, .int .u64 t320, .slice Ao28 y316.length co28, .int .u64 0] 41 (0, 0)) (by (with_reducible repeat (first | refine blk_drewN ?_ _ | refine blk_drew ?_ | refine blk_alloc ?_ _)); refine blk_put (cs := #[.int .u64 t315, .int .u64 0, .slice Ao28 y316.length co28, .int .u64 0]) ?_ 1 _ rfl; (with_reducible repeat (first | refine blk_drewN ?_ _ | refine blk_drew ?_ | refine blk_alloc ?_ _)); refine blk_put (cs := #[.int .u64 t315, .int .u64 0, .slice Ao28 y316.length co28, .int .u64 0]) ?_ 3 _ rfl; (with_reducible repeat (first | refine blk_drewN ?_ _ | refine blk_drew ?_ | refine blk_alloc ?_ _)); refine blk_put (cs := #[.int .u64 t315, .int .u64 0, .slice none 0 0, .int .u64 0]) ?_ 2 _ rfl; (with_reducible repeat (first | refine blk_drewN ?_ _ | refine blk_drew ?_ | refine blk_alloc ?_ _)); refine blk_put (cs := #[.int .u64 t315, .int .u64 0, .slice none 0 0, .int .u64 0]) ?_ 1 _ rfl; (with_reducible repeat (first | refine blk_drewN ?_ _ | refine blk_drew ?_ | refine blk_alloc ?_ _)); refine blk_put (cs := #[.int .u64 0, .int .u64 0, .slice none 0 0, .int .u64 0]) ?_ 0 _ rfl; (with_reducible repeat (first | refine blk_drewN ?_ _ | refine blk_drew ?_ | refine blk_alloc ?_ _)); exact BK319.out) hb); have n5_ := Aside0.mk (below_step (by repeat (first | (with_reducible first | exact HB.out | apply below_alloc | apply pw_below_drewN | apply below_drew1 | refine below_set ?_ GE307.out | refine below_set ?_ GE319.out) | exact HB.out | exact Below.refl (World.heap _).size _)) hb); clear HO_11; clear HO318; clear BK307; clear BK319; clear HB; have HO_11 := n0_; have HO318 := n1_; have HO325 := n2_; have BK307 := n3_; have BK319 := n4_; have HB := n5_; clear n0_ n1_ n2_ n3_ n4_ n5_; (try clear hb); (try clear hb2); (try clear hk); (try clear hi); (try clear ho0); obtain ⟨Ao37, co37, eo37⟩ := Kd.R_slice HO325.out; subst eo37; have hcz38_0 : w36.cell? ⟨gb319, 0, none⟩ = some (.int .u64 t315) := (blk_cell BK319.out 0).trans rfl; have hcz38_1 : w36.cell? ⟨gb319, 1, none⟩ = some (.int .u64 t320) := (blk_cell BK319.out 1).trans rfl; have hcz38_2 : w36.cell? ⟨gb319, 2, none⟩ = some (.slice Ao28 y316.length co28) := (blk_cell BK319.out 2).trans rfl; have hcz38_3 : w36.cell? ⟨gb319, 3, none⟩ = some (.int .u64 0) := (blk_cell BK319.out 3).trans rfl; have hfz38_0 := blk_frozen BK319.out 0; have hfz38_1 := blk_frozen BK319.out 1; have hfz38_2 := blk_frozen BK319.out 2; have hfz38_3 := blk_frozen BK319.out 3; have hcz39_0 : w36.cell? ⟨gb307, 0, none⟩ = some (.int .u64 x308000_1) := (blk_cell BK307.out 0).trans rfl; have hcz39_1 : w36.cell? ⟨gb307, 1, none⟩ = some (.int .u64 x308001_1) := (blk_cell BK307.out 1).trans rfl; have hcz39_2 : w36.cell? ⟨gb307, 2, none⟩ = some (.slice none 0 0) := (blk_cell BK307.out 2).trans rfl; have hcz39_3 : w36.cell? ⟨gb307, 3, none⟩ = some (.int .u64 x308003_1) := (blk_cell BK307.out 3).trans rfl; have hfz39_0 := blk_frozen BK307.out 0; have hfz39_1 := blk_frozen BK307.out 1; have hfz39_2 := blk_frozen BK307.out 2; have hfz39_3 := blk_frozen BK307.out 3))
              refine bodyPost_ret (results_ct rfl _ _ gb307 41 #[.int .u64 t315, .int .u64 t320, .slice Ao37 t322.length co37, .int .u64 (IntKind.u64.wrap ((IntKind.u64.wrap ((IntKind.u64.wrap (a0 - t315)) - t320)) - t321))] (0, 0) _ rfl (by (with_reducible repeat (first | refine blk_drewN ?_ _ | refine blk_drew ?_ | refine blk_alloc ?_ _)); refine blk_put (cs := #[.int .u64 t315, .int .u64 t320, .slice Ao37 t322.length co37, .int .u64 x308003_1]) ?_ 3 _ rfl; (with_reducible repeat (first | refine blk_drewN ?_ _ | refine blk_drew ?_ | refine blk_alloc ?_ _)); refine blk_put (cs := #[.int .u64 t315, .int .u64 t320, .slice none 0 0, .int .u64 x308003_1]) ?_ 2 _ rfl; (with_reducible repeat (first | refine blk_drewN ?_ _ | refine blk_drew ?_ | refine blk_alloc ?_ _)); refine blk_put (cs := #[.int .u64 t315, .int .u64 x308001_1, .slice none 0 0, .int .u64 x308003_1]) ?_ 1 _ rfl; (with_reducible repeat (first | refine blk_drewN ?_ _ | refine blk_drew ?_ | refine blk_alloc ?_ _)); refine blk_put (cs := #[.int .u64 x308000_1, .int .u64 x308001_1, .slice none 0 0, .int .u64 x308003_1]) ?_ 0 _ rfl; (with_reducible repeat (first | refine blk_drewN ?_ _ | refine blk_drew ?_ | refine blk_alloc ?_ _)); refine blk_far ?_ NB307_319.out _; (with_reducible repeat (first | refine blk_drewN ?_ _ | refine blk_drew ?_ | refine blk_alloc ?_ _)); refine blk_far ?_ NB307_319.out _; (with_reducible repeat (first | refine blk_drewN ?_ _ | refine blk_drew ?_ | refine blk_alloc ?_ _)); exact BK307.out) Try.underlying41 rfl (by kernel_rfl)) rfl ?_
              exact ⟨_, by first | rfl | (simp [errW_none, errW_some] <;> rfl) | (simp [*, errW_none, errW_some] <;> rfl), by (with_reducible repeat (first | apply Kd.R_alloc | apply Kd.R_drewN | apply Kd.R_drew)); exact Kd.R_mono (Kd.R_far (p := ⟨gb307, 3, none⟩) (Kd.R_far (p := ⟨gb307, 2, none⟩) (Kd.R_far (p := ⟨gb307, 1, none⟩) (Kd.R_far (p := ⟨gb307, 0, none⟩) (Kd.R_far (p := ⟨gb319, 3, none⟩) (Kd.R_far (p := ⟨gb319, 2, none⟩) (Kd.R_types (Kd.R_types HO325.out BK319.out (by decide)) BK307.out (by decide)) (fun _ hk => hk.1.2) (.slice Ao37 t322.length co37)) (fun _ hk => hk.1.2) (.int .u64 (IntKind.u64.wrap ((IntKind.u64.wrap ((IntKind.u64.wrap (a0 - t315)) - t320)) - t321)))) (fun _ hk => hk.2) (.int .u64 t315)) (fun _ hk => hk.2) (.int .u64 t320)) (fun _ hk => hk.2) (.slice Ao37 t322.length co37)) (fun _ hk => hk.2) (.int .u64 (IntKind.u64.wrap ((IntKind.u64.wrap ((IntKind.u64.wrap (a0 - t315)) - t320)) - t321)))) (fun _ hk => trivial), by repeat (first | (with_reducible first | exact HB.out | apply below_alloc | apply pw_below_drewN | apply below_drew1 | refine below_set ?_ GE307.out | refine below_set ?_ GE319.out) | exact HB.out | exact Below.refl (World.heap _).size _)⟩
            · rw [if_neg c20] at H
              have c20b0 : decide (0 < x10_1) = false := decide_eq_false c20
              clear c20
              simp only [Option.some.injEq, Prod.mk.injEq] at H
              obtain ⟨rfl, rfl, rfl, rfl, rfl⟩ := H
              try go_wp2
              have n0_ := Aside0.mk (Kd.R_drew HO_11.out)
              have n1_ := Aside0.mk (blk_drew BK307.out)
              have n2_ := Aside0.mk (below_drew1 HB.out)
              clear HO_11
              clear BK307
              clear HB
              have HO_11 := n0_
              have BK307 := n1_
              have HB := n2_
              clear n0_ n1_ n2_
              refine start_ (n := 9) (S := fun w' => True) (ds := []) #[false, false, false, false, false, false, false, false, false] (by kernel_rfl) rfl rfl trivial (fun hHeld => ?_); refine with_tabW bourseref22_Bear.tab11 bourseref22_Bear.bits11 (fun HT_ HW_ => ?_)
              generalize wr.drew = w40 at HO_11 BK307 HB hHeld ⊢
              refine pure_ (i := 0) (N := some 47) (v := ?_) (a' := ?_) #[true, false, false, false, false, false, false, false, false] rfl rfl (any_of HT_.out (by kernel_rfl)) (fun _ _ _ h => h) (Or.inl ⟨by rfl, ?_⟩) ?_ ?_
              rotate_left
              · intro w'
                go_simp
                with_reducible rfl
              rotate_left
              · simp only [Act.put, List.setIfInBounds_toArray, List.set_cons_zero, List.set_cons_succ, i64_w, i32_w]
                rfl
              refine pure_ (i := 1) (N := some 48) (v := ?_) (a' := ?_) #[true, true, false, false, false, false, false, false, false] rfl rfl (any_of HT_.out (by kernel_rfl)) (fun _ _ _ h => h) (Or.inl ⟨by rfl, ?_⟩) ?_ ?_
              rotate_left
              · intro w'
                go_simp
                with_reducible rfl
              rotate_left
              · simp only [Act.put, List.setIfInBounds_toArray, List.set_cons_zero, List.set_cons_succ, i64_w, i32_w]
                rfl
              refine pure_ (i := 3) (N := some 50) (v := ?_) (a' := ?_) #[true, true, false, true, false, false, false, false, false] rfl rfl (any_of HT_.out (by kernel_rfl)) (fun _ _ _ h => h) (Or.inl ⟨by rfl, ?_⟩) ?_ ?_
              rotate_left
              · intro w'
                go_simp
                with_reducible rfl
              rotate_left
              · simp only [Act.put, List.setIfInBounds_toArray, List.set_cons_zero, List.set_cons_succ, i64_w, i32_w]
                rfl
              refine pure_ (i := 4) (N := some 51) (v := ?_) (a' := ?_) #[true, true, false, true, true, false, false, false, false] rfl rfl (any_of HT_.out (by kernel_rfl)) (fun _ _ _ h => h) (Or.inl ⟨by rfl, ?_⟩) ?_ ?_
              rotate_left
              · intro w'
                go_simp
                with_reducible rfl
              rotate_left
              · simp only [Act.put, List.setIfInBounds_toArray, List.set_cons_zero, List.set_cons_succ, i64_w, i32_w]
                rfl
              refine join_ (σ := Value × Nat) 1 #[true, true, true, true, true, true, true, true, false] (fun s_ => [(49, .int .u64 t315), (52, s_.1), (15, .pointer (some ⟨s_.2, 0, none⟩)), (53, .agg #[.int .u64 t315, .int .u64 0, s_.1, .int .u64 0])]) (fun s_ w' => (Kd.R (Kd.int .u64) 29 w' w.heap.size (fun k_ => some k_ ≠ (u11 : Value).ownBlock) s_.1 y316) ∧ (Kd.R (Kd.int .u64) 29 w' w.heap.size (fun k_ => some k_ ≠ (s_.1 : Value).ownBlock) u11 x11_1) ∧ (w'.heap[gb307]? = some (.cells #[.int .u64 x308000_1, .int .u64 x308001_1, .slice none 0 0, .int .u64 x308003_1] 41 (0, 0))) ∧ (w'.heap[s_.2]? = some (.cells #[.int .u64 0, .int .u64 0, .slice none 0 0, .int .u64 0] 41 (0, 0))) ∧ (w.heap.size ≤ s_.2) ∧ (w.heap.size ≤ s_.2) ∧ (gb307 ≠ s_.2) ∧ (s_.2 ≠ gb307) ∧ (Below w.heap.size w w')) ?_ ?_
              rotate_left
              · intro hJ2_5_7
                refine join_ (σ := Value) 2 #[true, true, true, true, true, true, true, false, false] (fun s_ => [(49, .int .u64 t315), (52, s_), (53, .agg #[.int .u64 t315, .int .u64 0, s_, .int .u64 0])]) (fun s_ w' => (Kd.R (Kd.int .u64) 29 w' w.heap.size (fun k_ => some k_ ≠ (u11 : Value).ownBlock) s_ y316) ∧ (Kd.R (Kd.int .u64) 29 w' w.heap.size (fun k_ => some k_ ≠ (s_ : Value).ownBlock) u11 x11_1) ∧ (w'.heap[gb307]? = some (.cells #[.int .u64 x308000_1, .int .u64 x308001_1, .slice none 0 0, .int .u64 x308003_1] 41 (0, 0))) ∧ (Below w.heap.size w w')) ?_ ?_
                rotate_left
                · intro hJ2_5
                  refine join_ (σ := Nat) 3 #[true, true, true, true, true, false, false, true, false] (fun s_ => [(49, .int .u64 t315), (15, .pointer (some ⟨s_, 0, none⟩))]) (fun s_ w' => (Kd.R (Kd.int .u64) 29 w' w.heap.size (fun _ => True) u11 x11_1) ∧ (w'.heap[gb307]? = some (.cells #[.int .u64 x308000_1, .int .u64 x308001_1, .slice none 0 0, .int .u64 x308003_1] 41 (0, 0))) ∧ (w'.heap[s_]? = some (.cells #[.int .u64 0, .int .u64 0, .slice none 0 0, .int .u64 0] 41 (0, 0))) ∧ (w.heap.size ≤ s_) ∧ (w.heap.size ≤ s_) ∧ (gb307 ≠ s_) ∧ (s_ ≠ gb307) ∧ (Below w.heap.size w w')) ?_ ?_
                  rotate_left
                  · intro hJ2_7
                    refine join_ (σ := Value × Nat) 3 #[true, true, false, true, true, true, false, true, false] (fun s_ => [(52, s_.1), (15, .pointer (some ⟨s_.2, 0, none⟩))]) (fun s_ w' => (Kd.R (Kd.int .u64) 29 w' w.heap.size (fun k_ => some k_ ≠ (u11 : Value).ownBlock) s_.1 y316) ∧ (Kd.R (Kd.int .u64) 29 w' w.heap.size (fun k_ => some k_ ≠ (s_.1 : Value).ownBlock) u11 x11_1) ∧ (w'.heap[gb307]? = some (.cells #[.int .u64 x308000_1, .int .u64 x308001_1, .slice none 0 0, .int .u64 x308003_1] 41 (0, 0))) ∧ (w'.heap[s_.2]? = some (.cells #[.int .u64 0, .int .u64 0, .slice none 0 0, .int .u64 0] 41 (0, 0))) ∧ (w.heap.size ≤ s_.2) ∧ (w.heap.size ≤ s_.2) ∧ (gb307 ≠ s_.2) ∧ (s_.2 ≠ gb307) ∧ (Below w.heap.size w w')) ?_ ?_
                    rotate_left
                    · intro hJ5_7
                      refine join_ (σ := Unit) 4 #[true, true, true, true, true, false, false, false, false] (fun s_ => [(49, .int .u64 t315)]) (fun s_ w' => (Kd.R (Kd.int .u64) 29 w' w.heap.size (fun _ => True) u11 x11_1) ∧ (w'.heap[gb307]? = some (.cells #[.int .u64 x308000_1, .int .u64 x308001_1, .slice none 0 0, .int .u64 x308003_1] 41 (0, 0))) ∧ (Below w.heap.size w w')) ?_ ?_
                      rotate_left
                      · intro hJ2
                        refine join_ (σ := Value) 4 #[true, true, false, true, true, true, false, false, false] (fun s_ => [(52, s_)]) (fun s_ w' => (Kd.R (Kd.int .u64) 29 w' w.heap.size (fun k_ => some k_ ≠ (u11 : Value).ownBlock) s_ y316) ∧ (Kd.R (Kd.int .u64) 29 w' w.heap.size (fun k_ => some k_ ≠ (s_ : Value).ownBlock) u11 x11_1) ∧ (w'.heap[gb307]? = some (.cells #[.int .u64 x308000_1, .int .u64 x308001_1, .slice none 0 0, .int .u64 x308003_1] 41 (0, 0))) ∧ (Below w.heap.size w w')) ?_ ?_
                        rotate_left
                        · intro hJ5
                          refine join_ (σ := Nat) 4 #[true, true, false, true, true, false, false, true, false] (fun s_ => [(15, .pointer (some ⟨s_, 0, none⟩))]) (fun s_ w' => (Kd.R (Kd.int .u64) 29 w' w.heap.size (fun _ => True) u11 x11_1) ∧ (w'.heap[gb307]? = some (.cells #[.int .u64 x308000_1, .int .u64 x308001_1, .slice none 0 0, .int .u64 x308003_1] 41 (0, 0))) ∧ (w'.heap[s_]? = some (.cells #[.int .u64 0, .int .u64 0, .slice none 0 0, .int .u64 0] 41 (0, 0))) ∧ (w.heap.size ≤ s_) ∧ (w.heap.size ≤ s_) ∧ (gb307 ≠ s_) ∧ (s_ ≠ gb307) ∧ (Below w.heap.size w w')) ?_ ?_
                          rotate_left
                          · intro hJ7
                            refine three_ (i := 2) (j := 5) (k := 7) (Ni := some 49) (Nj := some 52) (Nk := some 15) #[true, true, true, true, true, false, false, false, false] #[true, true, false, true, true, true, false, false, false] #[true, true, false, true, true, false, false, true, false] rfl rfl rfl rfl rfl rfl (three_of HT_.out (by kernel_rfl)) (by decide) (by decide) (by decide) (fun K hK => ?_) (fun K hK => ?_) (fun K hK => ?_)
                            · skip
                              refine goes_ Try.func49 (by kernel_rfl) rfl #[.int .u64 a0, .int .u64 a1] (by rfl) rfl rfl (by (try simp only [List.map_toArray, List.map_cons, List.map_nil]); first | done | rfl | (simp only [List.length_drop, List.length_take]; rfl)) ?_
                              with_reducible refine (bourseref22_lesser.calls a0 a1 t315 _ A15.out).mono ?_
                              rintro e w' ⟨rfl, ⟨nd, rfl⟩⟩
                              refine ⟨_, rfl, ?_⟩
                              refine hK.out _ _ trivial (fun hHeld => ?_)
                              clear hK K
                              refine norm_ (a' := ?_) ?_ ?_
                              rotate_left
                              · show Act.put _ (some 49) _ = _
                                simp only [Act.put, List.setIfInBounds_toArray, List.set_cons_zero, List.set_cons_succ, i64_w, i32_w]
                                rfl
                              exact norm_ (by first | (simp only [putAll, Act.put, List.setIfInBounds_toArray, List.set_cons_zero, List.set_cons_succ]; done) | (simp only [putAll, Act.put, List.setIfInBounds_toArray, List.set_cons_zero, List.set_cons_succ]; rfl)) (hJ2 () _ ⟨(by (with_reducible repeat (first | apply Kd.R_alloc | apply Kd.R_drewN | apply Kd.R_drew)); exact HO_11.out), (by (with_reducible repeat (first | refine blk_drewN ?_ _ | refine blk_drew ?_ | refine blk_alloc ?_ _)); exact BK307.out), (by repeat (first | (with_reducible first | exact HB.out | apply below_alloc | apply pw_below_drewN | apply below_drew1 | refine below_set ?_ GE307.out) | exact HB.out | exact Below.refl (World.heap _).size _))⟩)
                            · skip
                              refine Kd.R_make_step (Kd.int .u64) _ 29 (by rfl) (N := 52) rfl 39 _ _ rfl (l3.length : Int) rfl rfl Try.underlying39 (.int .u64 0) 8 info29 rfl (by decide) (by omega) 0 (ok := fun _ => True) (okp := fun _ => True) rfl (fun _ hk => hk) trivial (of_decide_eq_true (by first | (with_reducible assumption) | assumption)) (Nat.le_trans (Nat.mul_le_mul_right _ (of_decide_eq_true (by first | (with_reducible assumption) | assumption) : (l3.length : Int).toNat ≤ 35184372088832)) (by omega)) (Below.refl _ _) (Nat.le_refl _) ?_
                              intro v317 w41 ho42 hb hg_ hnew_
                              clear hg_ hnew_
                              (first | rw [← Ny316.out] at ho42 | (simp only [Int.reduceToNat] at ho42; rw [← Ny316.out] at ho42))
                              have n0_ := Aside0.mk (Kd.R_elder' (by (with_reducible repeat (first | apply Kd.R_alloc | apply Kd.R_drewN | apply Kd.R_drew)); exact HO_11.out) (Kd.R_base ho42) hb)
                              have n1_ := Aside0.mk (Kd.R_lower (Kd.R_new' ho42 (Kd.R_lt (by (with_reducible repeat (first | apply Kd.R_alloc | apply Kd.R_drewN | apply Kd.R_drew)); exact HO_11.out))) (below_size (by repeat (first | (with_reducible first | exact HB.out | apply below_alloc | apply pw_below_drewN | apply below_drew1 | refine below_set ?_ GE307.out) | exact HB.out | exact Below.refl (World.heap _).size _))))
                              have n2_ := Aside0.mk (blk_below (g := gb307) (o := .cells #[.int .u64 x308000_1, .int .u64 x308001_1, .slice none 0 0, .int .u64 x308003_1] 41 (0, 0)) (by (with_reducible repeat (first | refine blk_drewN ?_ _ | refine blk_drew ?_ | refine blk_alloc ?_ _)); exact BK307.out) hb)
                              have n3_ := Aside0.mk (below_step (by repeat (first | (with_reducible first | exact HB.out | apply below_alloc | apply pw_below_drewN | apply below_drew1 | refine below_set ?_ GE307.out) | exact HB.out | exact Below.refl (World.heap _).size _)) hb)
                              clear HO_11
                              clear BK307
                              clear HB
                              have HO_11 := n0_
                              have HO318 := n1_
                              have BK307 := n2_
                              have HB := n3_
                              clear n0_ n1_ n2_ n3_
                              clear hb ho42
                              refine hK.out _ _ trivial (fun hHeld => ?_)
                              clear hK K
                              refine norm_ (a' := ?_) ?_ ?_
                              rotate_left
                              · show Act.put _ (some 52) _ = _
                                simp only [Act.put, List.setIfInBounds_toArray, List.set_cons_zero, List.set_cons_succ, i64_w, i32_w]
                                rfl
                              exact norm_ (by first | (simp only [putAll, Act.put, List.setIfInBounds_toArray, List.set_cons_zero, List.set_cons_succ]; done) | (simp only [putAll, Act.put, List.setIfInBounds_toArray, List.set_cons_zero, List.set_cons_succ]; rfl)) (hJ5 (v317) _ ⟨(by (with_reducible repeat (first | apply Kd.R_alloc | apply Kd.R_drewN | apply Kd.R_drew)); exact Kd.R_mono HO318.out (fun _ hk => hk.2)), (by (with_reducible repeat (first | apply Kd.R_alloc | apply Kd.R_drewN | apply Kd.R_drew)); exact Kd.R_mono HO_11.out (fun _ hk => hk.2)), (by (with_reducible repeat (first | refine blk_drewN ?_ _ | refine blk_drew ?_ | refine blk_alloc ?_ _)); exact BK307.out), (by repeat (first | (with_reducible first | exact HB.out | apply below_alloc | apply pw_below_drewN | apply below_drew1 | refine below_set ?_ GE307.out) | exact HB.out | exact Below.refl (World.heap _).size _))⟩)
                            · skip
                              refine box_step ?hg (N := 15) ?hd (cs := #[.int .u64 0, .int .u64 0, .slice none 0 0, .int .u64 0]) (t := 41) ?hr ?_; (case hd => rfl); (case hg => rfl); (case hr => first | (go_simp; done) | (go_simp; rfl))
                              intro gb319 hg w41 hbox hb
                              have n0_ := Aside0.mk (Kd.R_below (by (with_reducible repeat (first | apply Kd.R_alloc | apply Kd.R_drewN | apply Kd.R_drew)); exact HO_11.out) hb)
                              have n1_ := Aside0.mk (blk_below (g := gb307) (o := .cells #[.int .u64 x308000_1, .int .u64 x308001_1, .slice none 0 0, .int .u64 x308003_1] 41 (0, 0)) (by (with_reducible repeat (first | refine blk_drewN ?_ _ | refine blk_drew ?_ | refine blk_alloc ?_ _)); exact BK307.out) hb)
                              have n2_ := Aside0.mk (below_step (by repeat (first | (with_reducible first | exact HB.out | apply below_alloc | apply pw_below_drewN | apply below_drew1 | refine below_set ?_ GE307.out) | exact HB.out | exact Below.refl (World.heap _).size _)) hb)
                              have n3_ := Aside0.mk (hbox)
                              have n4_ := Aside0.mk ((by rw [hg]; exact (below_size (by repeat (first | (with_reducible first | exact HB.out | apply below_alloc | apply pw_below_drewN | apply below_drew1 | refine below_set ?_ GE307.out) | exact HB.out | exact Below.refl (World.heap _).size _))) : w.heap.size ≤ gb319))
                              have n5_ := Aside0.mk ((by rw [hg]; exact (below_size (by repeat (first | (with_reducible first | exact HB.out | apply below_alloc | apply pw_below_drewN | apply below_drew1 | refine below_set ?_ GE307.out) | exact HB.out | exact Below.refl (World.heap _).size _))) : w.heap.size ≤ gb319))
                              have n6_ := Aside0.mk ((by rw [hg]; exact Nat.ne_of_lt (blk_lt (g := gb307) (o := .cells #[.int .u64 x308000_1, .int .u64 x308001_1, .slice none 0 0, .int .u64 x308003_1] 41 (0, 0)) (by (with_reducible repeat (first | refine blk_drewN ?_ _ | refine blk_drew ?_ | refine blk_alloc ?_ _)); exact BK307.out)) : gb307 ≠ gb319))
                              have n7_ := Aside0.mk ((by rw [hg]; exact Nat.ne_of_gt (blk_lt (g := gb307) (o := .cells #[.int .u64 x308000_1, .int .u64 x308001_1, .slice none 0 0, .int .u64 x308003_1] 41 (0, 0)) (by (with_reducible repeat (first | refine blk_drewN ?_ _ | refine blk_drew ?_ | refine blk_alloc ?_ _)); exact BK307.out)) : gb319 ≠ gb307))
                              clear HO_11
                              clear BK307
                              clear HB
                              have HO_11 := n0_
                              have BK307 := n1_
                              have HB := n2_
                              have BK319 := n3_
                              have GW319 := n4_
                              have GE319 := n5_
                              have NB307_319 := n6_
                              have NB319_307 := n7_
                              clear n0_ n1_ n2_ n3_ n4_ n5_ n6_ n7_
                              clear hb hbox hg
                              refine hK.out _ _ trivial (fun hHeld => ?_)
                              clear hK K
                              refine norm_ (a' := ?_) ?_ ?_
                              rotate_left
                              · show Act.put _ (some 15) _ = _
                                simp only [Act.put, List.setIfInBounds_toArray, List.set_cons_zero, List.set_cons_succ, i64_w, i32_w]
                                rfl
                              exact norm_ (by first | (simp only [putAll, Act.put, List.setIfInBounds_toArray, List.set_cons_zero, List.set_cons_succ]; done) | (simp only [putAll, Act.put, List.setIfInBounds_toArray, List.set_cons_zero, List.set_cons_succ]; rfl)) (hJ7 (gb319) _ ⟨(by (with_reducible repeat (first | apply Kd.R_alloc | apply Kd.R_drewN | apply Kd.R_drew)); exact HO_11.out), (by (with_reducible repeat (first | refine blk_drewN ?_ _ | refine blk_drew ?_ | refine blk_alloc ?_ _)); exact BK307.out), (by (with_reducible repeat (first | refine blk_drewN ?_ _ | refine blk_drew ?_ | refine blk_alloc ?_ _)); exact BK319.out), GW319.out, GE319.out, NB307_319.out, NB319_307.out, (by repeat (first | (with_reducible first | exact HB.out | apply below_alloc | apply pw_below_drewN | apply below_drew1 | refine below_set ?_ GE307.out | refine below_set ?_ GE319.out) | exact HB.out | exact Below.refl (World.heap _).size _))⟩)
                          · skip
                            rintro gb319 w42 ⟨h0_, h1_, h2_, h3_, h4_, h5_, h6_, h7_⟩
                            have n0_ : Aside0 (Kd.R (Kd.int .u64) 29 w42 w.heap.size (fun _ => True) u11 x11_1) := ⟨h0_⟩
                            have n1_ : Aside0 (w42.heap[gb307]? = some (.cells #[.int .u64 x308000_1, .int .u64 x308001_1, .slice none 0 0, .int .u64 x308003_1] 41 (0, 0))) := ⟨h1_⟩
                            have n2_ : Aside0 (w42.heap[gb319]? = some (.cells #[.int .u64 0, .int .u64 0, .slice none 0 0, .int .u64 0] 41 (0, 0))) := ⟨h2_⟩
                            have n3_ : Aside0 (w.heap.size ≤ gb319) := ⟨h3_⟩
                            have n4_ : Aside0 (w.heap.size ≤ gb319) := ⟨h4_⟩
                            have n5_ : Aside0 (gb307 ≠ gb319) := ⟨h5_⟩
                            have n6_ : Aside0 (gb319 ≠ gb307) := ⟨h6_⟩
                            have n7_ : Aside0 (Below w.heap.size w w42) := ⟨h7_⟩
                            clear HO_11
                            clear BK307
                            clear HB
                            clear h0_ h1_ h2_ h3_ h4_ h5_ h6_ h7_
                            have HO_11 := n0_
                            have BK307 := n1_
                            have BK319 := n2_
                            have GW319 := n3_
                            have GE319 := n4_
                            have NB307_319 := n5_
                            have NB319_307 := n6_
                            have HB := n7_
                            clear n0_ n1_ n2_ n3_ n4_ n5_ n6_ n7_
                            have hHeld := trivial
                            refine norm_ (a' := ?_) ?_ ?_
                            rotate_left
                            · simp only [putAll, Act.put, List.setIfInBounds_toArray, List.set_cons_zero, List.set_cons_succ]
                              rfl
                            refine two_ (i := 2) (j := 5) (Ni := some 49) (Nj := some 52) #[true, true, true, true, true, false, false, true, false] #[true, true, false, true, true, true, false, true, false] rfl rfl rfl rfl (two_of HT_.out (by kernel_rfl)) (by decide) (by decide) (fun K hK => ?_) (fun K hK => ?_)
                            · skip
                              refine goes_ Try.func49 (by kernel_rfl) rfl #[.int .u64 a0, .int .u64 a1] (by rfl) rfl rfl (by (try simp only [List.map_toArray, List.map_cons, List.map_nil]); first | done | rfl | (simp only [List.length_drop, List.length_take]; rfl)) ?_
                              with_reducible refine (bourseref22_lesser.calls a0 a1 t315 _ A15.out).mono ?_
                              rintro e w' ⟨rfl, ⟨nd, rfl⟩⟩
                              refine ⟨_, rfl, ?_⟩
                              refine hK.out _ _ trivial (fun hHeld => ?_)
                              clear hK K
                              refine norm_ (a' := ?_) ?_ ?_
                              rotate_left
                              · show Act.put _ (some 49) _ = _
                                simp only [Act.put, List.setIfInBounds_toArray, List.set_cons_zero, List.set_cons_succ, i64_w, i32_w]
                                rfl
                              exact norm_ (by first | (simp only [putAll, Act.put, List.setIfInBounds_toArray, List.set_cons_zero, List.set_cons_succ]; done) | (simp only [putAll, Act.put, List.setIfInBounds_toArray, List.set_cons_zero, List.set_cons_succ]; rfl)) (hJ2_7 (gb319) _ ⟨(by (with_reducible repeat (first | apply Kd.R_alloc | apply Kd.R_drewN | apply Kd.R_drew)); exact HO_11.out), (by (with_reducible repeat (first | refine blk_drewN ?_ _ | refine blk_drew ?_ | refine blk_alloc ?_ _)); exact BK307.out), (by (with_reducible repeat (first | refine blk_drewN ?_ _ | refine blk_drew ?_ | refine blk_alloc ?_ _)); exact BK319.out), GW319.out, GE319.out, NB307_319.out, NB319_307.out, (by repeat (first | (with_reducible first | exact HB.out | apply below_alloc | apply pw_below_drewN | apply below_drew1 | refine below_set ?_ GE307.out | refine below_set ?_ GE319.out) | exact HB.out | exact Below.refl (World.heap _).size _))⟩)
                            · skip
                              refine Kd.R_make_step (Kd.int .u64) _ 29 (by rfl) (N := 52) rfl 39 _ _ rfl (l3.length : Int) rfl rfl Try.underlying39 (.int .u64 0) 8 info29 rfl (by decide) (by omega) 0 (ok := fun _ => True) (okp := fun _ => True) rfl (fun _ hk => hk) trivial (of_decide_eq_true (by first | (with_reducible assumption) | assumption)) (Nat.le_trans (Nat.mul_le_mul_right _ (of_decide_eq_true (by first | (with_reducible assumption) | assumption) : (l3.length : Int).toNat ≤ 35184372088832)) (by omega)) (Below.refl _ _) (Nat.le_refl _) ?_
                              intro v317 w43 ho44 hb hg_ hnew_
                              clear hg_ hnew_
                              (first | rw [← Ny316.out] at ho44 | (simp only [Int.reduceToNat] at ho44; rw [← Ny316.out] at ho44))
                              have n0_ := Aside0.mk (Kd.R_elder' (by (with_reducible repeat (first | apply Kd.R_alloc | apply Kd.R_drewN | apply Kd.R_drew)); exact HO_11.out) (Kd.R_base ho44) hb)
                              have n1_ := Aside0.mk (Kd.R_lower (Kd.R_new' ho44 (Kd.R_lt (by (with_reducible repeat (first | apply Kd.R_alloc | apply Kd.R_drewN | apply Kd.R_drew)); exact HO_11.out))) (below_size (by repeat (first | (with_reducible first | exact HB.out | apply below_alloc | apply pw_below_drewN | apply below_drew1 | refine below_set ?_ GE307.out | refine below_set ?_ GE319.out) | exact HB.out | exact Below.refl (World.heap _).size _))))
                              have n2_ := Aside0.mk (blk_below (g := gb307) (o := .cells #[.int .u64 x308000_1, .int .u64 x308001_1, .slice none 0 0, .int .u64 x308003_1] 41 (0, 0)) (by (with_reducible repeat (first | refine blk_drewN ?_ _ | refine blk_drew ?_ | refine blk_alloc ?_ _)); exact BK307.out) hb)
                              have n3_ := Aside0.mk (blk_below (g := gb319) (o := .cells #[.int .u64 0, .int .u64 0, .slice none 0 0, .int .u64 0] 41 (0, 0)) (by (with_reducible repeat (first | refine blk_drewN ?_ _ | refine blk_drew ?_ | refine blk_alloc ?_ _)); exact BK319.out) hb)
                              have n4_ := Aside0.mk (below_step (by repeat (first | (with_reducible first | exact HB.out | apply below_alloc | apply pw_below_drewN | apply below_drew1 | refine below_set ?_ GE307.out | refine below_set ?_ GE319.out) | exact HB.out | exact Below.refl (World.heap _).size _)) hb)
                              clear HO_11
                              clear BK307
                              clear BK319
                              clear HB
                              have HO_11 := n0_
                              have HO318 := n1_
                              have BK307 := n2_
                              have BK319 := n3_
                              have HB := n4_
                              clear n0_ n1_ n2_ n3_ n4_
                              clear hb ho44
                              refine hK.out _ _ trivial (fun hHeld => ?_)
                              clear hK K
                              refine norm_ (a' := ?_) ?_ ?_
                              rotate_left
                              · show Act.put _ (some 52) _ = _
                                simp only [Act.put, List.setIfInBounds_toArray, List.set_cons_zero, List.set_cons_succ, i64_w, i32_w]
                                rfl
                              exact norm_ (by first | (simp only [putAll, Act.put, List.setIfInBounds_toArray, List.set_cons_zero, List.set_cons_succ]; done) | (simp only [putAll, Act.put, List.setIfInBounds_toArray, List.set_cons_zero, List.set_cons_succ]; rfl)) (hJ5_7 (v317, gb319) _ ⟨(by (with_reducible repeat (first | apply Kd.R_alloc | apply Kd.R_drewN | apply Kd.R_drew)); exact Kd.R_mono HO318.out (fun _ hk => hk.2)), (by (with_reducible repeat (first | apply Kd.R_alloc | apply Kd.R_drewN | apply Kd.R_drew)); exact Kd.R_mono HO_11.out (fun _ hk => hk.2)), (by (with_reducible repeat (first | refine blk_drewN ?_ _ | refine blk_drew ?_ | refine blk_alloc ?_ _)); exact BK307.out), (by (with_reducible repeat (first | refine blk_drewN ?_ _ | refine blk_drew ?_ | refine blk_alloc ?_ _)); exact BK319.out), GW319.out, GE319.out, NB307_319.out, NB319_307.out, (by repeat (first | (with_reducible first | exact HB.out | apply below_alloc | apply pw_below_drewN | apply below_drew1 | refine below_set ?_ GE307.out | refine below_set ?_ GE319.out) | exact HB.out | exact Below.refl (World.heap _).size _))⟩)
                        · skip
                          rintro v317 w43 ⟨h0_, h1_, h2_, h3_⟩
                          have n0_ : Aside0 (Kd.R (Kd.int .u64) 29 w43 w.heap.size (fun k_ => some k_ ≠ (u11 : Value).ownBlock) v317 y316) := ⟨h0_⟩
                          have n1_ : Aside0 (Kd.R (Kd.int .u64) 29 w43 w.heap.size (fun k_ => some k_ ≠ (v317 : Value).ownBlock) u11 x11_1) := ⟨h1_⟩
                          have n2_ : Aside0 (w43.heap[gb307]? = some (.cells #[.int .u64 x308000_1, .int .u64 x308001_1, .slice none 0 0, .int .u64 x308003_1] 41 (0, 0))) := ⟨h2_⟩
                          have n3_ : Aside0 (Below w.heap.size w w43) := ⟨h3_⟩
                          clear HO_11
                          clear BK307
                          clear HB
                          clear h0_ h1_ h2_ h3_
                          have HO318 := n0_
                          have HO_11 := n1_
                          have BK307 := n2_
                          have HB := n3_
                          clear n0_ n1_ n2_ n3_
                          have hHeld := trivial
                          refine norm_ (a' := ?_) ?_ ?_
                          rotate_left
                          · simp only [putAll, Act.put, List.setIfInBounds_toArray, List.set_cons_zero, List.set_cons_succ]
                            rfl
                          refine two_ (i := 2) (j := 7) (Ni := some 49) (Nj := some 15) #[true, true, true, true, true, true, false, false, false] #[true, true, false, true, true, true, false, true, false] rfl rfl rfl rfl (two_of HT_.out (by kernel_rfl)) (by decide) (by decide) (fun K hK => ?_) (fun K hK => ?_)
                          · skip
                            refine goes_ Try.func49 (by kernel_rfl) rfl #[.int .u64 a0, .int .u64 a1] (by rfl) rfl rfl (by (try simp only [List.map_toArray, List.map_cons, List.map_nil]); first | done | rfl | (simp only [List.length_drop, List.length_take]; rfl)) ?_
                            with_reducible refine (bourseref22_lesser.calls a0 a1 t315 _ A15.out).mono ?_
                            rintro e w' ⟨rfl, ⟨nd, rfl⟩⟩
                            refine ⟨_, rfl, ?_⟩
                            obtain ⟨Ao44, co44, eo44⟩ := Kd.R_slice HO318.out
                            (first | subst eo44 | (injection eo44 with f1_ f2_ f3_; have f4_ := f1_.symm; have f5_ := f3_.symm; clear f1_ f2_ f3_; subst f4_; subst f5_))
                            refine hK.out _ _ trivial (fun hHeld => ?_)
                            clear hK K
                            refine norm_ (a' := ?_) ?_ ?_
                            rotate_left
                            · show Act.put _ (some 49) _ = _
                              simp only [Act.put, List.setIfInBounds_toArray, List.set_cons_zero, List.set_cons_succ, i64_w, i32_w]
                              rfl
                            refine pure_ (i := 6) (N := some 53) (v := ?_) (a' := ?_) #[true, true, true, true, true, true, true, false, false] rfl rfl (any_of HT_.out (by kernel_rfl)) (fun _ _ _ h => h) (Or.inl ⟨by rfl, ?_⟩) ?_ ?_
                            rotate_left
                            · intro w'
                              go_simp
                              with_reducible rfl
                            rotate_left
                            · simp only [Act.put, List.setIfInBounds_toArray, List.set_cons_zero, List.set_cons_succ, i64_w, i32_w]
                              rfl
                            exact norm_ (by first | (simp only [putAll, Act.put, List.setIfInBounds_toArray, List.set_cons_zero, List.set_cons_succ]; done) | (simp only [putAll, Act.put, List.setIfInBounds_toArray, List.set_cons_zero, List.set_cons_succ]; rfl)) (hJ2_5 (.slice Ao44 y316.length co44) _ ⟨(by (with_reducible repeat (first | apply Kd.R_alloc | apply Kd.R_drewN | apply Kd.R_drew)); exact HO318.out), (by (with_reducible repeat (first | apply Kd.R_alloc | apply Kd.R_drewN | apply Kd.R_drew)); exact HO_11.out), (by (with_reducible repeat (first | refine blk_drewN ?_ _ | refine blk_drew ?_ | refine blk_alloc ?_ _)); exact BK307.out), (by repeat (first | (with_reducible first | exact HB.out | apply below_alloc | apply pw_below_drewN | apply below_drew1 | refine below_set ?_ GE307.out) | exact HB.out | exact Below.refl (World.heap _).size _))⟩)
                          · skip
                            refine box_step ?hg (N := 15) ?hd (cs := #[.int .u64 0, .int .u64 0, .slice none 0 0, .int .u64 0]) (t := 41) ?hr ?_; (case hd => rfl); (case hg => rfl); (case hr => first | (go_simp; done) | (go_simp; rfl))
                            intro gb319 hg w44 hbox hb
                            have n0_ := Aside0.mk (Kd.R_below (by (with_reducible repeat (first | apply Kd.R_alloc | apply Kd.R_drewN | apply Kd.R_drew)); exact HO_11.out) hb)
                            have n1_ := Aside0.mk (Kd.R_below (by (with_reducible repeat (first | apply Kd.R_alloc | apply Kd.R_drewN | apply Kd.R_drew)); exact HO318.out) hb)
                            have n2_ := Aside0.mk (blk_below (g := gb307) (o := .cells #[.int .u64 x308000_1, .int .u64 x308001_1, .slice none 0 0, .int .u64 x308003_1] 41 (0, 0)) (by (with_reducible repeat (first | refine blk_drewN ?_ _ | refine blk_drew ?_ | refine blk_alloc ?_ _)); exact BK307.out) hb)
                            have n3_ := Aside0.mk (below_step (by repeat (first | (with_reducible first | exact HB.out | apply below_alloc | apply pw_below_drewN | apply below_drew1 | refine below_set ?_ GE307.out) | exact HB.out | exact Below.refl (World.heap _).size _)) hb)
                            have n4_ := Aside0.mk (hbox)
                            have n5_ := Aside0.mk ((by rw [hg]; exact (below_size (by repeat (first | (with_reducible first | exact HB.out | apply below_alloc | apply pw_below_drewN | apply below_drew1 | refine below_set ?_ GE307.out) | exact HB.out | exact Below.refl (World.heap _).size _))) : w.heap.size ≤ gb319))
                            have n6_ := Aside0.mk ((by rw [hg]; exact (below_size (by repeat (first | (with_reducible first | exact HB.out | apply below_alloc | apply pw_below_drewN | apply below_drew1 | refine below_set ?_ GE307.out) | exact HB.out | exact Below.refl (World.heap _).size _))) : w.heap.size ≤ gb319))
                            have n7_ := Aside0.mk ((by rw [hg]; exact Nat.ne_of_lt (blk_lt (g := gb307) (o := .cells #[.int .u64 x308000_1, .int .u64 x308001_1, .slice none 0 0, .int .u64 x308003_1] 41 (0, 0)) (by (with_reducible repeat (first | refine blk_drewN ?_ _ | refine blk_drew ?_ | refine blk_alloc ?_ _)); exact BK307.out)) : gb307 ≠ gb319))
                            have n8_ := Aside0.mk ((by rw [hg]; exact Nat.ne_of_gt (blk_lt (g := gb307) (o := .cells #[.int .u64 x308000_1, .int .u64 x308001_1, .slice none 0 0, .int .u64 x308003_1] 41 (0, 0)) (by (with_reducible repeat (first | refine blk_drewN ?_ _ | refine blk_drew ?_ | refine blk_alloc ?_ _)); exact BK307.out)) : gb319 ≠ gb307))
                            clear HO_11
                            clear HO318
                            clear BK307
                            clear HB
                            have HO_11 := n0_
                            have HO318 := n1_
                            have BK307 := n2_
                            have HB := n3_
                            have BK319 := n4_
                            have GW319 := n5_
                            have GE319 := n6_
                            have NB307_319 := n7_
                            have NB319_307 := n8_
                            clear n0_ n1_ n2_ n3_ n4_ n5_ n6_ n7_ n8_
                            clear hb hbox hg
                            refine hK.out _ _ trivial (fun hHeld => ?_)
                            clear hK K
                            refine norm_ (a' := ?_) ?_ ?_
                            rotate_left
                            · show Act.put _ (some 15) _ = _
                              simp only [Act.put, List.setIfInBounds_toArray, List.set_cons_zero, List.set_cons_succ, i64_w, i32_w]
                              rfl
                            exact norm_ (by first | (simp only [putAll, Act.put, List.setIfInBounds_toArray, List.set_cons_zero, List.set_cons_succ]; done) | (simp only [putAll, Act.put, List.setIfInBounds_toArray, List.set_cons_zero, List.set_cons_succ]; rfl)) (hJ5_7 (v317, gb319) _ ⟨(by (with_reducible repeat (first | apply Kd.R_alloc | apply Kd.R_drewN | apply Kd.R_drew)); exact HO318.out), (by (with_reducible repeat (first | apply Kd.R_alloc | apply Kd.R_drewN | apply Kd.R_drew)); exact HO_11.out), (by (with_reducible repeat (first | refine blk_drewN ?_ _ | refine blk_drew ?_ | refine blk_alloc ?_ _)); exact BK307.out), (by (with_reducible repeat (first | refine blk_drewN ?_ _ | refine blk_drew ?_ | refine blk_alloc ?_ _)); exact BK319.out), GW319.out, GE319.out, NB307_319.out, NB319_307.out, (by repeat (first | (with_reducible first | exact HB.out | apply below_alloc | apply pw_below_drewN | apply below_drew1 | refine below_set ?_ GE307.out | refine below_set ?_ GE319.out) | exact HB.out | exact Below.refl (World.heap _).size _))⟩)
                      · skip
                        rintro _ w41 ⟨h0_, h1_, h2_⟩
                        have n0_ : Aside0 (Kd.R (Kd.int .u64) 29 w41 w.heap.size (fun _ => True) u11 x11_1) := ⟨h0_⟩
                        have n1_ : Aside0 (w41.heap[gb307]? = some (.cells #[.int .u64 x308000_1, .int .u64 x308001_1, .slice none 0 0, .int .u64 x308003_1] 41 (0, 0))) := ⟨h1_⟩
                        have n2_ : Aside0 (Below w.heap.size w w41) := ⟨h2_⟩
                        clear HO_11
                        clear BK307
                        clear HB
                        clear h0_ h1_ h2_
                        have HO_11 := n0_
                        have BK307 := n1_
                        have HB := n2_
                        clear n0_ n1_ n2_
                        have hHeld := trivial
                        refine norm_ (a' := ?_) ?_ ?_
                        rotate_left
                        · simp only [putAll, Act.put, List.setIfInBounds_toArray, List.set_cons_zero, List.set_cons_succ]
                          rfl
                        refine two_ (i := 5) (j := 7) (Ni := some 52) (Nj := some 15) #[true, true, true, true, true, true, false, false, false] #[true, true, true, true, true, false, false, true, false] rfl rfl rfl rfl (two_of HT_.out (by kernel_rfl)) (by decide) (by decide) (fun K hK => ?_) (fun K hK => ?_)
                        · skip
                          refine Kd.R_make_step (Kd.int .u64) _ 29 (by rfl) (N := 52) rfl 39 _ _ rfl (l3.length : Int) rfl rfl Try.underlying39 (.int .u64 0) 8 info29 rfl (by decide) (by omega) 0 (ok := fun _ => True) (okp := fun _ => True) rfl (fun _ hk => hk) trivial (of_decide_eq_true (by first | (with_reducible assumption) | assumption)) (Nat.le_trans (Nat.mul_le_mul_right _ (of_decide_eq_true (by first | (with_reducible assumption) | assumption) : (l3.length : Int).toNat ≤ 35184372088832)) (by omega)) (Below.refl _ _) (Nat.le_refl _) ?_
                          intro v317 w42 ho43 hb hg_ hnew_
                          clear hg_ hnew_
                          (first | rw [← Ny316.out] at ho43 | (simp only [Int.reduceToNat] at ho43; rw [← Ny316.out] at ho43))
                          have n0_ := Aside0.mk (Kd.R_elder' (by (with_reducible repeat (first | apply Kd.R_alloc | apply Kd.R_drewN | apply Kd.R_drew)); exact HO_11.out) (Kd.R_base ho43) hb)
                          have n1_ := Aside0.mk (Kd.R_lower (Kd.R_new' ho43 (Kd.R_lt (by (with_reducible repeat (first | apply Kd.R_alloc | apply Kd.R_drewN | apply Kd.R_drew)); exact HO_11.out))) (below_size (by repeat (first | (with_reducible first | exact HB.out | apply below_alloc | apply pw_below_drewN | apply below_drew1 | refine below_set ?_ GE307.out) | exact HB.out | exact Below.refl (World.heap _).size _))))
                          have n2_ := Aside0.mk (blk_below (g := gb307) (o := .cells #[.int .u64 x308000_1, .int .u64 x308001_1, .slice none 0 0, .int .u64 x308003_1] 41 (0, 0)) (by (with_reducible repeat (first | refine blk_drewN ?_ _ | refine blk_drew ?_ | refine blk_alloc ?_ _)); exact BK307.out) hb)
                          have n3_ := Aside0.mk (below_step (by repeat (first | (with_reducible first | exact HB.out | apply below_alloc | apply pw_below_drewN | apply below_drew1 | refine below_set ?_ GE307.out) | exact HB.out | exact Below.refl (World.heap _).size _)) hb)
                          clear HO_11
                          clear BK307
                          clear HB
                          have HO_11 := n0_
                          have HO318 := n1_
                          have BK307 := n2_
                          have HB := n3_
                          clear n0_ n1_ n2_ n3_
                          clear hb ho43
                          obtain ⟨Ao44, co44, eo44⟩ := Kd.R_slice HO318.out
                          (first | subst eo44 | (injection eo44 with f1_ f2_ f3_; have f4_ := f1_.symm; have f5_ := f3_.symm; clear f1_ f2_ f3_; subst f4_; subst f5_))
                          refine hK.out _ _ trivial (fun hHeld => ?_)
                          clear hK K
                          refine norm_ (a' := ?_) ?_ ?_
                          rotate_left
                          · show Act.put _ (some 52) _ = _
                            simp only [Act.put, List.setIfInBounds_toArray, List.set_cons_zero, List.set_cons_succ, i64_w, i32_w]
                            rfl
                          refine pure_ (i := 6) (N := some 53) (v := ?_) (a' := ?_) #[true, true, true, true, true, true, true, false, false] rfl rfl (any_of HT_.out (by kernel_rfl)) (fun _ _ _ h => h) (Or.inl ⟨by rfl, ?_⟩) ?_ ?_
                          rotate_left
                          · intro w'
                            go_simp
                            with_reducible rfl
                          rotate_left
                          · simp only [Act.put, List.setIfInBounds_toArray, List.set_cons_zero, List.set_cons_succ, i64_w, i32_w]
                            rfl
                          exact norm_ (by first | (simp only [putAll, Act.put, List.setIfInBounds_toArray, List.set_cons_zero, List.set_cons_succ]; done) | (simp only [putAll, Act.put, List.setIfInBounds_toArray, List.set_cons_zero, List.set_cons_succ]; rfl)) (hJ2_5 (.slice Ao44 y316.length co44) _ ⟨(by (with_reducible repeat (first | apply Kd.R_alloc | apply Kd.R_drewN | apply Kd.R_drew)); exact Kd.R_mono HO318.out (fun _ hk => hk.2)), (by (with_reducible repeat (first | apply Kd.R_alloc | apply Kd.R_drewN | apply Kd.R_drew)); exact Kd.R_mono HO_11.out (fun _ hk => hk.2)), (by (with_reducible repeat (first | refine blk_drewN ?_ _ | refine blk_drew ?_ | refine blk_alloc ?_ _)); exact BK307.out), (by repeat (first | (with_reducible first | exact HB.out | apply below_alloc | apply pw_below_drewN | apply below_drew1 | refine below_set ?_ GE307.out) | exact HB.out | exact Below.refl (World.heap _).size _))⟩)
                        · skip
                          refine box_step ?hg (N := 15) ?hd (cs := #[.int .u64 0, .int .u64 0, .slice none 0 0, .int .u64 0]) (t := 41) ?hr ?_; (case hd => rfl); (case hg => rfl); (case hr => first | (go_simp; done) | (go_simp; rfl))
                          intro gb319 hg w42 hbox hb
                          have n0_ := Aside0.mk (Kd.R_below (by (with_reducible repeat (first | apply Kd.R_alloc | apply Kd.R_drewN | apply Kd.R_drew)); exact HO_11.out) hb)
                          have n1_ := Aside0.mk (blk_below (g := gb307) (o := .cells #[.int .u64 x308000_1, .int .u64 x308001_1, .slice none 0 0, .int .u64 x308003_1] 41 (0, 0)) (by (with_reducible repeat (first | refine blk_drewN ?_ _ | refine blk_drew ?_ | refine blk_alloc ?_ _)); exact BK307.out) hb)
                          have n2_ := Aside0.mk (below_step (by repeat (first | (with_reducible first | exact HB.out | apply below_alloc | apply pw_below_drewN | apply below_drew1 | refine below_set ?_ GE307.out) | exact HB.out | exact Below.refl (World.heap _).size _)) hb)
                          have n3_ := Aside0.mk (hbox)
                          have n4_ := Aside0.mk ((by rw [hg]; exact (below_size (by repeat (first | (with_reducible first | exact HB.out | apply below_alloc | apply pw_below_drewN | apply below_drew1 | refine below_set ?_ GE307.out) | exact HB.out | exact Below.refl (World.heap _).size _))) : w.heap.size ≤ gb319))
                          have n5_ := Aside0.mk ((by rw [hg]; exact (below_size (by repeat (first | (with_reducible first | exact HB.out | apply below_alloc | apply pw_below_drewN | apply below_drew1 | refine below_set ?_ GE307.out) | exact HB.out | exact Below.refl (World.heap _).size _))) : w.heap.size ≤ gb319))
                          have n6_ := Aside0.mk ((by rw [hg]; exact Nat.ne_of_lt (blk_lt (g := gb307) (o := .cells #[.int .u64 x308000_1, .int .u64 x308001_1, .slice none 0 0, .int .u64 x308003_1] 41 (0, 0)) (by (with_reducible repeat (first | refine blk_drewN ?_ _ | refine blk_drew ?_ | refine blk_alloc ?_ _)); exact BK307.out)) : gb307 ≠ gb319))
                          have n7_ := Aside0.mk ((by rw [hg]; exact Nat.ne_of_gt (blk_lt (g := gb307) (o := .cells #[.int .u64 x308000_1, .int .u64 x308001_1, .slice none 0 0, .int .u64 x308003_1] 41 (0, 0)) (by (with_reducible repeat (first | refine blk_drewN ?_ _ | refine blk_drew ?_ | refine blk_alloc ?_ _)); exact BK307.out)) : gb319 ≠ gb307))
                          clear HO_11
                          clear BK307
                          clear HB
                          have HO_11 := n0_
                          have BK307 := n1_
                          have HB := n2_
                          have BK319 := n3_
                          have GW319 := n4_
                          have GE319 := n5_
                          have NB307_319 := n6_
                          have NB319_307 := n7_
                          clear n0_ n1_ n2_ n3_ n4_ n5_ n6_ n7_
                          clear hb hbox hg
                          refine hK.out _ _ trivial (fun hHeld => ?_)
                          clear hK K
                          refine norm_ (a' := ?_) ?_ ?_
                          rotate_left
                          · show Act.put _ (some 15) _ = _
                            simp only [Act.put, List.setIfInBounds_toArray, List.set_cons_zero, List.set_cons_succ, i64_w, i32_w]
                            rfl
                          exact norm_ (by first | (simp only [putAll, Act.put, List.setIfInBounds_toArray, List.set_cons_zero, List.set_cons_succ]; done) | (simp only [putAll, Act.put, List.setIfInBounds_toArray, List.set_cons_zero, List.set_cons_succ]; rfl)) (hJ2_7 (gb319) _ ⟨(by (with_reducible repeat (first | apply Kd.R_alloc | apply Kd.R_drewN | apply Kd.R_drew)); exact HO_11.out), (by (with_reducible repeat (first | refine blk_drewN ?_ _ | refine blk_drew ?_ | refine blk_alloc ?_ _)); exact BK307.out), (by (with_reducible repeat (first | refine blk_drewN ?_ _ | refine blk_drew ?_ | refine blk_alloc ?_ _)); exact BK319.out), GW319.out, GE319.out, NB307_319.out, NB319_307.out, (by repeat (first | (with_reducible first | exact HB.out | apply below_alloc | apply pw_below_drewN | apply below_drew1 | refine below_set ?_ GE307.out | refine below_set ?_ GE319.out) | exact HB.out | exact Below.refl (World.heap _).size _))⟩)
                    · skip
                      rintro ⟨v317, gb319⟩ w44 ⟨h0_, h1_, h2_, h3_, h4_, h5_, h6_, h7_, h8_⟩
                      have n0_ : Aside0 (Kd.R (Kd.int .u64) 29 w44 w.heap.size (fun k_ => some k_ ≠ (u11 : Value).ownBlock) v317 y316) := ⟨h0_⟩
                      have n1_ : Aside0 (Kd.R (Kd.int .u64) 29 w44 w.heap.size (fun k_ => some k_ ≠ (v317 : Value).ownBlock) u11 x11_1) := ⟨h1_⟩
                      have n2_ : Aside0 (w44.heap[gb307]? = some (.cells #[.int .u64 x308000_1, .int .u64 x308001_1, .slice none 0 0, .int .u64 x308003_1] 41 (0, 0))) := ⟨h2_⟩
                      have n3_ : Aside0 (w44.heap[gb319]? = some (.cells #[.int .u64 0, .int .u64 0, .slice none 0 0, .int .u64 0] 41 (0, 0))) := ⟨h3_⟩
                      have n4_ : Aside0 (w.heap.size ≤ gb319) := ⟨h4_⟩
                      have n5_ : Aside0 (w.heap.size ≤ gb319) := ⟨h5_⟩
                      have n6_ : Aside0 (gb307 ≠ gb319) := ⟨h6_⟩
                      have n7_ : Aside0 (gb319 ≠ gb307) := ⟨h7_⟩
                      have n8_ : Aside0 (Below w.heap.size w w44) := ⟨h8_⟩
                      clear HO_11
                      clear BK307
                      clear HB
                      clear h0_ h1_ h2_ h3_ h4_ h5_ h6_ h7_ h8_
                      have HO318 := n0_
                      have HO_11 := n1_
                      have BK307 := n2_
                      have BK319 := n3_
                      have GW319 := n4_
                      have GE319 := n5_
                      have NB307_319 := n6_
                      have NB319_307 := n7_
                      have HB := n8_
                      clear n0_ n1_ n2_ n3_ n4_ n5_ n6_ n7_ n8_
                      have hHeld := trivial
                      refine norm_ (a' := ?_) ?_ ?_
                      rotate_left
                      · simp only [putAll, Act.put, List.setIfInBounds_toArray, List.set_cons_zero, List.set_cons_succ]
                        rfl
                      refine one_ (i := 2) (N := some 49) #[true, true, true, true, true, true, false, true, false] rfl rfl (one_of HT_.out (by kernel_rfl)) (by decide) (fun K hK => ?_)
                      refine goes_ Try.func49 (by kernel_rfl) rfl #[.int .u64 a0, .int .u64 a1] (by rfl) rfl rfl (by (try simp only [List.map_toArray, List.map_cons, List.map_nil]); first | done | rfl | (simp only [List.length_drop, List.length_take]; rfl)) ?_
                      with_reducible refine (bourseref22_lesser.calls a0 a1 t315 _ A15.out).mono ?_
                      rintro e w' ⟨rfl, ⟨nd, rfl⟩⟩
                      refine ⟨_, rfl, ?_⟩
                      obtain ⟨Ao45, co45, eo45⟩ := Kd.R_slice HO318.out
                      (first | subst eo45 | (injection eo45 with f1_ f2_ f3_; have f4_ := f1_.symm; have f5_ := f3_.symm; clear f1_ f2_ f3_; subst f4_; subst f5_))
                      refine hK.out _ _ trivial (fun hHeld => ?_)
                      clear hK K
                      refine norm_ (a' := ?_) ?_ ?_
                      rotate_left
                      · show Act.put _ (some 49) _ = _
                        simp only [Act.put, List.setIfInBounds_toArray, List.set_cons_zero, List.set_cons_succ, i64_w, i32_w]
                        rfl
                      refine pure_ (i := 6) (N := some 53) (v := ?_) (a' := ?_) #[true, true, true, true, true, true, true, true, false] rfl rfl (any_of HT_.out (by kernel_rfl)) (fun _ _ _ h => h) (Or.inl ⟨by rfl, ?_⟩) ?_ ?_
                      rotate_left
                      · intro w'
                        go_simp
                        with_reducible rfl
                      rotate_left
                      · simp only [Act.put, List.setIfInBounds_toArray, List.set_cons_zero, List.set_cons_succ, i64_w, i32_w]
                        rfl
                      exact norm_ (by first | (simp only [putAll, Act.put, List.setIfInBounds_toArray, List.set_cons_zero, List.set_cons_succ]; done) | (simp only [putAll, Act.put, List.setIfInBounds_toArray, List.set_cons_zero, List.set_cons_succ]; rfl)) (hJ2_5_7 (.slice Ao45 y316.length co45, gb319) _ ⟨(by (with_reducible repeat (first | apply Kd.R_alloc | apply Kd.R_drewN | apply Kd.R_drew)); exact HO318.out), (by (with_reducible repeat (first | apply Kd.R_alloc | apply Kd.R_drewN | apply Kd.R_drew)); exact HO_11.out), (by (with_reducible repeat (first | refine blk_drewN ?_ _ | refine blk_drew ?_ | refine blk_alloc ?_ _)); exact BK307.out), (by (with_reducible repeat (first | refine blk_drewN ?_ _ | refine blk_drew ?_ | refine blk_alloc ?_ _)); exact BK319.out), GW319.out, GE319.out, NB307_319.out, NB319_307.out, (by repeat (first | (with_reducible first | exact HB.out | apply below_alloc | apply pw_below_drewN | apply below_drew1 | refine below_set ?_ GE307.out | refine below_set ?_ GE319.out) | exact HB.out | exact Below.refl (World.heap _).size _))⟩)
                  · skip
                    rintro gb319 w42 ⟨h0_, h1_, h2_, h3_, h4_, h5_, h6_, h7_⟩
                    have n0_ : Aside0 (Kd.R (Kd.int .u64) 29 w42 w.heap.size (fun _ => True) u11 x11_1) := ⟨h0_⟩
                    have n1_ : Aside0 (w42.heap[gb307]? = some (.cells #[.int .u64 x308000_1, .int .u64 x308001_1, .slice none 0 0, .int .u64 x308003_1] 41 (0, 0))) := ⟨h1_⟩
                    have n2_ : Aside0 (w42.heap[gb319]? = some (.cells #[.int .u64 0, .int .u64 0, .slice none 0 0, .int .u64 0] 41 (0, 0))) := ⟨h2_⟩
                    have n3_ : Aside0 (w.heap.size ≤ gb319) := ⟨h3_⟩
                    have n4_ : Aside0 (w.heap.size ≤ gb319) := ⟨h4_⟩
                    have n5_ : Aside0 (gb307 ≠ gb319) := ⟨h5_⟩
                    have n6_ : Aside0 (gb319 ≠ gb307) := ⟨h6_⟩
                    have n7_ : Aside0 (Below w.heap.size w w42) := ⟨h7_⟩
                    clear HO_11
                    clear BK307
                    clear HB
                    clear h0_ h1_ h2_ h3_ h4_ h5_ h6_ h7_
                    have HO_11 := n0_
                    have BK307 := n1_
                    have BK319 := n2_
                    have GW319 := n3_
                    have GE319 := n4_
                    have NB307_319 := n5_
                    have NB319_307 := n6_
                    have HB := n7_
                    clear n0_ n1_ n2_ n3_ n4_ n5_ n6_ n7_
                    have hHeld := trivial
                    refine norm_ (a' := ?_) ?_ ?_
                    rotate_left
                    · simp only [putAll, Act.put, List.setIfInBounds_toArray, List.set_cons_zero, List.set_cons_succ]
                      rfl
                    refine one_ (i := 5) (N := some 52) #[true, true, true, true, true, true, false, true, false] rfl rfl (one_of HT_.out (by kernel_rfl)) (by decide) (fun K hK => ?_)
                    refine Kd.R_make_step (Kd.int .u64) _ 29 (by rfl) (N := 52) rfl 39 _ _ rfl (l3.length : Int) rfl rfl Try.underlying39 (.int .u64 0) 8 info29 rfl (by decide) (by omega) 0 (ok := fun _ => True) (okp := fun _ => True) rfl (fun _ hk => hk) trivial (of_decide_eq_true (by first | (with_reducible assumption) | assumption)) (Nat.le_trans (Nat.mul_le_mul_right _ (of_decide_eq_true (by first | (with_reducible assumption) | assumption) : (l3.length : Int).toNat ≤ 35184372088832)) (by omega)) (Below.refl _ _) (Nat.le_refl _) ?_
                    intro v317 w43 ho44 hb hg_ hnew_
                    clear hg_ hnew_
                    (first | rw [← Ny316.out] at ho44 | (simp only [Int.reduceToNat] at ho44; rw [← Ny316.out] at ho44))
                    have n0_ := Aside0.mk (Kd.R_elder' (by (with_reducible repeat (first | apply Kd.R_alloc | apply Kd.R_drewN | apply Kd.R_drew)); exact HO_11.out) (Kd.R_base ho44) hb)
                    have n1_ := Aside0.mk (Kd.R_lower (Kd.R_new' ho44 (Kd.R_lt (by (with_reducible repeat (first | apply Kd.R_alloc | apply Kd.R_drewN | apply Kd.R_drew)); exact HO_11.out))) (below_size (by repeat (first | (with_reducible first | exact HB.out | apply below_alloc | apply pw_below_drewN | apply below_drew1 | refine below_set ?_ GE307.out | refine below_set ?_ GE319.out) | exact HB.out | exact Below.refl (World.heap _).size _))))
                    have n2_ := Aside0.mk (blk_below (g := gb307) (o := .cells #[.int .u64 x308000_1, .int .u64 x308001_1, .slice none 0 0, .int .u64 x308003_1] 41 (0, 0)) (by (with_reducible repeat (first | refine blk_drewN ?_ _ | refine blk_drew ?_ | refine blk_alloc ?_ _)); exact BK307.out) hb)
                    have n3_ := Aside0.mk (blk_below (g := gb319) (o := .cells #[.int .u64 0, .int .u64 0, .slice none 0 0, .int .u64 0] 41 (0, 0)) (by (with_reducible repeat (first | refine blk_drewN ?_ _ | refine blk_drew ?_ | refine blk_alloc ?_ _)); exact BK319.out) hb)
                    have n4_ := Aside0.mk (below_step (by repeat (first | (with_reducible first | exact HB.out | apply below_alloc | apply pw_below_drewN | apply below_drew1 | refine below_set ?_ GE307.out | refine below_set ?_ GE319.out) | exact HB.out | exact Below.refl (World.heap _).size _)) hb)
                    clear HO_11
                    clear BK307
                    clear BK319
                    clear HB
                    have HO_11 := n0_
                    have HO318 := n1_
                    have BK307 := n2_
                    have BK319 := n3_
                    have HB := n4_
                    clear n0_ n1_ n2_ n3_ n4_
                    clear hb ho44
                    obtain ⟨Ao45, co45, eo45⟩ := Kd.R_slice HO318.out
                    (first | subst eo45 | (injection eo45 with f1_ f2_ f3_; have f4_ := f1_.symm; have f5_ := f3_.symm; clear f1_ f2_ f3_; subst f4_; subst f5_))
                    refine hK.out _ _ trivial (fun hHeld => ?_)
                    clear hK K
                    refine norm_ (a' := ?_) ?_ ?_
                    rotate_left
                    · show Act.put _ (some 52) _ = _
                      simp only [Act.put, List.setIfInBounds_toArray, List.set_cons_zero, List.set_cons_succ, i64_w, i32_w]
                      rfl
                    refine pure_ (i := 6) (N := some 53) (v := ?_) (a' := ?_) #[true, true, true, true, true, true, true, true, false] rfl rfl (any_of HT_.out (by kernel_rfl)) (fun _ _ _ h => h) (Or.inl ⟨by rfl, ?_⟩) ?_ ?_
                    rotate_left
                    · intro w'
                      go_simp
                      with_reducible rfl
                    rotate_left
                    · simp only [Act.put, List.setIfInBounds_toArray, List.set_cons_zero, List.set_cons_succ, i64_w, i32_w]
                      rfl
                    exact norm_ (by first | (simp only [putAll, Act.put, List.setIfInBounds_toArray, List.set_cons_zero, List.set_cons_succ]; done) | (simp only [putAll, Act.put, List.setIfInBounds_toArray, List.set_cons_zero, List.set_cons_succ]; rfl)) (hJ2_5_7 (.slice Ao45 y316.length co45, gb319) _ ⟨(by (with_reducible repeat (first | apply Kd.R_alloc | apply Kd.R_drewN | apply Kd.R_drew)); exact Kd.R_mono HO318.out (fun _ hk => hk.2)), (by (with_reducible repeat (first | apply Kd.R_alloc | apply Kd.R_drewN | apply Kd.R_drew)); exact Kd.R_mono HO_11.out (fun _ hk => hk.2)), (by (with_reducible repeat (first | refine blk_drewN ?_ _ | refine blk_drew ?_ | refine blk_alloc ?_ _)); exact BK307.out), (by (with_reducible repeat (first | refine blk_drewN ?_ _ | refine blk_drew ?_ | refine blk_alloc ?_ _)); exact BK319.out), GW319.out, GE319.out, NB307_319.out, NB319_307.out, (by repeat (first | (with_reducible first | exact HB.out | apply below_alloc | apply pw_below_drewN | apply below_drew1 | refine below_set ?_ GE307.out | refine below_set ?_ GE319.out) | exact HB.out | exact Below.refl (World.heap _).size _))⟩)
                · skip
                  rintro v317 w44 ⟨h0_, h1_, h2_, h3_⟩
                  have n0_ : Aside0 (Kd.R (Kd.int .u64) 29 w44 w.heap.size (fun k_ => some k_ ≠ (u11 : Value).ownBlock) v317 y316) := ⟨h0_⟩
                  have n1_ : Aside0 (Kd.R (Kd.int .u64) 29 w44 w.heap.size (fun k_ => some k_ ≠ (v317 : Value).ownBlock) u11 x11_1) := ⟨h1_⟩
                  have n2_ : Aside0 (w44.heap[gb307]? = some (.cells #[.int .u64 x308000_1, .int .u64 x308001_1, .slice none 0 0, .int .u64 x308003_1] 41 (0, 0))) := ⟨h2_⟩
                  have n3_ : Aside0 (Below w.heap.size w w44) := ⟨h3_⟩
                  clear HO_11
                  clear BK307
                  clear HB
                  clear h0_ h1_ h2_ h3_
                  have HO318 := n0_
                  have HO_11 := n1_
                  have BK307 := n2_
                  have HB := n3_
                  clear n0_ n1_ n2_ n3_
                  have hHeld := trivial
                  obtain ⟨Ao45, co45, eo45⟩ := Kd.R_slice HO318.out
                  (first | subst eo45 | (injection eo45 with f1_ f2_ f3_; have f4_ := f1_.symm; have f5_ := f3_.symm; clear f1_ f2_ f3_; subst f4_; subst f5_))
                  refine norm_ (a' := ?_) ?_ ?_
                  rotate_left
                  · simp only [putAll, Act.put, List.setIfInBounds_toArray, List.set_cons_zero, List.set_cons_succ]
                    rfl
                  refine one_ (i := 7) (N := some 15) #[true, true, true, true, true, true, true, true, false] rfl rfl (one_of HT_.out (by kernel_rfl)) (by decide) (fun K hK => ?_)
                  refine box_step ?hg (N := 15) ?hd (cs := #[.int .u64 0, .int .u64 0, .slice none 0 0, .int .u64 0]) (t := 41) ?hr ?_; (case hd => rfl); (case hg => rfl); (case hr => first | (go_simp; done) | (go_simp; rfl))
                  intro gb319 hg w46 hbox hb
                  have n0_ := Aside0.mk (Kd.R_below (by (with_reducible repeat (first | apply Kd.R_alloc | apply Kd.R_drewN | apply Kd.R_drew)); exact HO_11.out) hb)
                  have n1_ := Aside0.mk (Kd.R_below (by (with_reducible repeat (first | apply Kd.R_alloc | apply Kd.R_drewN | apply Kd.R_drew)); exact HO318.out) hb)
                  have n2_ := Aside0.mk (blk_below (g := gb307) (o := .cells #[.int .u64 x308000_1, .int .u64 x308001_1, .slice none 0 0, .int .u64 x308003_1] 41 (0, 0)) (by (with_reducible repeat (first | refine blk_drewN ?_ _ | refine blk_drew ?_ | refine blk_alloc ?_ _)); exact BK307.out) hb)
                  have n3_ := Aside0.mk (below_step (by repeat (first | (with_reducible first | exact HB.out | apply below_alloc | apply pw_below_drewN | apply below_drew1 | refine below_set ?_ GE307.out) | exact HB.out | exact Below.refl (World.heap _).size _)) hb)
                  have n4_ := Aside0.mk (hbox)
                  have n5_ := Aside0.mk ((by rw [hg]; exact (below_size (by repeat (first | (with_reducible first | exact HB.out | apply below_alloc | apply pw_below_drewN | apply below_drew1 | refine below_set ?_ GE307.out) | exact HB.out | exact Below.refl (World.heap _).size _))) : w.heap.size ≤ gb319))
                  have n6_ := Aside0.mk ((by rw [hg]; exact (below_size (by repeat (first | (with_reducible first | exact HB.out | apply below_alloc | apply pw_below_drewN | apply below_drew1 | refine below_set ?_ GE307.out) | exact HB.out | exact Below.refl (World.heap _).size _))) : w.heap.size ≤ gb319))
                  have n7_ := Aside0.mk ((by rw [hg]; exact Nat.ne_of_lt (blk_lt (g := gb307) (o := .cells #[.int .u64 x308000_1, .int .u64 x308001_1, .slice none 0 0, .int .u64 x308003_1] 41 (0, 0)) (by (with_reducible repeat (first | refine blk_drewN ?_ _ | refine blk_drew ?_ | refine blk_alloc ?_ _)); exact BK307.out)) : gb307 ≠ gb319))
                  have n8_ := Aside0.mk ((by rw [hg]; exact Nat.ne_of_gt (blk_lt (g := gb307) (o := .cells #[.int .u64 x308000_1, .int .u64 x308001_1, .slice none 0 0, .int .u64 x308003_1] 41 (0, 0)) (by (with_reducible repeat (first | refine blk_drewN ?_ _ | refine blk_drew ?_ | refine blk_alloc ?_ _)); exact BK307.out)) : gb319 ≠ gb307))
                  clear HO_11
                  clear HO318
                  clear BK307
                  clear HB
                  have HO_11 := n0_
                  have HO318 := n1_
                  have BK307 := n2_
                  have HB := n3_
                  have BK319 := n4_
                  have GW319 := n5_
                  have GE319 := n6_
                  have NB307_319 := n7_
                  have NB319_307 := n8_
                  clear n0_ n1_ n2_ n3_ n4_ n5_ n6_ n7_ n8_
                  clear hb hbox hg
                  refine hK.out _ _ trivial (fun hHeld => ?_)
                  clear hK K
                  refine norm_ (a' := ?_) ?_ ?_
                  rotate_left
                  · show Act.put _ (some 15) _ = _
                    simp only [Act.put, List.setIfInBounds_toArray, List.set_cons_zero, List.set_cons_succ, i64_w, i32_w]
                    rfl
                  exact norm_ (by first | (simp only [putAll, Act.put, List.setIfInBounds_toArray, List.set_cons_zero, List.set_cons_succ]; done) | (simp only [putAll, Act.put, List.setIfInBounds_toArray, List.set_cons_zero, List.set_cons_succ]; rfl)) (hJ2_5_7 (.slice Ao45 y316.length co45, gb319) _ ⟨(by (with_reducible repeat (first | apply Kd.R_alloc | apply Kd.R_drewN | apply Kd.R_drew)); exact HO318.out), (by (with_reducible repeat (first | apply Kd.R_alloc | apply Kd.R_drewN | apply Kd.R_drew)); exact HO_11.out), (by (with_reducible repeat (first | refine blk_drewN ?_ _ | refine blk_drew ?_ | refine blk_alloc ?_ _)); exact BK307.out), (by (with_reducible repeat (first | refine blk_drewN ?_ _ | refine blk_drew ?_ | refine blk_alloc ?_ _)); exact BK319.out), GW319.out, GE319.out, NB307_319.out, NB319_307.out, (by repeat (first | (with_reducible first | exact HB.out | apply below_alloc | apply pw_below_drewN | apply below_drew1 | refine below_set ?_ GE307.out | refine below_set ?_ GE319.out) | exact HB.out | exact Below.refl (World.heap _).size _))⟩)
              rintro ⟨v317, gb319⟩ w45 ⟨h0_, h1_, h2_, h3_, h4_, h5_, h6_, h7_, h8_⟩
              have n0_ : Aside0 (Kd.R (Kd.int .u64) 29 w45 w.heap.size (fun k_ => some k_ ≠ (u11 : Value).ownBlock) v317 y316) := ⟨h0_⟩
              have n1_ : Aside0 (Kd.R (Kd.int .u64) 29 w45 w.heap.size (fun k_ => some k_ ≠ (v317 : Value).ownBlock) u11 x11_1) := ⟨h1_⟩
              have n2_ : Aside0 (w45.heap[gb307]? = some (.cells #[.int .u64 x308000_1, .int .u64 x308001_1, .slice none 0 0, .int .u64 x308003_1] 41 (0, 0))) := ⟨h2_⟩
              have n3_ : Aside0 (w45.heap[gb319]? = some (.cells #[.int .u64 0, .int .u64 0, .slice none 0 0, .int .u64 0] 41 (0, 0))) := ⟨h3_⟩
              have n4_ : Aside0 (w.heap.size ≤ gb319) := ⟨h4_⟩
              have n5_ : Aside0 (w.heap.size ≤ gb319) := ⟨h5_⟩
              have n6_ : Aside0 (gb307 ≠ gb319) := ⟨h6_⟩
              have n7_ : Aside0 (gb319 ≠ gb307) := ⟨h7_⟩
              have n8_ : Aside0 (Below w.heap.size w w45) := ⟨h8_⟩
              clear HO_11
              clear BK307
              clear HB
              clear h0_ h1_ h2_ h3_ h4_ h5_ h6_ h7_ h8_
              have HO318 := n0_
              have HO_11 := n1_
              have BK307 := n2_
              have BK319 := n3_
              have GW319 := n4_
              have GE319 := n5_
              have NB307_319 := n6_
              have NB319_307 := n7_
              have HB := n8_
              clear n0_ n1_ n2_ n3_ n4_ n5_ n6_ n7_ n8_
              have hHeld := trivial
              obtain ⟨Ao46, co46, eo46⟩ := Kd.R_slice HO318.out
              (first | subst eo46 | (injection eo46 with f1_ f2_ f3_; have f4_ := f1_.symm; have f5_ := f3_.symm; clear f1_ f2_ f3_; subst f4_; subst f5_))
              refine norm_ (a' := ?_) ?_ ?_
              rotate_left
              · simp only [putAll, Act.put, List.setIfInBounds_toArray, List.set_cons_zero, List.set_cons_succ]
                rfl
              refine one_ (i := 8) (N := none) #[true, true, true, true, true, true, true, true, true] rfl rfl (one_of HT_.out (by kernel_rfl)) (by decide) (fun K hK => ?_)
              have hs47 : w45.cell? ⟨gb319, 0, none⟩ = some (.int .u64 0) := (blk_cell BK319.out 0).trans rfl
              have hfs47 := blk_frozen BK319.out 0
              have hns47_0 := NB307_319.out
              have hms47_0 := NB319_307.out
              have hs48 : w45.cell? ⟨gb319, 1, none⟩ = some (.int .u64 0) := (blk_cell BK319.out 1).trans rfl
              have hfs48 := blk_frozen BK319.out 1
              have hns48_0 := NB307_319.out
              have hms48_0 := NB319_307.out
              have hs49 : w45.cell? ⟨gb319, 2, none⟩ = some (.slice none 0 0) := (blk_cell BK319.out 2).trans rfl
              have hfs49 := blk_frozen BK319.out 2
              have hns49_0 := NB307_319.out
              have hms49_0 := NB319_307.out
              have hs50 : w45.cell? ⟨gb319, 3, none⟩ = some (.int .u64 0) := (blk_cell BK319.out 3).trans rfl
              have hfs50 := blk_frozen BK319.out 3
              have hns50_0 := NB307_319.out
              have hms50_0 := NB319_307.out
              refine skip_ (w1 := ?_) (by rfl) rfl ?_ ?_
              rotate_left
              · go_simp
                rfl
              refine hK.out _ _ trivial (fun hHeld => ?_)
              clear hK K
              refine done_ (done_of HT_.out (by kernel_rfl)) ?_
              have hnb51 := NB319_307.out
              have hnc51 := NB307_319.out
              have hcz52_0 : w45.cell? ⟨gb319, 0, none⟩ = some (.int .u64 0) := (blk_cell BK319.out 0).trans rfl
              have hcz52_1 : w45.cell? ⟨gb319, 1, none⟩ = some (.int .u64 0) := (blk_cell BK319.out 1).trans rfl
              have hcz52_2 : w45.cell? ⟨gb319, 2, none⟩ = some (.slice none 0 0) := (blk_cell BK319.out 2).trans rfl
              have hcz52_3 : w45.cell? ⟨gb319, 3, none⟩ = some (.int .u64 0) := (blk_cell BK319.out 3).trans rfl
              have hfz52_0 := blk_frozen BK319.out 0
              have hfz52_1 := blk_frozen BK319.out 1
              have hfz52_2 := blk_frozen BK319.out 2
              have hfz52_3 := blk_frozen BK319.out 3
              have hx : ∀ nd : Nat, (((((((w45.setCell ⟨gb319, 0, none⟩ (.int .u64 t315)).setCell ⟨gb319, 1, none⟩ (.int .u64 0)).setCell ⟨gb319, 2, none⟩ (.slice Ao46 y316.length co46)).setCell ⟨gb319, 3, none⟩ (.int .u64 0)).drewN nd).setCell ⟨gb319, 1, none⟩ (.int .u64 t320)).cell? ⟨gb319, 1, none⟩) = some (.int .u64 t320) := fun nd => (blk_cell (blk_set (w := ((((w45.setCell ⟨gb319, 0, none⟩ (.int .u64 t315)).setCell ⟨gb319, 1, none⟩ (.int .u64 0)).setCell ⟨gb319, 2, none⟩ (.slice Ao46 y316.length co46)).setCell ⟨gb319, 3, none⟩ (.int .u64 0)).drewN nd) (blk_set (blk_set (blk_set (blk_set BK319.out 0 _) 1 _) 2 _) 3 _) 1 _) 1).trans rfl
              have hx3 : ∀ (nd nd2 : Nat) (v : Value), ((((((((w45.setCell ⟨gb319, 0, none⟩ (.int .u64 t315)).setCell ⟨gb319, 1, none⟩ (.int .u64 0)).setCell ⟨gb319, 2, none⟩ (.slice Ao46 y316.length co46)).setCell ⟨gb319, 3, none⟩ (.int .u64 0)).drewN nd).setCell ⟨gb319, 1, none⟩ (.int .u64 t320)).drewN nd2).setCell ⟨gb319, 3, none⟩ v).cell? ⟨gb319, 3, none⟩ = some v := fun nd nd2 v => (blk_cell (blk_set (w := ((((((w45.setCell ⟨gb319, 0, none⟩ (.int .u64 t315)).setCell ⟨gb319, 1, none⟩ (.int .u64 0)).setCell ⟨gb319, 2, none⟩ (.slice Ao46 y316.length co46)).setCell ⟨gb319, 3, none⟩ (.int .u64 0)).drewN nd).setCell ⟨gb319, 1, none⟩ (.int .u64 t320)).drewN nd2) (blk_set (w := ((((w45.setCell ⟨gb319, 0, none⟩ (.int .u64 t315)).setCell ⟨gb319, 1, none⟩ (.int .u64 0)).setCell ⟨gb319, 2, none⟩ (.slice Ao46 y316.length co46)).setCell ⟨gb319, 3, none⟩ (.int .u64 0)).drewN nd) (blk_set (blk_set (blk_set (blk_set BK319.out 0 _) 1 _) 2 _) 3 _) 1 _) 3 _) 3).trans rfl
              try go_wp2_with (first | ((with_reducible refine gate_callee (f := 49) rfl ?_); refine goesL_ (some 60) rfl rfl Try.func49 (by kernel_rfl) rfl #[.int .u64 (IntKind.u64.wrap (a0 - t315)), .int .u64 a2] rfl (by (try simp only [List.map_toArray, List.map_cons, List.map_nil]); first | done | rfl | (simp only [List.length_drop, List.length_take]; rfl)) ?_; (with_reducible refine (bourseref22_lesser.calls (IntKind.u64.wrap (a0 - t315)) a2 t320 _ A18.out).mono ?_); rintro e w' ⟨rfl, ⟨nd, rfl⟩⟩; refine ⟨_, rfl, ?_⟩) | ((with_reducible refine gate_callee (f := 49) rfl ?_); refine goesL_ (some 68) rfl rfl Try.func49 (by kernel_rfl) rfl #[.int .u64 (IntKind.u64.wrap ((IntKind.u64.wrap (a0 - t315)) - t320)), .int .u64 x10_1] rfl (by (try simp only [List.map_toArray, List.map_cons, List.map_nil]); first | done | rfl | (simp only [List.length_drop, List.length_take]; rfl)) ?_; (with_reducible refine (bourseref22_lesser.calls (IntKind.u64.wrap ((IntKind.u64.wrap (a0 - t315)) - t320)) x10_1 t321 _ A19.out).mono ?_); rintro e w' ⟨rfl, ⟨nd, rfl⟩⟩; refine ⟨_, rfl, ?_⟩; have hcz53_0 : w45.cell? ⟨gb307, 0, none⟩ = some (.int .u64 x308000_1) := (blk_cell BK307.out 0).trans rfl; have hcz53_1 : w45.cell? ⟨gb307, 1, none⟩ = some (.int .u64 x308001_1) := (blk_cell BK307.out 1).trans rfl; have hcz53_2 : w45.cell? ⟨gb307, 2, none⟩ = some (.slice none 0 0) := (blk_cell BK307.out 2).trans rfl; have hcz53_3 : w45.cell? ⟨gb307, 3, none⟩ = some (.int .u64 x308003_1) := (blk_cell BK307.out 3).trans rfl; have hfz53_0 := blk_frozen BK307.out 0; have hfz53_1 := blk_frozen BK307.out 1; have hfz53_2 := blk_frozen BK307.out 2; have hfz53_3 := blk_frozen BK307.out 3))
              refine bodyPost_ret (results_ct rfl _ _ gb307 41 #[.int .u64 t315, .int .u64 t320, .slice Ao46 y316.length co46, .int .u64 (IntKind.u64.wrap ((IntKind.u64.wrap ((IntKind.u64.wrap (a0 - t315)) - t320)) - t321))] (0, 0) _ rfl (by (with_reducible repeat (first | refine blk_drewN ?_ _ | refine blk_drew ?_ | refine blk_alloc ?_ _)); refine blk_put (cs := #[.int .u64 t315, .int .u64 t320, .slice Ao46 y316.length co46, .int .u64 x308003_1]) ?_ 3 _ rfl; (with_reducible repeat (first | refine blk_drewN ?_ _ | refine blk_drew ?_ | refine blk_alloc ?_ _)); refine blk_put (cs := #[.int .u64 t315, .int .u64 t320, .slice none 0 0, .int .u64 x308003_1]) ?_ 2 _ rfl; (with_reducible repeat (first | refine blk_drewN ?_ _ | refine blk_drew ?_ | refine blk_alloc ?_ _)); refine blk_put (cs := #[.int .u64 t315, .int .u64 x308001_1, .slice none 0 0, .int .u64 x308003_1]) ?_ 1 _ rfl; (with_reducible repeat (first | refine blk_drewN ?_ _ | refine blk_drew ?_ | refine blk_alloc ?_ _)); refine blk_put (cs := #[.int .u64 x308000_1, .int .u64 x308001_1, .slice none 0 0, .int .u64 x308003_1]) ?_ 0 _ rfl; (with_reducible repeat (first | refine blk_drewN ?_ _ | refine blk_drew ?_ | refine blk_alloc ?_ _)); refine blk_far ?_ NB307_319.out _; (with_reducible repeat (first | refine blk_drewN ?_ _ | refine blk_drew ?_ | refine blk_alloc ?_ _)); refine blk_far ?_ NB307_319.out _; (with_reducible repeat (first | refine blk_drewN ?_ _ | refine blk_drew ?_ | refine blk_alloc ?_ _)); refine blk_far ?_ NB307_319.out _; (with_reducible repeat (first | refine blk_drewN ?_ _ | refine blk_drew ?_ | refine blk_alloc ?_ _)); refine blk_far ?_ NB307_319.out _; (with_reducible repeat (first | refine blk_drewN ?_ _ | refine blk_drew ?_ | refine blk_alloc ?_ _)); refine blk_far ?_ NB307_319.out _; (with_reducible repeat (first | refine blk_drewN ?_ _ | refine blk_drew ?_ | refine blk_alloc ?_ _)); refine blk_far ?_ NB307_319.out _; (with_reducible repeat (first | refine blk_drewN ?_ _ | refine blk_drew ?_ | refine blk_alloc ?_ _)); exact BK307.out) Try.underlying41 rfl (by kernel_rfl)) rfl ?_
              exact ⟨_, by first | rfl | (simp [errW_none, errW_some] <;> rfl) | (simp [*, errW_none, errW_some] <;> rfl), by (with_reducible repeat (first | apply Kd.R_alloc | apply Kd.R_drewN | apply Kd.R_drew)); exact Kd.R_mono (Kd.R_far (p := ⟨gb307, 3, none⟩) (Kd.R_far (p := ⟨gb307, 2, none⟩) (Kd.R_far (p := ⟨gb307, 1, none⟩) (Kd.R_far (p := ⟨gb307, 0, none⟩) (Kd.R_far (p := ⟨gb319, 3, none⟩) (Kd.R_drewN (Kd.R_far (p := ⟨gb319, 1, none⟩) (Kd.R_drewN (Kd.R_far (p := ⟨gb319, 3, none⟩) (Kd.R_far (p := ⟨gb319, 2, none⟩) (Kd.R_far (p := ⟨gb319, 1, none⟩) (Kd.R_far (p := ⟨gb319, 0, none⟩) (Kd.R_types (Kd.R_types HO318.out BK319.out (by decide)) BK307.out (by decide)) (fun _ hk => hk.1.2) (.int .u64 t315)) (fun _ hk => hk.1.2) (.int .u64 0)) (fun _ hk => hk.1.2) (.slice Ao46 y316.length co46)) (fun _ hk => hk.1.2) (.int .u64 0)) _) (fun _ hk => hk.1.2) (.int .u64 t320)) _) (fun _ hk => hk.1.2) (.int .u64 (IntKind.u64.wrap ((IntKind.u64.wrap ((IntKind.u64.wrap (a0 - t315)) - t320)) - t321)))) (fun _ hk => hk.2) (.int .u64 t315)) (fun _ hk => hk.2) (.int .u64 t320)) (fun _ hk => hk.2) (.slice Ao46 y316.length co46)) (fun _ hk => hk.2) (.int .u64 (IntKind.u64.wrap ((IntKind.u64.wrap ((IntKind.u64.wrap (a0 - t315)) - t320)) - t321)))) (fun _ hk => trivial), by repeat (first | (with_reducible first | exact HB.out | apply below_alloc | apply pw_below_drewN | apply below_drew1 | refine below_set ?_ GE307.out | refine below_set ?_ GE319.out) | exact HB.out | exact Below.refl (World.heap _).size _)⟩
          · rw [if_neg c17] at H
            exact absurd H (by simp)
        · rw [if_neg c16] at H
          exact absurd H (by simp)

end Go.Proofs.Ytopekdmipnpnaaa.PBea
