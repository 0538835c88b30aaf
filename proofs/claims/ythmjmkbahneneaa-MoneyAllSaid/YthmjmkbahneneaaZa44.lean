/- MonQ, struck of what this claim does not name (wip/tools/pack2.py). -/
import Derived.Test.YthmjmkbahneneaaZa43
section
namespace Go.Proofs.Ythmjmkbahneneaa.PMon
open Go.RowKit Go.Proofs.YthmjmkbahneneaaW.PrintWords Go.Proofs.YthmjmkbahneneaaW.PrintLast Go.Proofs.YthmjmkbahneneaaW.PrintMore
set_option linter.unusedVariables false
set_option linter.unusedSimpArgs false

theorem ten (a d : Nat) (ha : a < 170141183460469231731687303715884105728) (hd : d < 10) :
    ∃ ov lw mo hg lw2 cy hg2 ag : Int, bits_Mul64.f (loN a) 10 = some (ov, lw) ∧ bits_Mul64.f (hiN a) 10 = some (mo, hg) ∧ bits_Add64.f lw (d : Int) 0 = some (lw2, cy) ∧ bits_Add64.f hg ov cy = some (hg2, ag) ∧
      (if a * 10 + d < 170141183460469231731687303715884105728 then (Go.bits .or .u64 mo ag != 0) = false ∧ hg2 < 9223372036854775808 ∧ hg2 = hiN (a * 10 + d) ∧ lw2 = loN (a * 10 + d)
       else (Go.bits .or .u64 mo ag != 0) = true ∨ ((Go.bits .or .u64 mo ag != 0) = false ∧ 9223372036854775808 ≤ hg2)) := by
  obtain ⟨h, l, rfl, hh, hl⟩ : ∃ h l : Nat, a = h * 18446744073709551616 + l ∧ h < 9223372036854775808 ∧ l < 18446744073709551616 := ⟨a / 18446744073709551616, a % 18446744073709551616, by omega, by omega, by omega⟩
  have eh : hiN (h * 18446744073709551616 + l) = (h : Int) := by unfold hiN; omega
  have el : loN (h * 18446744073709551616 + l) = (l : Int) := by unfold loN; omega
  rw [eh, el]
  have m1 := MonA.mul64_val (l : Int) 10 (by omega) (by omega) (by decide) (by decide)
  have m2 := MonA.mul64_val (h : Int) 10 (by omega) (by omega) (by decide) (by decide)
  have c1 : (l : Int) * 10 % 18446744073709551616 = ((l * 10 % 18446744073709551616 : Nat) : Int) := by omega
  have c2 : (l : Int) * 10 / 18446744073709551616 = ((l * 10 / 18446744073709551616 : Nat) : Int) := by omega
  have c3 : (h : Int) * 10 % 18446744073709551616 = ((h * 10 % 18446744073709551616 : Nat) : Int) := by omega
  have c4 : (h : Int) * 10 / 18446744073709551616 = ((h * 10 / 18446744073709551616 : Nat) : Int) := by omega
  rw [c1, c2] at m1
  rw [c3, c4] at m2
  have a1 := add64 (l * 10 % 18446744073709551616) d 0 (by omega)
  rw [show ((0 : Nat) : Int) = 0 from rfl, Nat.add_zero] at a1
  have a2 := add64 (h * 10 % 18446744073709551616) (l * 10 / 18446744073709551616) ((l * 10 % 18446744073709551616 + d) / 18446744073709551616) (by omega)
  refine ⟨_, _, _, _, _, _, _, _, m1, m2, a1, a2, ?_⟩
  rw [or_zero (by omega) (by omega)]
  obtain ⟨ov, hov⟩ : ∃ x, x = l * 10 / 18446744073709551616 := ⟨_, rfl⟩
  obtain ⟨lw, hlw⟩ : ∃ x, x = l * 10 % 18446744073709551616 := ⟨_, rfl⟩
  obtain ⟨mo, hmo⟩ : ∃ x, x = h * 10 / 18446744073709551616 := ⟨_, rfl⟩
  obtain ⟨hg, hhg⟩ : ∃ x, x = h * 10 % 18446744073709551616 := ⟨_, rfl⟩
  rw [← hov, ← hlw, ← hmo, ← hhg]
  have e1 : l * 10 = 18446744073709551616 * ov + lw ∧ lw < 18446744073709551616 := by omega
  have e2 : h * 10 = 18446744073709551616 * mo + hg ∧ hg < 18446744073709551616 := by omega
  clear m1 m2 a1 a2 c1 c2 c3 c4 hov hlw hmo hhg eh el ha
  obtain ⟨cy, hcy⟩ : ∃ x, x = (lw + d) / 18446744073709551616 := ⟨_, rfl⟩
  obtain ⟨lw2, hlw2⟩ : ∃ x, x = (lw + d) % 18446744073709551616 := ⟨_, rfl⟩
  have e3 : lw + d = 18446744073709551616 * cy + lw2 ∧ lw2 < 18446744073709551616 := by omega
  rw [← hcy, ← hlw2]
  obtain ⟨ag, hag⟩ : ∃ x, x = (hg + ov + cy) / 18446744073709551616 := ⟨_, rfl⟩
  obtain ⟨hg2, hhg2⟩ : ∃ x, x = (hg + ov + cy) % 18446744073709551616 := ⟨_, rfl⟩
  have e4 : hg + ov + cy = 18446744073709551616 * ag + hg2 ∧ hg2 < 18446744073709551616 := by omega
  rw [← hag, ← hhg2]
  clear hcy hlw2 hag hhg2
  have tot : (h * 18446744073709551616 + l) * 10 + d = 340282366920938463463374607431768211456 * (mo + ag) + (18446744073709551616 * hg2 + lw2) := by omega
  clear e1 e2
  by_cases c : (h * 18446744073709551616 + l) * 10 + d < 170141183460469231731687303715884105728
  · rw [if_pos c]
    have z : mo + ag = 0 := by omega
    rw [z] at tot
    have t2 : (h * 18446744073709551616 + l) * 10 + d = 18446744073709551616 * hg2 + lw2 := by omega
    have e4b := e4.2
    have e3b := e3.2
    clear e3 e4 tot
    rw [t2]
    have g1 : hg2 < 9223372036854775808 := by omega
    have g2 : (18446744073709551616 * hg2 + lw2) / 18446744073709551616 = hg2 := by omega
    have g3 : (18446744073709551616 * hg2 + lw2) % 18446744073709551616 = lw2 := by omega
    refine ⟨decide_eq_false (by omega), by omega, by unfold hiN; rw [g2], by unfold loN; rw [g3]⟩
  · rw [if_neg c]
    by_cases e : mo ≠ 0 ∨ ag ≠ 0
    · exact .inl (decide_eq_true e)
    · exact .inr ⟨decide_eq_false e, by omega⟩

structure PaW (w : World) (r : List UInt8) (i a : Nat) (w' : World) : Prop where
  k0 : w'.heap[w.heap.size]? = some (.cells #[.int .u64 0, .int .u64 0, .bool false] 40 (0, 0))
  k1 : w'.heap[w.heap.size + 1]? = some (.cells #[.int .u64 (hiN a), .int .u64 (loN a), .bool false] 40 (0, 0))
  k2 : Below w.heap.size w w'
  val : eat (r.drop i) a = eat r 0
  small : a < 170141183460469231731687303715884105728

theorem bs_at (r : List UInt8) (R : ByteArray) (h : R = bs r) (i : Nat) (hi : i < R.size) : r[i]? = some R[i] := by
  subst h
  have h2 : i < r.length := by rwa [bs_size] at hi
  rw [List.getElem?_eq_getElem h2]
  rfl
theorem eat_drop (r : List UInt8) (i a : Nat) (ch : UInt8) (h : r[i]? = some ch) : eat (r.drop i) a = if ch = 46 then eat (r.drop (i + 1)) a else if ch.toNat < 48 ∨ 57 < ch.toNat then none else if a * 10 + (ch.toNat - 48) < 170141183460469231731687303715884105728 then eat (r.drop (i + 1)) (a * 10 + (ch.toNat - 48)) else none := by
  obtain ⟨h2, h3⟩ := List.getElem?_eq_some_iff.1 h
  rw [List.drop_eq_getElem_cons h2, h3, eat_cons]
theorem parse_none {l r : List UInt8} (hr : r = (cut l).1) (h : eat r 0 = none) : parse l = none := by
  unfold parse says
  rw [← hr, h]
  rfl
theorem parse_some {l r : List UInt8} {mn : Bool} (hr : r = (cut l).1) (hm : mn = (cut l).2) {a : Nat} (h : eat r 0 = some a) : parse l = if text (if mn then -(a : Int) else (a : Int)) = l then some (if mn then -(a : Int) else (a : Int)) else none := by
  unfold parse says
  rw [← hr, h, ← hm]
  rfl
theorem PaW.put {w w' W : World} {r : List UInt8} {i a i2 a2 : Nat} (h : PaW w r i a w') (hW : W.heap = w'.heap) (hB : Below w.heap.size w' W) (hv : eat (r.drop i2) a2 = eat r 0) (hs : a2 < 170141183460469231731687303715884105728) : PaW w r i2 a2 (((W.setCell ⟨w.heap.size + 1, 0, none⟩ (.int .u64 (hiN a2))).setCell ⟨w.heap.size + 1, 1, none⟩ (.int .u64 (loN a2))).setCell ⟨w.heap.size + 1, 2, none⟩ (.bool false)) := by
  have o : ∀ (k g : Nat) (W : World) (a b c : Value), k ≠ g → (((W.setCell ⟨g, 0, none⟩ a).setCell ⟨g, 1, none⟩ b).setCell ⟨g, 2, none⟩ c).heap[k]? = W.heap[k]? := fun k g W a b c hk =>
    (Below.heap_setCell _ _ _ k hk).trans ((Below.heap_setCell _ _ _ k hk).trans (Below.heap_setCell _ _ _ k hk))
  have k1 : W.heap[w.heap.size + 1]? = some (.cells #[.int .u64 (hiN a), .int .u64 (loN a), .bool false] 40 (0, 0)) := by rw [hW]; exact h.k1
  refine ⟨(o _ _ _ _ _ _ (by omega)).trans (by rw [hW]; exact h.k0), blk_put (blk_put (blk_put k1 0 _ rfl) 1 _ rfl) 2 _ rfl, ?_, hv, hs⟩
  exact (((h.k2.trans hB).setCell (by show w.heap.size ≤ w.heap.size + 1; omega) _).setCell (by show w.heap.size ≤ w.heap.size + 1; omega) _).setCell (by show w.heap.size ≤ w.heap.size + 1; omega) _

set_option maxHeartbeats 8000000 in
set_option maxRecDepth 100000 in
theorem parse_calls (l : List UInt8) (hl : l.length ≤ 9223372036854775807) (w : World) :
    Calls Try.prog 24 #[.string (bs l)] w fun e w' => e = .returned (.tuple #[M (parseR l), .int .i64 (parseE l)]) ∧ Below w.heap.size w w' := by
  obtain ⟨r, hr⟩ : ∃ r, r = (cut l).1 := ⟨_, rfl⟩
  obtain ⟨mn, hmn⟩ : ∃ mn, mn = (cut l).2 := ⟨_, rfl⟩
  have hc := cut_f l
  rw [← hr, ← hmn] at hc
  have HC := Aside0.mk hc
  have HRM := Aside0.mk (And.intro hr hmn)
  have hrl : r.length ≤ 9223372036854775807 := by
    rw [hr]
    unfold cut
    match l, hl with
    | [], _ => exact Nat.zero_le _
    | c :: t, hl =>
      show (if c = 45 then (t, true) else (c :: t, false)).1.length ≤ _
      rw [List.length_cons] at hl
      by_cases h : c = 45
      · rw [if_pos h]; show t.length ≤ _; omega
      · rw [if_neg h]; show (c :: t).length ≤ _; rw [List.length_cons]; omega
  obtain ⟨S, hS⟩ : ∃ S, S = bs l := ⟨_, rfl⟩
  obtain ⟨Rs, hRs⟩ : ∃ Rs, Rs = bs r := ⟨_, rfl⟩
  rw [← hS]
  rw [← hS, ← hRs] at HC
  have hsz : Rs.size = r.length := by rw [hRs, bs_size]
  obtain ⟨n, hn⟩ : ∃ n, n = r.length := ⟨_, rfl⟩
  rw [← hn] at hsz hrl
  have HS := Aside0.mk (And.intro hS (And.intro hRs hn))
  clear hr hmn hc hS hRs hn hl
  go_enter Try.func24, Try.ntmps24
  go_wp2_with (first
    | ((with_reducible refine gate_callee (f := 55) rfl ?_); (try (refine gate_guard (by rfl) ?_; dsimp only)); refine goesL_ (some 17) rfl rfl Try.func55 (by kernel_rfl) rfl #[.string S, .string ⟨#[45]⟩] rfl (by (try simp only [List.map_toArray, List.map_cons, List.map_nil]); first | done | rfl) ?_; (with_reducible refine (strings_CutPrefix.calls S ⟨#[45]⟩ Rs mn _ HC.out).mono ?_); rintro e w' ⟨rfl, ⟨nd, rfl⟩⟩; refine ⟨_, rfl, ?_⟩; skip))
  have PA : Aside0 (PaW w r 0 0 (((w.alloc (.cells #[.int .u64 0, .int .u64 0, .bool false] 40)).drewN nd).alloc (.cells #[.int .u64 0, .int .u64 0, .bool false] 40))) := ⟨by
    have s1 : ((w.alloc (.cells #[.int .u64 0, .int .u64 0, .bool false] 40)).drewN nd).heap.size = w.heap.size + 1 := World.size_alloc _ _
    have n1 := World.alloc_heap_new ((w.alloc (.cells #[.int .u64 0, .int .u64 0, .bool false] 40)).drewN nd) (.cells #[.int .u64 0, .int .u64 0, .bool false] 40)
    rw [s1] at n1
    refine ⟨(Below.heap_alloc _ _ _ (by rw [s1]; omega)).trans (World.alloc_heap_new w _), n1, (pw_below_drewN ((Below.refl _ w).alloc (Nat.le_refl _) _) nd).alloc (by rw [s1]; omega) _, rfl, by decide⟩⟩
  obtain ⟨w4, hw4⟩ : ∃ w4, w4 = ((w.alloc (.cells #[.int .u64 0, .int .u64 0, .bool false] 40)).drewN nd).alloc (.cells #[.int .u64 0, .int .u64 0, .bool false] 40) := ⟨_, rfl⟩
  rw [← hw4] at PA ⊢
  clear hw4
  go_loopg [23] n (fun kq v23 w' => ∃ i a : Nat, v23 = .int .i64 (i : Int) ∧ Aside0 (kq + i = n) ∧ Aside0 (PaW w r i a w'))
  case atStart => exact ⟨0, 0, rfl, ⟨rfl⟩, PA⟩
  case round =>
    clear PA
    obtain ⟨i, a, rfl, HI, PA⟩ := hrel
    by_cases hi : i < n
    · have hiI : (i : Int) < (n : Int) := by omega
      have hw : IntKind.i64.wrap ((i : Int) + 1) = ((i + 1 : Nat) : Int) := by rw [IntWalk.i64_in _ (by omega)]; rfl
      go_upto_region 7 with (fail)
      have hci : i < Rs.size := by rw [hsz]; exact hi
      obtain ⟨ch, hch⟩ : ∃ ch, ch = Rs[i] := ⟨_, rfl⟩
      have hrc : r[i]? = some ch := by rw [hch]; exact bs_at r Rs HS.out.2.1 i hci
      rw [← hch]
      have hstep := eat_drop r i a ch hrc
      rw [PA.out.val] at hstep
      obtain ⟨x, hx⟩ : ∃ x : Int, x = (ch.toNat : Int) := ⟨_, rfl⟩
      rw [← hx]
      have HI2 : Aside0 (gk - 1 + (i + 1) = n ∧ gk - 1 < gk) := ⟨by have := HI.out; omega⟩
      clear hch hrc hci
      have c00 : wr.cell? ⟨w.heap.size, 0, none⟩ = some (.int .u64 0) := (blk_cell PA.out.k0 0).trans rfl; have c01 : wr.cell? ⟨w.heap.size, 1, none⟩ = some (.int .u64 0) := (blk_cell PA.out.k0 1).trans rfl; have c02 : wr.cell? ⟨w.heap.size, 2, none⟩ = some (.bool false) := (blk_cell PA.out.k0 2).trans rfl; have f00 := blk_frozen PA.out.k0 0; have f01 := blk_frozen PA.out.k0 1; have f02 := blk_frozen PA.out.k0 2
      have d00 : wr.cell? ⟨w.heap.size + 1, 0, none⟩ = some (.int .u64 (hiN a)) := (blk_cell PA.out.k1 0).trans rfl; have d01 : wr.cell? ⟨w.heap.size + 1, 1, none⟩ = some (.int .u64 (loN a)) := (blk_cell PA.out.k1 1).trans rfl; have d02 : wr.cell? ⟨w.heap.size + 1, 2, none⟩ = some (.bool false) := (blk_cell PA.out.k1 2).trans rfl; have g00 := blk_frozen PA.out.k1 0; have g01 := blk_frozen PA.out.k1 1; have g02 := blk_frozen PA.out.k1 2
      by_cases h46 : ch = 46
      · rw [if_pos h46] at hstep
        have hx46 : x = 46 := by rw [hx, h46]; rfl
        have HV := Aside0.mk hstep
        clear hx hstep h46
        subst hx46
        go_wp2
        go_roundg (gk - 1)
        all_goals first
          | exact ⟨i + 1, a, rfl, ⟨HI2.out.1⟩, ⟨PA.out.k0, PA.out.k1, PA.out.k2, HV.out.symm, PA.out.small⟩⟩
          | exact HI2.out.2
      · rw [if_neg h46] at hstep
        have hx46 : (x == 46) = false := beq_eq_false_iff_ne.mpr (fun e => h46 (UInt8.toNat_inj.1 (by show ch.toNat = 46; omega)))
        by_cases hlo : x < 48
        · rw [if_pos (by omega)] at hstep
          have HE := Aside0.mk hstep
          clear hx hstep h46
          go_wp2
          have hg : (((wr.setCell ⟨w.heap.size, 0, none⟩ (.int .u64 0)).setCell ⟨w.heap.size, 1, none⟩ (.int .u64 0)).setCell ⟨w.heap.size, 2, none⟩ (.bool false)).heap[w.heap.size]? = some (.cells #[.int .u64 0, .int .u64 0, .bool false] 40 (0, 0)) := blk_put (blk_put (blk_put (show wr.heap[w.heap.size]? = _ from PA.out.k0) 0 _ rfl) 1 _ rfl) 2 _ rfl; refine bodyPost_ret (results_list (rs := [.cell 2 40, .tmp 3]) rfl (by simp) (.cell w.heap.size 40 #[.int .u64 0, .int .u64 0, .bool false] (0, 0) _ rfl hg Try.underlying40 rfl (by kernel_rfl) (.tmp .nil))) rfl ?_; refine ⟨?_, below_set (below_set (below_set (PA.out.k2) (Nat.le_refl _)) (Nat.le_refl _)) (Nat.le_refl _)⟩; (have hpn := parse_none HRM.out.1 HE.out); unfold parseR parseE; rw [hpn]; rfl
        · by_cases hhi : x > 57
          · rw [if_pos (by omega)] at hstep
            have HE := Aside0.mk hstep
            clear hx hstep h46
            go_wp2
            have hg : (((wr.setCell ⟨w.heap.size, 0, none⟩ (.int .u64 0)).setCell ⟨w.heap.size, 1, none⟩ (.int .u64 0)).setCell ⟨w.heap.size, 2, none⟩ (.bool false)).heap[w.heap.size]? = some (.cells #[.int .u64 0, .int .u64 0, .bool false] 40 (0, 0)) := blk_put (blk_put (blk_put (show wr.heap[w.heap.size]? = _ from PA.out.k0) 0 _ rfl) 1 _ rfl) 2 _ rfl; refine bodyPost_ret (results_list (rs := [.cell 2 40, .tmp 3]) rfl (by simp) (.cell w.heap.size 40 #[.int .u64 0, .int .u64 0, .bool false] (0, 0) _ rfl hg Try.underlying40 rfl (by kernel_rfl) (.tmp .nil))) rfl ?_; refine ⟨?_, below_set (below_set (below_set (PA.out.k2) (Nat.le_refl _)) (Nat.le_refl _)) (Nat.le_refl _)⟩; (have hpn := parse_none HRM.out.1 HE.out); unfold parseR parseE; rw [hpn]; rfl
          · rw [if_neg (by omega)] at hstep
            obtain ⟨d, hd⟩ : ∃ d, d = ch.toNat - 48 := ⟨_, rfl⟩
            rw [← hd] at hstep
            obtain ⟨ov, lw, mo, hg, lw2, cy, hg2, ag, t1, t2, t3, t4, t5⟩ := ten a d PA.out.small (by omega)
            have y1 : x - 48 = (d : Int) := by omega
            have y2 : IntKind.u8.wrap (d : Int) = (d : Int) := IntWalk.u8_in _ (by omega)
            have y3 : IntKind.u64.wrap (d : Int) = (d : Int) := IntWalk.u64_in _ (by omega)
            have T1 := Aside0.mk t1
            have T2 := Aside0.mk t2
            have T3 := Aside0.mk t3
            have T4 := Aside0.mk t4
            clear t1 t2 t3 t4 hd hx h46
            by_cases hok : a * 10 + d < 170141183460469231731687303715884105728
            · rw [if_pos hok] at hstep t5
              obtain ⟨o1, o2, o3, o4⟩ := t5
              have HV := Aside0.mk (And.intro hstep (And.intro hok (And.intro o3 o4)))
              clear hstep hok o3 o4
              go_wp2_with (first
                | ((with_reducible refine gate_callee (f := 45) rfl ?_); (try (refine gate_guard (by rfl) ?_; dsimp only)); refine goesL_ (some 41) rfl rfl Try.func45 (by kernel_rfl) rfl #[.int .u64 (loN a), .int .u64 10] rfl (by (try simp only [List.map_toArray, List.map_cons, List.map_nil]); first | done | rfl) ?_; (with_reducible refine (bits_Mul64.calls (loN a) 10 ov lw _ T1.out).mono ?_); rintro e w' ⟨rfl, ⟨nd1, rfl⟩⟩; refine ⟨_, rfl, ?_⟩; skip)
                | ((with_reducible refine gate_callee (f := 45) rfl ?_); (try (refine gate_guard (by rfl) ?_; dsimp only)); refine goesL_ (some 47) rfl rfl Try.func45 (by kernel_rfl) rfl #[.int .u64 (hiN a), .int .u64 10] rfl (by (try simp only [List.map_toArray, List.map_cons, List.map_nil]); first | done | rfl) ?_; (with_reducible refine (bits_Mul64.calls (hiN a) 10 mo hg _ T2.out).mono ?_); rintro e w' ⟨rfl, ⟨nd2, rfl⟩⟩; refine ⟨_, rfl, ?_⟩; skip)
                | ((with_reducible refine gate_callee (f := 43) rfl ?_); refine goesX_ (some 55) rfl rfl Try.func43 (by kernel_rfl) rfl #[.int .u64 lw, .int .u64 (d : Int), .int .u64 0] rfl (by (try simp only [List.map_toArray, List.map_cons, List.map_nil]); first | done | rfl) ?_; (with_reducible refine (bits_Add64.calls lw (d : Int) 0 lw2 cy _ T3.out).mono ?_); rintro e w' ⟨rfl, ⟨nd55, rfl⟩⟩; refine ⟨_, rfl, ?_⟩; skip)
                | ((with_reducible refine gate_callee (f := 43) rfl ?_); refine goesX_ (some 62) rfl rfl Try.func43 (by kernel_rfl) rfl #[.int .u64 hg, .int .u64 ov, .int .u64 cy] rfl (by (try simp only [List.map_toArray, List.map_cons, List.map_nil]); first | done | rfl) ?_; (with_reducible refine (bits_Add64.calls hg ov cy hg2 ag _ T4.out).mono ?_); rintro e w' ⟨rfl, ⟨nd62, rfl⟩⟩; refine ⟨_, rfl, ?_⟩; skip))
              go_roundg (gk - 1)
              all_goals first
                | exact HI2.out.2
                | exact ⟨i + 1, a * 10 + d, rfl, ⟨HI2.out.1⟩, ⟨by rw [HV.out.2.2.1, HV.out.2.2.2]; exact PA.out.put rfl (pw_below_drewN (Below.refl _ _) _) HV.out.1.symm HV.out.2.1⟩⟩
            · rw [if_neg hok] at hstep t5
              have HE := Aside0.mk hstep
              clear hstep hok
              rcases t5 with o1 | ⟨o1, o2⟩
              · go_wp2_with (first
                  | ((with_reducible refine gate_callee (f := 45) rfl ?_); (try (refine gate_guard (by rfl) ?_; dsimp only)); refine goesL_ (some 41) rfl rfl Try.func45 (by kernel_rfl) rfl #[.int .u64 (loN a), .int .u64 10] rfl (by (try simp only [List.map_toArray, List.map_cons, List.map_nil]); first | done | rfl) ?_; (with_reducible refine (bits_Mul64.calls (loN a) 10 ov lw _ T1.out).mono ?_); rintro e w' ⟨rfl, ⟨nd1, rfl⟩⟩; refine ⟨_, rfl, ?_⟩; skip)
                  | ((with_reducible refine gate_callee (f := 45) rfl ?_); (try (refine gate_guard (by rfl) ?_; dsimp only)); refine goesL_ (some 47) rfl rfl Try.func45 (by kernel_rfl) rfl #[.int .u64 (hiN a), .int .u64 10] rfl (by (try simp only [List.map_toArray, List.map_cons, List.map_nil]); first | done | rfl) ?_; (with_reducible refine (bits_Mul64.calls (hiN a) 10 mo hg _ T2.out).mono ?_); rintro e w' ⟨rfl, ⟨nd2, rfl⟩⟩; refine ⟨_, rfl, ?_⟩; skip)
                  | ((with_reducible refine gate_callee (f := 43) rfl ?_); refine goesX_ (some 55) rfl rfl Try.func43 (by kernel_rfl) rfl #[.int .u64 lw, .int .u64 (d : Int), .int .u64 0] rfl (by (try simp only [List.map_toArray, List.map_cons, List.map_nil]); first | done | rfl) ?_; (with_reducible refine (bits_Add64.calls lw (d : Int) 0 lw2 cy _ T3.out).mono ?_); rintro e w' ⟨rfl, ⟨nd55, rfl⟩⟩; refine ⟨_, rfl, ?_⟩; skip)
                  | ((with_reducible refine gate_callee (f := 43) rfl ?_); refine goesX_ (some 62) rfl rfl Try.func43 (by kernel_rfl) rfl #[.int .u64 hg, .int .u64 ov, .int .u64 cy] rfl (by (try simp only [List.map_toArray, List.map_cons, List.map_nil]); first | done | rfl) ?_; (with_reducible refine (bits_Add64.calls hg ov cy hg2 ag _ T4.out).mono ?_); rintro e w' ⟨rfl, ⟨nd62, rfl⟩⟩; refine ⟨_, rfl, ?_⟩; skip))
                have hg : ((((wr.drewN (nd1 + nd2 + nd55 + nd62)).setCell ⟨w.heap.size, 0, none⟩ (.int .u64 0)).setCell ⟨w.heap.size, 1, none⟩ (.int .u64 0)).setCell ⟨w.heap.size, 2, none⟩ (.bool false)).heap[w.heap.size]? = some (.cells #[.int .u64 0, .int .u64 0, .bool false] 40 (0, 0)) := blk_put (blk_put (blk_put (show (wr.drewN (nd1 + nd2 + nd55 + nd62)).heap[w.heap.size]? = _ from PA.out.k0) 0 _ rfl) 1 _ rfl) 2 _ rfl; refine bodyPost_ret (results_list (rs := [.cell 2 40, .tmp 3]) rfl (by simp) (.cell w.heap.size 40 #[.int .u64 0, .int .u64 0, .bool false] (0, 0) _ rfl hg Try.underlying40 rfl (by kernel_rfl) (.tmp .nil))) rfl ?_; refine ⟨?_, below_set (below_set (below_set (pw_below_drewN PA.out.k2 _) (Nat.le_refl _)) (Nat.le_refl _)) (Nat.le_refl _)⟩; (have hpn := parse_none HRM.out.1 HE.out); unfold parseR parseE; rw [hpn]; rfl
              · go_wp2_with (first
                  | ((with_reducible refine gate_callee (f := 45) rfl ?_); (try (refine gate_guard (by rfl) ?_; dsimp only)); refine goesL_ (some 41) rfl rfl Try.func45 (by kernel_rfl) rfl #[.int .u64 (loN a), .int .u64 10] rfl (by (try simp only [List.map_toArray, List.map_cons, List.map_nil]); first | done | rfl) ?_; (with_reducible refine (bits_Mul64.calls (loN a) 10 ov lw _ T1.out).mono ?_); rintro e w' ⟨rfl, ⟨nd1, rfl⟩⟩; refine ⟨_, rfl, ?_⟩; skip)
                  | ((with_reducible refine gate_callee (f := 45) rfl ?_); (try (refine gate_guard (by rfl) ?_; dsimp only)); refine goesL_ (some 47) rfl rfl Try.func45 (by kernel_rfl) rfl #[.int .u64 (hiN a), .int .u64 10] rfl (by (try simp only [List.map_toArray, List.map_cons, List.map_nil]); first | done | rfl) ?_; (with_reducible refine (bits_Mul64.calls (hiN a) 10 mo hg _ T2.out).mono ?_); rintro e w' ⟨rfl, ⟨nd2, rfl⟩⟩; refine ⟨_, rfl, ?_⟩; skip)
                  | ((with_reducible refine gate_callee (f := 43) rfl ?_); refine goesX_ (some 55) rfl rfl Try.func43 (by kernel_rfl) rfl #[.int .u64 lw, .int .u64 (d : Int), .int .u64 0] rfl (by (try simp only [List.map_toArray, List.map_cons, List.map_nil]); first | done | rfl) ?_; (with_reducible refine (bits_Add64.calls lw (d : Int) 0 lw2 cy _ T3.out).mono ?_); rintro e w' ⟨rfl, ⟨nd55, rfl⟩⟩; refine ⟨_, rfl, ?_⟩; skip)
                  | ((with_reducible refine gate_callee (f := 43) rfl ?_); refine goesX_ (some 62) rfl rfl Try.func43 (by kernel_rfl) rfl #[.int .u64 hg, .int .u64 ov, .int .u64 cy] rfl (by (try simp only [List.map_toArray, List.map_cons, List.map_nil]); first | done | rfl) ?_; (with_reducible refine (bits_Add64.calls hg ov cy hg2 ag _ T4.out).mono ?_); rintro e w' ⟨rfl, ⟨nd62, rfl⟩⟩; refine ⟨_, rfl, ?_⟩; skip))
                have hg : ((((wr.drewN (nd1 + nd2 + nd55 + nd62)).setCell ⟨w.heap.size, 0, none⟩ (.int .u64 0)).setCell ⟨w.heap.size, 1, none⟩ (.int .u64 0)).setCell ⟨w.heap.size, 2, none⟩ (.bool false)).heap[w.heap.size]? = some (.cells #[.int .u64 0, .int .u64 0, .bool false] 40 (0, 0)) := blk_put (blk_put (blk_put (show (wr.drewN (nd1 + nd2 + nd55 + nd62)).heap[w.heap.size]? = _ from PA.out.k0) 0 _ rfl) 1 _ rfl) 2 _ rfl; refine bodyPost_ret (results_list (rs := [.cell 2 40, .tmp 3]) rfl (by simp) (.cell w.heap.size 40 #[.int .u64 0, .int .u64 0, .bool false] (0, 0) _ rfl hg Try.underlying40 rfl (by kernel_rfl) (.tmp .nil))) rfl ?_; refine ⟨?_, below_set (below_set (below_set (pw_below_drewN PA.out.k2 _) (Nat.le_refl _)) (Nat.le_refl _)) (Nat.le_refl _)⟩; (have hpn := parse_none HRM.out.1 HE.out); unfold parseR parseE; rw [hpn]; rfl
    · have hni : n = i := by have := HI.out; omega
      subst hni
      have HE : Aside0 (eat r 0 = some a) := ⟨by
        have h := PA.out.val
        rw [List.drop_eq_nil_of_le (by rw [← HS.out.2.2]; exact Nat.le_refl _)] at h
        exact h.symm⟩
      have HPS := Aside0.mk (parse_some HRM.out.1 HRM.out.2 HE.out)
      obtain ⟨v, hv⟩ : ∃ v : Int, v = if mn then -(a : Int) else (a : Int) := ⟨_, rfl⟩
      rw [← hv] at HPS
      have hsv : Small v := by
        have := PA.out.small
        unfold Small
        rw [hv]
        cases mn
        · show ((a : Int)).natAbs < _; omega
        · show (-(a : Int)).natAbs < _; omega
      have HTX := Aside0.mk (fun W => text_calls v hsv W)
      have hMv : M v = .agg #[.int .u64 (hiN a), .int .u64 (loN a), .bool (mn && decide (a ≠ 0))] := by
        have ea : v.natAbs = a := by rw [hv]; cases mn <;> simp
        have e3 : mnM v = (mn && decide (a ≠ 0)) := by
          unfold mnM
          rw [hv]
          cases mn
          · exact decide_eq_false (by show ¬ ((a : Int) < 0); omega)
          · show decide (-(a : Int) < 0) = decide (a ≠ 0)
            exact decide_eq_decide.mpr (by omega)
        unfold M hiM loM hiN loN
        rw [ea, e3]
      have z1 : hiN a = 0 ∧ loN a = 0 ↔ a = 0 := by unfold hiN loN; omega
      obtain ⟨hi, hhi⟩ : ∃ hi, hi = hiN a := ⟨_, rfl⟩
      obtain ⟨lo, hlo⟩ : ∃ lo, lo = loN a := ⟨_, rfl⟩
      obtain ⟨T, hT⟩ : ∃ T, T = bs (text v) := ⟨_, rfl⟩
      have k1 := PA.out.k1
      rw [← hhi, ← hlo] at z1 hMv k1
      have HTX2 : Aside0 (∀ W, Calls Try.prog 28 #[.agg #[.int .u64 hi, .int .u64 lo, .bool (mn && decide (a ≠ 0))]] W fun e w' => e = .returned (.string T) ∧ Below W.heap.size W w') := ⟨fun W => by have h := HTX.out W; rw [hMv] at h; rw [hT]; exact h⟩
      have JJ : Aside0 (∀ u, (wr.setCell ⟨w.heap.size + 1, 2, none⟩ u).heap[w.heap.size]? = some (.cells #[.int .u64 0, .int .u64 0, .bool false] 40 (0, 0))) := ⟨fun u => (Below.heap_setCell _ _ _ _ (show w.heap.size ≠ w.heap.size + 1 by omega)).trans PA.out.k0⟩
      have KK1 := Aside0.mk k1
      have d00 : wr.cell? ⟨w.heap.size + 1, 0, none⟩ = some (.int .u64 hi) := (blk_cell k1 0).trans rfl; have d01 : wr.cell? ⟨w.heap.size + 1, 1, none⟩ = some (.int .u64 lo) := (blk_cell k1 1).trans rfl; have d02 : wr.cell? ⟨w.heap.size + 1, 2, none⟩ = some (.bool false) := (blk_cell k1 2).trans rfl; have g02 := blk_frozen k1 2
      have HTS : T = S ↔ text v = l := by
        rw [hT, HS.out.1]
        exact ⟨bs_inj, fun h => by rw [h]⟩
      have hz : (mn && decide (a ≠ 0)) = true ∨ (mn && decide (a ≠ 0)) = false := by cases (mn && decide (a ≠ 0)) <;> simp
      clear hT HTX k1 hv hsv HE hhi hlo
      cases mn with
      | false =>
        have HMV := Aside0.mk hMv
        have HTX : Aside0 (∀ W, Calls Try.prog 28 #[.agg #[.int .u64 hi, .int .u64 lo, .bool false]] W fun e w' => e = .returned (.string T) ∧ Below W.heap.size W w') := ⟨HTX2.out⟩
        clear hMv HTX2 z1 hz
        by_cases ht : text v = l
        · have HRE : Aside0 (parseR l = v ∧ parseE l = 0) := ⟨by unfold parseR parseE; rw [HPS.out, if_pos ht]; exact ⟨rfl, rfl⟩⟩
          have hTS := HTS.2 ht
          subst hTS
          clear HTS ht
          go_wp2_with (first
            | ((with_reducible refine gate_callee (f := 28) rfl ?_); (try (refine gate_guard (by rfl) ?_; dsimp only)); refine goesL_ (some 86) rfl rfl Try.func28 (by kernel_rfl) rfl #[.agg #[.int .u64 hi, .int .u64 lo, .bool false]] rfl (by (try simp only [List.map_toArray, List.map_cons, List.map_nil]); first | done | rfl) ?_; (with_reducible refine (HTX.out _).mono ?_); rintro e w9 ⟨rfl, hb9⟩; refine ⟨_, rfl, ?_⟩; have J1 := Aside0.mk ((hb9.block (w.heap.size + 1) (blk_lt (blk_put KK1.out 2 (.bool false) rfl))).trans (blk_put KK1.out 2 (.bool false) rfl)); have J0 := Aside0.mk ((hb9.block w.heap.size (blk_lt (JJ.out (.bool false)))).trans (JJ.out (.bool false))); have J2 := Aside0.mk (below_then (below_set PA.out.k2 (show w.heap.size ≤ w.heap.size + 1 by omega)) (below_set PA.out.k2 (show w.heap.size ≤ w.heap.size + 1 by omega)).size hb9); clear hb9; have a90 : w9.cell? ⟨w.heap.size, 0, none⟩ = some (.int .u64 0) := (blk_cell J0.out 0).trans rfl; have a91 : w9.cell? ⟨w.heap.size, 1, none⟩ = some (.int .u64 0) := (blk_cell J0.out 1).trans rfl; have a92 : w9.cell? ⟨w.heap.size, 2, none⟩ = some (.bool false) := (blk_cell J0.out 2).trans rfl; have f90 := blk_frozen J0.out 0; have f91 := blk_frozen J0.out 1; have f92 := blk_frozen J0.out 2; have b90 : w9.cell? ⟨w.heap.size + 1, 0, none⟩ = some (.int .u64 hi) := (blk_cell J1.out 0).trans rfl; have b91 : w9.cell? ⟨w.heap.size + 1, 1, none⟩ = some (.int .u64 lo) := (blk_cell J1.out 1).trans rfl; have b92 : w9.cell? ⟨w.heap.size + 1, 2, none⟩ = some (.bool false) := (blk_cell J1.out 2).trans rfl))
          have hg : (((w9.setCell ⟨w.heap.size, 0, none⟩ (.int .u64 hi)).setCell ⟨w.heap.size, 1, none⟩ (.int .u64 lo)).setCell ⟨w.heap.size, 2, none⟩ (.bool false)).heap[w.heap.size]? = some (.cells #[.int .u64 hi, .int .u64 lo, .bool false] 40 (0, 0)) := blk_put (blk_put (blk_put J0.out 0 _ rfl) 1 _ rfl) 2 _ rfl
          refine bodyPost_ret (results_list (rs := [.cell 2 40, .tmp 3]) rfl (by simp) (.cell w.heap.size 40 #[.int .u64 hi, .int .u64 lo, .bool false] (0, 0) _ rfl hg Try.underlying40 rfl (by kernel_rfl) (.tmp .nil))) rfl ?_
          refine ⟨?_, below_set (below_set (below_set J2.out (Nat.le_refl _)) (Nat.le_refl _)) (Nat.le_refl _)⟩
          rw [HRE.out.1, HRE.out.2]; rw [HMV.out]
          rfl
        · have HRE : Aside0 (parseR l = 0 ∧ parseE l = 3) := ⟨by unfold parseR parseE; rw [HPS.out, if_neg ht]; exact ⟨rfl, rfl⟩⟩
          have hTS : ¬ T = S := fun h => ht (HTS.1 h)
          have hTL : (T.toList == S.toList) = false := beq_eq_false_iff_ne.mpr (fun h => hTS (by rw [ByteArray.toList_eq, ByteArray.toList_eq] at h; exact ByteArray.ext (Array.toList_inj.1 h)))
          clear HTS ht hTS
          go_wp2_with (first
            | ((with_reducible refine gate_callee (f := 28) rfl ?_); (try (refine gate_guard (by rfl) ?_; dsimp only)); refine goesL_ (some 86) rfl rfl Try.func28 (by kernel_rfl) rfl #[.agg #[.int .u64 hi, .int .u64 lo, .bool false]] rfl (by (try simp only [List.map_toArray, List.map_cons, List.map_nil]); first | done | rfl) ?_; (with_reducible refine (HTX.out _).mono ?_); rintro e w9 ⟨rfl, hb9⟩; refine ⟨_, rfl, ?_⟩; have J1 := Aside0.mk ((hb9.block (w.heap.size + 1) (blk_lt (blk_put KK1.out 2 (.bool false) rfl))).trans (blk_put KK1.out 2 (.bool false) rfl)); have J0 := Aside0.mk ((hb9.block w.heap.size (blk_lt (JJ.out (.bool false)))).trans (JJ.out (.bool false))); have J2 := Aside0.mk (below_then (below_set PA.out.k2 (show w.heap.size ≤ w.heap.size + 1 by omega)) (below_set PA.out.k2 (show w.heap.size ≤ w.heap.size + 1 by omega)).size hb9); clear hb9; have a90 : w9.cell? ⟨w.heap.size, 0, none⟩ = some (.int .u64 0) := (blk_cell J0.out 0).trans rfl; have a91 : w9.cell? ⟨w.heap.size, 1, none⟩ = some (.int .u64 0) := (blk_cell J0.out 1).trans rfl; have a92 : w9.cell? ⟨w.heap.size, 2, none⟩ = some (.bool false) := (blk_cell J0.out 2).trans rfl; have f90 := blk_frozen J0.out 0; have f91 := blk_frozen J0.out 1; have f92 := blk_frozen J0.out 2; have b90 : w9.cell? ⟨w.heap.size + 1, 0, none⟩ = some (.int .u64 hi) := (blk_cell J1.out 0).trans rfl; have b91 : w9.cell? ⟨w.heap.size + 1, 1, none⟩ = some (.int .u64 lo) := (blk_cell J1.out 1).trans rfl; have b92 : w9.cell? ⟨w.heap.size + 1, 2, none⟩ = some (.bool false) := (blk_cell J1.out 2).trans rfl))
          have hg : (((w9.setCell ⟨w.heap.size, 0, none⟩ (.int .u64 0)).setCell ⟨w.heap.size, 1, none⟩ (.int .u64 0)).setCell ⟨w.heap.size, 2, none⟩ (.bool false)).heap[w.heap.size]? = some (.cells #[.int .u64 0, .int .u64 0, .bool false] 40 (0, 0)) := blk_put (blk_put (blk_put J0.out 0 _ rfl) 1 _ rfl) 2 _ rfl
          refine bodyPost_ret (results_list (rs := [.cell 2 40, .tmp 3]) rfl (by simp) (.cell w.heap.size 40 #[.int .u64 0, .int .u64 0, .bool false] (0, 0) _ rfl hg Try.underlying40 rfl (by kernel_rfl) (.tmp .nil))) rfl ?_
          refine ⟨?_, below_set (below_set (below_set J2.out (Nat.le_refl _)) (Nat.le_refl _)) (Nat.le_refl _)⟩
          rw [HRE.out.1, HRE.out.2]
          rfl
      | true =>
        by_cases h0 : a = 0
        · obtain ⟨q1, q2⟩ := z1.2 h0
          subst q1 q2
          have e0 : (true && decide (a ≠ 0)) = false := by rw [decide_eq_false (by omega)]; rfl
          rw [e0] at hMv HTX2
          have HMV := Aside0.mk hMv
          have HTX : Aside0 (∀ W, Calls Try.prog 28 #[.agg #[.int .u64 0, .int .u64 0, .bool false]] W fun e w' => e = .returned (.string T) ∧ Below W.heap.size W w') := ⟨HTX2.out⟩
          clear hMv HTX2 z1 hz h0 e0
          by_cases ht : text v = l
          · have HRE : Aside0 (parseR l = v ∧ parseE l = 0) := ⟨by unfold parseR parseE; rw [HPS.out, if_pos ht]; exact ⟨rfl, rfl⟩⟩
            have hTS := HTS.2 ht
            subst hTS
            clear HTS ht
            go_wp2_with (first
              | ((with_reducible refine gate_callee (f := 28) rfl ?_); (try (refine gate_guard (by rfl) ?_; dsimp only)); refine goesL_ (some 86) rfl rfl Try.func28 (by kernel_rfl) rfl #[.agg #[.int .u64 0, .int .u64 0, .bool false]] rfl (by (try simp only [List.map_toArray, List.map_cons, List.map_nil]); first | done | rfl) ?_; (with_reducible refine (HTX.out _).mono ?_); rintro e w9 ⟨rfl, hb9⟩; refine ⟨_, rfl, ?_⟩; have J1 := Aside0.mk ((hb9.block (w.heap.size + 1) (blk_lt (blk_put KK1.out 2 (.bool false) rfl))).trans (blk_put KK1.out 2 (.bool false) rfl)); have J0 := Aside0.mk ((hb9.block w.heap.size (blk_lt (JJ.out (.bool false)))).trans (JJ.out (.bool false))); have J2 := Aside0.mk (below_then (below_set PA.out.k2 (show w.heap.size ≤ w.heap.size + 1 by omega)) (below_set PA.out.k2 (show w.heap.size ≤ w.heap.size + 1 by omega)).size hb9); clear hb9; have a90 : w9.cell? ⟨w.heap.size, 0, none⟩ = some (.int .u64 0) := (blk_cell J0.out 0).trans rfl; have a91 : w9.cell? ⟨w.heap.size, 1, none⟩ = some (.int .u64 0) := (blk_cell J0.out 1).trans rfl; have a92 : w9.cell? ⟨w.heap.size, 2, none⟩ = some (.bool false) := (blk_cell J0.out 2).trans rfl; have f90 := blk_frozen J0.out 0; have f91 := blk_frozen J0.out 1; have f92 := blk_frozen J0.out 2; have b90 : w9.cell? ⟨w.heap.size + 1, 0, none⟩ = some (.int .u64 0) := (blk_cell J1.out 0).trans rfl; have b91 : w9.cell? ⟨w.heap.size + 1, 1, none⟩ = some (.int .u64 0) := (blk_cell J1.out 1).trans rfl; have b92 : w9.cell? ⟨w.heap.size + 1, 2, none⟩ = some (.bool false) := (blk_cell J1.out 2).trans rfl))
            have hg : (((w9.setCell ⟨w.heap.size, 0, none⟩ (.int .u64 0)).setCell ⟨w.heap.size, 1, none⟩ (.int .u64 0)).setCell ⟨w.heap.size, 2, none⟩ (.bool false)).heap[w.heap.size]? = some (.cells #[.int .u64 0, .int .u64 0, .bool false] 40 (0, 0)) := blk_put (blk_put (blk_put J0.out 0 _ rfl) 1 _ rfl) 2 _ rfl
            refine bodyPost_ret (results_list (rs := [.cell 2 40, .tmp 3]) rfl (by simp) (.cell w.heap.size 40 #[.int .u64 0, .int .u64 0, .bool false] (0, 0) _ rfl hg Try.underlying40 rfl (by kernel_rfl) (.tmp .nil))) rfl ?_
            refine ⟨?_, below_set (below_set (below_set J2.out (Nat.le_refl _)) (Nat.le_refl _)) (Nat.le_refl _)⟩
            rw [HRE.out.1, HRE.out.2]; rw [HMV.out]
            rfl
          · have HRE : Aside0 (parseR l = 0 ∧ parseE l = 3) := ⟨by unfold parseR parseE; rw [HPS.out, if_neg ht]; exact ⟨rfl, rfl⟩⟩
            have hTS : ¬ T = S := fun h => ht (HTS.1 h)
            have hTL : (T.toList == S.toList) = false := beq_eq_false_iff_ne.mpr (fun h => hTS (by rw [ByteArray.toList_eq, ByteArray.toList_eq] at h; exact ByteArray.ext (Array.toList_inj.1 h)))
            clear HTS ht hTS
            go_wp2_with (first
              | ((with_reducible refine gate_callee (f := 28) rfl ?_); (try (refine gate_guard (by rfl) ?_; dsimp only)); refine goesL_ (some 86) rfl rfl Try.func28 (by kernel_rfl) rfl #[.agg #[.int .u64 0, .int .u64 0, .bool false]] rfl (by (try simp only [List.map_toArray, List.map_cons, List.map_nil]); first | done | rfl) ?_; (with_reducible refine (HTX.out _).mono ?_); rintro e w9 ⟨rfl, hb9⟩; refine ⟨_, rfl, ?_⟩; have J1 := Aside0.mk ((hb9.block (w.heap.size + 1) (blk_lt (blk_put KK1.out 2 (.bool false) rfl))).trans (blk_put KK1.out 2 (.bool false) rfl)); have J0 := Aside0.mk ((hb9.block w.heap.size (blk_lt (JJ.out (.bool false)))).trans (JJ.out (.bool false))); have J2 := Aside0.mk (below_then (below_set PA.out.k2 (show w.heap.size ≤ w.heap.size + 1 by omega)) (below_set PA.out.k2 (show w.heap.size ≤ w.heap.size + 1 by omega)).size hb9); clear hb9; have a90 : w9.cell? ⟨w.heap.size, 0, none⟩ = some (.int .u64 0) := (blk_cell J0.out 0).trans rfl; have a91 : w9.cell? ⟨w.heap.size, 1, none⟩ = some (.int .u64 0) := (blk_cell J0.out 1).trans rfl; have a92 : w9.cell? ⟨w.heap.size, 2, none⟩ = some (.bool false) := (blk_cell J0.out 2).trans rfl; have f90 := blk_frozen J0.out 0; have f91 := blk_frozen J0.out 1; have f92 := blk_frozen J0.out 2; have b90 : w9.cell? ⟨w.heap.size + 1, 0, none⟩ = some (.int .u64 0) := (blk_cell J1.out 0).trans rfl; have b91 : w9.cell? ⟨w.heap.size + 1, 1, none⟩ = some (.int .u64 0) := (blk_cell J1.out 1).trans rfl; have b92 : w9.cell? ⟨w.heap.size + 1, 2, none⟩ = some (.bool false) := (blk_cell J1.out 2).trans rfl))
            have hg : (((w9.setCell ⟨w.heap.size, 0, none⟩ (.int .u64 0)).setCell ⟨w.heap.size, 1, none⟩ (.int .u64 0)).setCell ⟨w.heap.size, 2, none⟩ (.bool false)).heap[w.heap.size]? = some (.cells #[.int .u64 0, .int .u64 0, .bool false] 40 (0, 0)) := blk_put (blk_put (blk_put J0.out 0 _ rfl) 1 _ rfl) 2 _ rfl
            refine bodyPost_ret (results_list (rs := [.cell 2 40, .tmp 3]) rfl (by simp) (.cell w.heap.size 40 #[.int .u64 0, .int .u64 0, .bool false] (0, 0) _ rfl hg Try.underlying40 rfl (by kernel_rfl) (.tmp .nil))) rfl ?_
            refine ⟨?_, below_set (below_set (below_set J2.out (Nat.le_refl _)) (Nat.le_refl _)) (Nat.le_refl _)⟩
            rw [HRE.out.1, HRE.out.2]
            rfl
        · have e0 : (true && decide (a ≠ 0)) = true := by rw [decide_eq_true h0]; rfl
          rw [e0] at hMv HTX2
          have HMV := Aside0.mk hMv
          have HTX : Aside0 (∀ W, Calls Try.prog 28 #[.agg #[.int .u64 hi, .int .u64 lo, .bool true]] W fun e w' => e = .returned (.string T) ∧ Below W.heap.size W w') := ⟨HTX2.out⟩
          by_cases hh : hi = 0
          · have hl0 : (lo == 0) = false := beq_eq_false_iff_ne.mpr (fun e => h0 (z1.1 ⟨hh, e⟩))
            subst hh
            clear hMv HTX2 z1 hz h0 e0
            by_cases ht : text v = l
            · have HRE : Aside0 (parseR l = v ∧ parseE l = 0) := ⟨by unfold parseR parseE; rw [HPS.out, if_pos ht]; exact ⟨rfl, rfl⟩⟩
              have hTS := HTS.2 ht
              subst hTS
              clear HTS ht
              go_wp2_with (first
                | ((with_reducible refine gate_callee (f := 28) rfl ?_); (try (refine gate_guard (by rfl) ?_; dsimp only)); refine goesL_ (some 86) rfl rfl Try.func28 (by kernel_rfl) rfl #[.agg #[.int .u64 0, .int .u64 lo, .bool true]] rfl (by (try simp only [List.map_toArray, List.map_cons, List.map_nil]); first | done | rfl) ?_; (with_reducible refine (HTX.out _).mono ?_); rintro e w9 ⟨rfl, hb9⟩; refine ⟨_, rfl, ?_⟩; have J1 := Aside0.mk ((hb9.block (w.heap.size + 1) (blk_lt (blk_put KK1.out 2 (.bool true) rfl))).trans (blk_put KK1.out 2 (.bool true) rfl)); have J0 := Aside0.mk ((hb9.block w.heap.size (blk_lt (JJ.out (.bool true)))).trans (JJ.out (.bool true))); have J2 := Aside0.mk (below_then (below_set PA.out.k2 (show w.heap.size ≤ w.heap.size + 1 by omega)) (below_set PA.out.k2 (show w.heap.size ≤ w.heap.size + 1 by omega)).size hb9); clear hb9; have a90 : w9.cell? ⟨w.heap.size, 0, none⟩ = some (.int .u64 0) := (blk_cell J0.out 0).trans rfl; have a91 : w9.cell? ⟨w.heap.size, 1, none⟩ = some (.int .u64 0) := (blk_cell J0.out 1).trans rfl; have a92 : w9.cell? ⟨w.heap.size, 2, none⟩ = some (.bool false) := (blk_cell J0.out 2).trans rfl; have f90 := blk_frozen J0.out 0; have f91 := blk_frozen J0.out 1; have f92 := blk_frozen J0.out 2; have b90 : w9.cell? ⟨w.heap.size + 1, 0, none⟩ = some (.int .u64 0) := (blk_cell J1.out 0).trans rfl; have b91 : w9.cell? ⟨w.heap.size + 1, 1, none⟩ = some (.int .u64 lo) := (blk_cell J1.out 1).trans rfl; have b92 : w9.cell? ⟨w.heap.size + 1, 2, none⟩ = some (.bool true) := (blk_cell J1.out 2).trans rfl))
              have hg : (((w9.setCell ⟨w.heap.size, 0, none⟩ (.int .u64 0)).setCell ⟨w.heap.size, 1, none⟩ (.int .u64 lo)).setCell ⟨w.heap.size, 2, none⟩ (.bool true)).heap[w.heap.size]? = some (.cells #[.int .u64 0, .int .u64 lo, .bool true] 40 (0, 0)) := blk_put (blk_put (blk_put J0.out 0 _ rfl) 1 _ rfl) 2 _ rfl
              refine bodyPost_ret (results_list (rs := [.cell 2 40, .tmp 3]) rfl (by simp) (.cell w.heap.size 40 #[.int .u64 0, .int .u64 lo, .bool true] (0, 0) _ rfl hg Try.underlying40 rfl (by kernel_rfl) (.tmp .nil))) rfl ?_
              refine ⟨?_, below_set (below_set (below_set J2.out (Nat.le_refl _)) (Nat.le_refl _)) (Nat.le_refl _)⟩
              rw [HRE.out.1, HRE.out.2]; rw [HMV.out]
              rfl
            · have HRE : Aside0 (parseR l = 0 ∧ parseE l = 3) := ⟨by unfold parseR parseE; rw [HPS.out, if_neg ht]; exact ⟨rfl, rfl⟩⟩
              have hTS : ¬ T = S := fun h => ht (HTS.1 h)
              have hTL : (T.toList == S.toList) = false := beq_eq_false_iff_ne.mpr (fun h => hTS (by rw [ByteArray.toList_eq, ByteArray.toList_eq] at h; exact ByteArray.ext (Array.toList_inj.1 h)))
              clear HTS ht hTS
              go_wp2_with (first
                | ((with_reducible refine gate_callee (f := 28) rfl ?_); (try (refine gate_guard (by rfl) ?_; dsimp only)); refine goesL_ (some 86) rfl rfl Try.func28 (by kernel_rfl) rfl #[.agg #[.int .u64 0, .int .u64 lo, .bool true]] rfl (by (try simp only [List.map_toArray, List.map_cons, List.map_nil]); first | done | rfl) ?_; (with_reducible refine (HTX.out _).mono ?_); rintro e w9 ⟨rfl, hb9⟩; refine ⟨_, rfl, ?_⟩; have J1 := Aside0.mk ((hb9.block (w.heap.size + 1) (blk_lt (blk_put KK1.out 2 (.bool true) rfl))).trans (blk_put KK1.out 2 (.bool true) rfl)); have J0 := Aside0.mk ((hb9.block w.heap.size (blk_lt (JJ.out (.bool true)))).trans (JJ.out (.bool true))); have J2 := Aside0.mk (below_then (below_set PA.out.k2 (show w.heap.size ≤ w.heap.size + 1 by omega)) (below_set PA.out.k2 (show w.heap.size ≤ w.heap.size + 1 by omega)).size hb9); clear hb9; have a90 : w9.cell? ⟨w.heap.size, 0, none⟩ = some (.int .u64 0) := (blk_cell J0.out 0).trans rfl; have a91 : w9.cell? ⟨w.heap.size, 1, none⟩ = some (.int .u64 0) := (blk_cell J0.out 1).trans rfl; have a92 : w9.cell? ⟨w.heap.size, 2, none⟩ = some (.bool false) := (blk_cell J0.out 2).trans rfl; have f90 := blk_frozen J0.out 0; have f91 := blk_frozen J0.out 1; have f92 := blk_frozen J0.out 2; have b90 : w9.cell? ⟨w.heap.size + 1, 0, none⟩ = some (.int .u64 0) := (blk_cell J1.out 0).trans rfl; have b91 : w9.cell? ⟨w.heap.size + 1, 1, none⟩ = some (.int .u64 lo) := (blk_cell J1.out 1).trans rfl; have b92 : w9.cell? ⟨w.heap.size + 1, 2, none⟩ = some (.bool true) := (blk_cell J1.out 2).trans rfl))
              have hg : (((w9.setCell ⟨w.heap.size, 0, none⟩ (.int .u64 0)).setCell ⟨w.heap.size, 1, none⟩ (.int .u64 0)).setCell ⟨w.heap.size, 2, none⟩ (.bool false)).heap[w.heap.size]? = some (.cells #[.int .u64 0, .int .u64 0, .bool false] 40 (0, 0)) := blk_put (blk_put (blk_put J0.out 0 _ rfl) 1 _ rfl) 2 _ rfl
              refine bodyPost_ret (results_list (rs := [.cell 2 40, .tmp 3]) rfl (by simp) (.cell w.heap.size 40 #[.int .u64 0, .int .u64 0, .bool false] (0, 0) _ rfl hg Try.underlying40 rfl (by kernel_rfl) (.tmp .nil))) rfl ?_
              refine ⟨?_, below_set (below_set (below_set J2.out (Nat.le_refl _)) (Nat.le_refl _)) (Nat.le_refl _)⟩
              rw [HRE.out.1, HRE.out.2]
              rfl
          · have hh0 : (hi == 0) = false := beq_eq_false_iff_ne.mpr hh
            clear hMv HTX2 z1 hz h0 e0 hh
            by_cases ht : text v = l
            · have HRE : Aside0 (parseR l = v ∧ parseE l = 0) := ⟨by unfold parseR parseE; rw [HPS.out, if_pos ht]; exact ⟨rfl, rfl⟩⟩
              have hTS := HTS.2 ht
              subst hTS
              clear HTS ht
              go_wp2_with (first
                | ((with_reducible refine gate_callee (f := 28) rfl ?_); (try (refine gate_guard (by rfl) ?_; dsimp only)); refine goesL_ (some 86) rfl rfl Try.func28 (by kernel_rfl) rfl #[.agg #[.int .u64 hi, .int .u64 lo, .bool true]] rfl (by (try simp only [List.map_toArray, List.map_cons, List.map_nil]); first | done | rfl) ?_; (with_reducible refine (HTX.out _).mono ?_); rintro e w9 ⟨rfl, hb9⟩; refine ⟨_, rfl, ?_⟩; have J1 := Aside0.mk ((hb9.block (w.heap.size + 1) (blk_lt (blk_put KK1.out 2 (.bool true) rfl))).trans (blk_put KK1.out 2 (.bool true) rfl)); have J0 := Aside0.mk ((hb9.block w.heap.size (blk_lt (JJ.out (.bool true)))).trans (JJ.out (.bool true))); have J2 := Aside0.mk (below_then (below_set PA.out.k2 (show w.heap.size ≤ w.heap.size + 1 by omega)) (below_set PA.out.k2 (show w.heap.size ≤ w.heap.size + 1 by omega)).size hb9); clear hb9; have a90 : w9.cell? ⟨w.heap.size, 0, none⟩ = some (.int .u64 0) := (blk_cell J0.out 0).trans rfl; have a91 : w9.cell? ⟨w.heap.size, 1, none⟩ = some (.int .u64 0) := (blk_cell J0.out 1).trans rfl; have a92 : w9.cell? ⟨w.heap.size, 2, none⟩ = some (.bool false) := (blk_cell J0.out 2).trans rfl; have f90 := blk_frozen J0.out 0; have f91 := blk_frozen J0.out 1; have f92 := blk_frozen J0.out 2; have b90 : w9.cell? ⟨w.heap.size + 1, 0, none⟩ = some (.int .u64 hi) := (blk_cell J1.out 0).trans rfl; have b91 : w9.cell? ⟨w.heap.size + 1, 1, none⟩ = some (.int .u64 lo) := (blk_cell J1.out 1).trans rfl; have b92 : w9.cell? ⟨w.heap.size + 1, 2, none⟩ = some (.bool true) := (blk_cell J1.out 2).trans rfl))
              have hg : (((w9.setCell ⟨w.heap.size, 0, none⟩ (.int .u64 hi)).setCell ⟨w.heap.size, 1, none⟩ (.int .u64 lo)).setCell ⟨w.heap.size, 2, none⟩ (.bool true)).heap[w.heap.size]? = some (.cells #[.int .u64 hi, .int .u64 lo, .bool true] 40 (0, 0)) := blk_put (blk_put (blk_put J0.out 0 _ rfl) 1 _ rfl) 2 _ rfl
              refine bodyPost_ret (results_list (rs := [.cell 2 40, .tmp 3]) rfl (by simp) (.cell w.heap.size 40 #[.int .u64 hi, .int .u64 lo, .bool true] (0, 0) _ rfl hg Try.underlying40 rfl (by kernel_rfl) (.tmp .nil))) rfl ?_
              refine ⟨?_, below_set (below_set (below_set J2.out (Nat.le_refl _)) (Nat.le_refl _)) (Nat.le_refl _)⟩
              rw [HRE.out.1, HRE.out.2]; rw [HMV.out]
              rfl
            · have HRE : Aside0 (parseR l = 0 ∧ parseE l = 3) := ⟨by unfold parseR parseE; rw [HPS.out, if_neg ht]; exact ⟨rfl, rfl⟩⟩
              have hTS : ¬ T = S := fun h => ht (HTS.1 h)
              have hTL : (T.toList == S.toList) = false := beq_eq_false_iff_ne.mpr (fun h => hTS (by rw [ByteArray.toList_eq, ByteArray.toList_eq] at h; exact ByteArray.ext (Array.toList_inj.1 h)))
              clear HTS ht hTS
              go_wp2_with (first
                | ((with_reducible refine gate_callee (f := 28) rfl ?_); (try (refine gate_guard (by rfl) ?_; dsimp only)); refine goesL_ (some 86) rfl rfl Try.func28 (by kernel_rfl) rfl #[.agg #[.int .u64 hi, .int .u64 lo, .bool true]] rfl (by (try simp only [List.map_toArray, List.map_cons, List.map_nil]); first | done | rfl) ?_; (with_reducible refine (HTX.out _).mono ?_); rintro e w9 ⟨rfl, hb9⟩; refine ⟨_, rfl, ?_⟩; have J1 := Aside0.mk ((hb9.block (w.heap.size + 1) (blk_lt (blk_put KK1.out 2 (.bool true) rfl))).trans (blk_put KK1.out 2 (.bool true) rfl)); have J0 := Aside0.mk ((hb9.block w.heap.size (blk_lt (JJ.out (.bool true)))).trans (JJ.out (.bool true))); have J2 := Aside0.mk (below_then (below_set PA.out.k2 (show w.heap.size ≤ w.heap.size + 1 by omega)) (below_set PA.out.k2 (show w.heap.size ≤ w.heap.size + 1 by omega)).size hb9); clear hb9; have a90 : w9.cell? ⟨w.heap.size, 0, none⟩ = some (.int .u64 0) := (blk_cell J0.out 0).trans rfl; have a91 : w9.cell? ⟨w.heap.size, 1, none⟩ = some (.int .u64 0) := (blk_cell J0.out 1).trans rfl; have a92 : w9.cell? ⟨w.heap.size, 2, none⟩ = some (.bool false) := (blk_cell J0.out 2).trans rfl; have f90 := blk_frozen J0.out 0; have f91 := blk_frozen J0.out 1; have f92 := blk_frozen J0.out 2; have b90 : w9.cell? ⟨w.heap.size + 1, 0, none⟩ = some (.int .u64 hi) := (blk_cell J1.out 0).trans rfl; have b91 : w9.cell? ⟨w.heap.size + 1, 1, none⟩ = some (.int .u64 lo) := (blk_cell J1.out 1).trans rfl; have b92 : w9.cell? ⟨w.heap.size + 1, 2, none⟩ = some (.bool true) := (blk_cell J1.out 2).trans rfl))
              have hg : (((w9.setCell ⟨w.heap.size, 0, none⟩ (.int .u64 0)).setCell ⟨w.heap.size, 1, none⟩ (.int .u64 0)).setCell ⟨w.heap.size, 2, none⟩ (.bool false)).heap[w.heap.size]? = some (.cells #[.int .u64 0, .int .u64 0, .bool false] 40 (0, 0)) := blk_put (blk_put (blk_put J0.out 0 _ rfl) 1 _ rfl) 2 _ rfl
              refine bodyPost_ret (results_list (rs := [.cell 2 40, .tmp 3]) rfl (by simp) (.cell w.heap.size 40 #[.int .u64 0, .int .u64 0, .bool false] (0, 0) _ rfl hg Try.underlying40 rfl (by kernel_rfl) (.tmp .nil))) rfl ?_
              refine ⟨?_, below_set (below_set (below_set J2.out (Nat.le_refl _)) (Nat.le_refl _)) (Nat.le_refl _)⟩
              rw [HRE.out.1, HRE.out.2]
              rfl
end Go.Proofs.Ythmjmkbahneneaa.PMon
end
