/- tidy: no gaps. -/
import Derived.Test.YtmcaoecmjibegaaIxL
namespace Go.Proofs.Ytmcaoecmjibegaa.PIx
open Go.RowKit Go.Proofs.YtmcaoecmjibegaaW.PrintWords Go.Proofs.YtmcaoecmjibegaaW.PrintLast Go.Proofs.YtmcaoecmjibegaaW.PrintMore
set_option linter.unusedVariables false
set_option linter.unusedSimpArgs false

theorem Live.ix {W : World} {g b : Nat} {room keys : Int} {bits : Nat} {pl : List S72} (h : Live W g b room keys bits pl) : Ix W g b room keys bits pl := h.1

/-- How many of the first i places are used. -/
def cu (pl : List S72) (i : Nat) : Nat := (pl.take i).countP (fun s => s.f0.f0)
theorem cu_zero (pl : List S72) : cu pl 0 = 0 := by simp [cu]
theorem cu_all (pl : List S72) : cu pl pl.length = cnt pl := by simp [cu, cnt]
theorem cu_succ {pl : List S72} {i : Nat} (hi : i < pl.length) : cu pl (i + 1) = cu pl i + if us pl i = true then 1 else 0 := by
  unfold cu
  rw [List.take_add_one, List.getElem?_eq_getElem hi, List.countP_append, us_get hi]
  congr 1
  cases c : (pl[i]).f0.f0 <;> simp [c]
theorem cu_le (pl : List S72) (i : Nat) : cu pl i ≤ i := Nat.le_trans List.countP_le_length (by rw [List.length_take]; omega)

theorem u64_eql_false {a b : Int} (h : a ≠ b) : (a == b) = false := beq_eq_false_iff_ne.mpr h

set_option maxHeartbeats 16000000 in
set_option maxRecDepth 100000 in
theorem tidy_calls {W : World} {g b : Nat} {room keys : Int} {bits : Nat} {pl : List S72} (h : Live W g b room keys bits pl) :
    Calls Try.prog 21 #[.pointer (some ⟨g, 0, none⟩)] W fun e W' => e = .returned (.bool true) ∧ Below W.heap.size W W' := by
  have hn : pl.length ≤ 131072 := by rw [h.2.1.len]; exact Nat.le_trans (Nat.pow_le_pow_right (by decide) h.2.1.hb) (by decide)
  have hn0 : 0 < pl.length := by rw [h.2.1.len]; exact Nat.pow_pos (by decide)
  have hkk : keys = (cnt pl : Int) := h.2.1.num
  have HKK := Aside0.mk hkk
  have HN2 : Aside0 (0 < pl.length ∧ pl.length ≤ 131072) := ⟨hn0, hn⟩
  have HL := Aside0.mk h
  obtain ⟨n, hN⟩ : ∃ n, n = pl.length := ⟨_, rfl⟩
  have HN := Aside0.mk hN
  rw [← hN] at hn hn0
  clear h hN hkk
  go_enter Try.func21, Try.ntmps21
  go_wp2_with (first
    | ((with_reducible refine gate_callee (f := 15) rfl ?_); (try (refine gate_guard (by rfl) ?_; dsimp only)); refine goesL_ (some 12) rfl rfl Try.func15 (by kernel_rfl) rfl #[.pointer (some ⟨g, 0, none⟩)] rfl (by (try simp only [List.map_toArray, List.map_cons, List.map_nil]); first | done | rfl) ?_; (with_reducible refine (slots_tab HL.out.ix HN2.out).mono ?_); rintro e w1 ⟨c, cap, rfl, hc, htab, hbel⟩; refine ⟨_, rfl, ?_⟩; rw [← HN.out]; have HT := Aside0.mk htab; have HB := Aside0.mk hbel; have HC := Aside0.mk hc; clear htab hbel hc))
  have TC : Aside0 (∀ (w2 : World) (j : Nat), j < n → Below w1.heap.size w1 w2 → w2.cell? ⟨c, j * 2, none⟩ = some (.bool (us pl j)) ∧ w2.cell? ⟨c, j * 2 + 1, none⟩ = some (.int .u64 (ky pl j))) := ⟨fun w2 j hj hb => (HT.out.keep (hb.block c HT.out.lt)).at_ j (by rw [← HN.out]; exact hj)⟩
  have LV : Aside0 (∀ w2 : World, Below w1.heap.size w1 w2 → Live w2 g b room keys bits pl) := ⟨fun w2 hb => (HL.out.below HB.out).below hb⟩
  have G4 : Aside0 (∀ (w2 : World), Below w1.heap.size w1 w2 → Calls Try.prog 14 #[.pointer (some ⟨g, 0, none⟩)] w2 fun e w' => e = .returned (.int .i64 keys) ∧ w' = w2) := ⟨fun w2 hb => len_calls (LV.out w2 hb).1⟩
  go_loopg [4, 5] n (fun kq v4 v5 w' => ∃ i : Nat, v4 = .int .i64 (cu pl i : Int) ∧ v5 = .int .i64 (i : Int) ∧ i ≤ n ∧ Aside0 (kq + i = n) ∧ Aside0 (Below w1.heap.size w1 w'))
  case atStart => exact ⟨0, by rw [cu_zero]; rfl, rfl, Nat.zero_le _, ⟨rfl⟩, ⟨Below.refl _ _⟩⟩
  case round =>
    obtain ⟨i, rfl, rfl, hin, HKI, HBR⟩ := hrel
    have hcu := cu_le pl i
    obtain ⟨q, hq⟩ : ∃ q, q = cu pl i := ⟨_, rfl⟩
    have HQ := Aside0.mk hq
    rw [← hq] at hcu ⊢
    clear hq
    by_cases hi : i < n
    · obtain ⟨t0, t1⟩ := TC.out wr i hi HBR.out
      obtain ⟨k1, rfl⟩ : ∃ k1, gk = k1 + 1 := ⟨gk - 1, by have := HKI.out; omega⟩
      obtain ⟨y, hy⟩ : ∃ y, y = ky pl i := ⟨_, rfl⟩
      have HY : Aside0 (ky pl i = y) := ⟨hy.symm⟩
      rw [← hy] at t1
      clear hy
      have HPI : Aside0 (i < pl.length) := ⟨by rw [← HN.out]; exact hi⟩
      obtain ⟨u0, hu0⟩ : ∃ u0, u0 = us pl i := ⟨_, rfl⟩
      have HU : Aside0 (us pl i = u0) := ⟨hu0.symm⟩
      rw [← hu0] at t0
      clear hu0
      cases u0 with
      | false =>
        go_wp2
        go_roundg k1
        case measure => omega
        case rel =>
          refine ⟨i + 1, ?_, rfl, by omega, ⟨by have := HKI.out; omega⟩, HBR⟩
          rw [cu_succ HPI.out, HU.out, ← HQ.out]
          rfl
      | true =>
        have G2 : Aside0 (∀ (w2 : World), Below w1.heap.size w1 w2 → Calls Try.prog 20 #[.pointer (some ⟨g, 0, none⟩), .int .u64 y] w2 fun e w' => e = .returned (.tuple #[.int .i64 (vl pl i), .bool true]) ∧ Below w2.heap.size w2 w') := ⟨fun w2 hb => by
          have hl := LV.out w2 hb
          have := get_calls y i hl.1 hl.2.1 (by rw [← HY.out]; exact hl.2.1.wf.ends_at HPI.out HU.out)
          rwa [HU.out] at this⟩
        obtain ⟨o, ho⟩ : ∃ o, o = homeN bits y := ⟨_, rfl⟩
        have HO := Aside0.mk ho
        have hon : o < n := by rw [ho, HN.out]; exact HL.out.2.1.wf.home y
        have G3 : Aside0 (∀ (w2 : World), Below w1.heap.size w1 w2 → Calls Try.prog 11 #[.pointer (some ⟨g, 0, none⟩), .int .u64 y] w2 fun e w' => e = .returned (.int .i64 (o : Int)) ∧ w' = w2) := ⟨fun w2 hb => by
          have hl := LV.out w2 hb
          rw [HO.out]
          exact home_calls y hl.1 hl.2.1.hb⟩
        obtain ⟨x, hx⟩ : ∃ x, x = vl pl i := ⟨_, rfl⟩
        rw [← hx] at G2
        clear ho hx
        go_wp2_with (first
          | ((with_reducible refine gate_callee (f := 20) rfl ?_); (try (refine gate_guard (by rfl) ?_; dsimp only)); refine goesL_ (some 34) rfl rfl Try.func20 (by kernel_rfl) rfl #[.pointer (some ⟨g, 0, none⟩), .int .u64 y] rfl (by (try simp only [List.map_toArray, List.map_cons, List.map_nil]); first | done | rfl) ?_; (with_reducible refine (G2.out wr HBR.out).mono ?_); rintro e w2 ⟨rfl, hbel⟩; refine ⟨_, rfl, ?_⟩; (obtain ⟨s0, s1⟩ := TC.out w2 i hi (below_then HBR.out HBR.out.size hbel)); rw [HY.out] at s1; have HB2 := Aside0.mk (below_then HBR.out HBR.out.size hbel); clear hbel)
          | ((with_reducible refine gate_callee (f := 20) rfl ?_); (try (refine gate_guard (by rfl) ?_; dsimp only)); refine goesL_ (some 44) rfl rfl Try.func20 (by kernel_rfl) rfl #[.pointer (some ⟨g, 0, none⟩), .int .u64 y] rfl (by (try simp only [List.map_toArray, List.map_cons, List.map_nil]); first | done | rfl) ?_; (with_reducible refine (G2.out w2 HB2.out).mono ?_); rintro e w3 ⟨rfl, hbel⟩; refine ⟨_, rfl, ?_⟩; (obtain ⟨r0, r1⟩ := TC.out w3 i hi (below_then HB2.out HB2.out.size hbel)); rw [HY.out] at r1; have HB3 := Aside0.mk (below_then HB2.out HB2.out.size hbel); clear hbel)
          | ((with_reducible refine gate_callee (f := 11) rfl ?_); (try (refine gate_guard (by rfl) ?_; dsimp only)); refine goesL_ (some 64) rfl rfl Try.func11 (by kernel_rfl) rfl #[.pointer (some ⟨g, 0, none⟩), .int .u64 y] rfl (by (try simp only [List.map_toArray, List.map_cons, List.map_nil]); first | done | rfl) ?_; (with_reducible refine (G3.out w3 HB3.out).mono ?_); rintro e w5 ⟨rfl, h5⟩; subst w5; refine ⟨_, rfl, ?_⟩))
        go_loopg [10] (dist n o i) (fun kq v10 w' => ∃ e k : Nat, v10 = .int .i64 (k : Int) ∧ k < n ∧ Aside0 (k = (o + e) % n) ∧ Aside0 (kq + e = dist n o i) ∧ Aside0 (Below w1.heap.size w1 w'))
        case atStart => exact ⟨0, o, rfl, hon, ⟨(Nat.mod_eq_of_lt hon).symm⟩, ⟨rfl⟩, HB3⟩
        case round =>
          clear s0 s1 r0 r1 t0 t1
          obtain ⟨e, k, rfl, hk, HE, HKE, HBI⟩ := hrel
          by_cases hki : k = i
          · subst hki
            go_wp2
            go_roundg k1
            case measure => omega
            case rel =>
              refine ⟨k + 1, ?_, rfl, by omega, ⟨by have := HKI.out; omega⟩, HBI⟩
              rw [cu_succ HPI.out, HU.out, ← HQ.out]
              rfl
          · obtain ⟨r0, r1⟩ := TC.out _ k hk HBI.out
            obtain ⟨t0, t1⟩ := TC.out _ i hi HBI.out
            have hed : e < dist n o i := by
              have h1 := HKE.out
              rcases Nat.lt_or_ge e (dist n o i) with h2 | h2
              · exact h2
              · exfalso
                have h3 : e = dist n o i := by omega
                apply hki
                rw [HE.out, h3]
                exact md_dist hon hi
            have husk : us pl k = true := by
              have h1 := HL.out.2.1.gap i HPI.out HU.out e (by rw [HY.out, ← HO.out, ← HN.out]; exact hed)
              rw [HY.out, ← HO.out, ← HN.out] at h1
              rw [HE.out]
              exact h1
            have hkyk : ky pl k ≠ y := fun hz => hki (HL.out.2.1.dis k i (by rw [← HN.out]; exact hk) HPI.out husk HU.out (hz.trans HY.out.symm))
            rw [husk] at r0
            rw [HU.out] at t0
            rw [HY.out] at t1
            obtain ⟨z, hz⟩ : ∃ z, z = ky pl k := ⟨_, rfl⟩
            rw [← hz] at r1 hkyk
            obtain ⟨k2, hk2⟩ : ∃ k2, k2 + 1 + e = dist n o i := ⟨dist n o i - e - 1, by omega⟩
            obtain rfl : gk = k2 + 1 := by have := HKE.out; omega
            have HK2 := Aside0.mk hk2
            clear hz hed husk hk2
            have e1 : ((k : Int) == i) = false := beq_eq_false_iff_ne.mpr (by omega)
            have e2 : decide ((k : Int) < 0) = false := decide_eq_false (by omega)
            have e3 : decide ((k : Int) ≥ n) = false := decide_eq_false (by omega)
            have e3' : decide ((n : Int) ≤ k) = false := decide_eq_false (by omega)
            have e4 : (z == y) = false := beq_eq_false_iff_ne.mpr hkyk
            have w1' : IntKind.i64.wrap ((k : Int) + 1) = k + 1 := IntWalk.i64_in _ (by omega)
            have z0 : ((n : Int) == 0) = false := beq_eq_false_iff_ne.mpr (by omega)
            go_wp2_with (fail)
            go_quiet (fail)
            go_wp2
            go_roundg k2
            case measure => omega
            case rel =>
              refine ⟨e + 1, (k + 1) % n, by rw [Int.natCast_emod]; rfl, Nat.mod_lt _ (by omega), ⟨?_⟩, ⟨by have := HK2.out; omega⟩, ⟨⟨HBI.out.os, HBI.out.tape, HBI.out.output, HBI.out.size, HBI.out.block⟩⟩⟩
              rw [HE.out, Nat.mod_add_mod, Nat.add_assoc]
    · have hin2 : i = n := by omega
      have hqk : (q : Int) = keys := by
        rw [HKK.out, HQ.out, hin2, HN.out, cu_all]
      have hqk2 : ((q : Int) == keys) = true := beq_iff_eq.mpr hqk
      go_wp2_with (first
        | ((with_reducible refine gate_callee (f := 14) rfl ?_); (try (refine gate_guard (by rfl) ?_; dsimp only)); refine goesL_ (some 104) rfl rfl Try.func14 (by kernel_rfl) rfl #[.pointer (some ⟨g, 0, none⟩)] rfl (by (try simp only [List.map_toArray, List.map_cons, List.map_nil]); first | done | rfl) ?_; (with_reducible refine (G4.out wr HBR.out).mono ?_); rintro e w5 ⟨rfl, h5⟩; subst w5; refine ⟨_, rfl, ?_⟩))
      go_ret
      exact ⟨rfl, below_then HB.out HB.out.size HBR.out⟩
end Go.Proofs.Ytmcaoecmjibegaa.PIx
