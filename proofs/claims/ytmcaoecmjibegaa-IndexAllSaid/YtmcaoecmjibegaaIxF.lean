/- The index's places: read; next, between, find. -/
import Derived.Test.YtmcaoecmjibegaaIxB
import Derived.Deep.RegionHeld3
import Derived.Deep.DrawnRows
import Derived.BigQuiet
namespace Go.Proofs.Ytmcaoecmjibegaa.PIx
open Go.RowKit Go.Proofs.YtmcaoecmjibegaaW.PrintWords Go.Proofs.YtmcaoecmjibegaaW.PrintLast Go.Proofs.YtmcaoecmjibegaaW.PrintMore
set_option linter.unusedVariables false
set_option linter.unusedSimpArgs false

/-- Place i. -/
def pa (pl : List S72) (i : Nat) : S72 := pl.getD i z72

theorem Ix.elem {W : World} {g b : Nat} {room keys : Int} {bits : Nat} {pl : List S72} (h : Ix W g b room keys bits pl) (i : Nat) (hi : i < pl.length) :
    (W.cell? ⟨b, i * 3, none⟩ = some (.bool (pa pl i).f0.f0) ∧ W.cell? ⟨b, i * 3 + 1, none⟩ = some (.int .u64 (pa pl i).f0.f1) ∧ W.cell? ⟨b, i * 3 + 2, none⟩ = some (.int .i64 (pa pl i).f1)) ∧
      ∀ j, W.frozen? ⟨b, i * 3 + j, none⟩ = false := by
  obtain ⟨c, _, hr⟩ := h
  obtain ⟨cs, hl, hM, hc, hf⟩ := Kd.R_elem hr z72 (i : Int) (by omega) (by omega)
  have hcs := k72_openM hM
  subst hcs
  simp only [Int.toNat_natCast] at hc hf
  exact ⟨⟨hc 0 _ rfl, hc 1 _ rfl, hc 2 _ rfl⟩, hf⟩

theorem Ix.cells {W : World} {g b : Nat} {room keys : Int} {bits : Nat} {pl : List S72} (h : Ix W g b room keys bits pl) :
    ∃ c, (W.cell? ⟨g, 0, none⟩ = some (.int .i64 room) ∧ W.cell? ⟨g, 1, none⟩ = some (.int .i64 keys) ∧ W.cell? ⟨g, 2, none⟩ = some (.int .i64 (bits : Int)) ∧ W.cell? ⟨g, 3, none⟩ = some (.slice (some ⟨b, 0, none⟩) pl.length c)) ∧
      (∀ j, W.frozen? ⟨g, j, none⟩ = false) ∧ pl.length ≤ c := by
  obtain ⟨c, hh, hr⟩ := h
  exact ⟨c, ⟨(blk_cell hh 0).trans rfl, (blk_cell hh 1).trans rfl, (blk_cell hh 2).trans rfl, (blk_cell hh 3).trans rfl⟩, fun j => blk_frozen hh j, (Kd.R_reads' hr).2.1⟩

set_option maxHeartbeats 8000000 in
set_option maxRecDepth 100000 in
theorem next_calls {W : World} {g b : Nat} {room keys : Int} {bits : Nat} {pl : List S72} (i : Nat) (h : Ix W g b room keys bits pl) (hn : pl.length ≤ 131072) (hi : i < pl.length) :
    Calls Try.prog 28 #[.pointer (some ⟨g, 0, none⟩), .int .i64 (i : Int)] W fun e w' => e = .returned (.int .i64 (((i + 1) % pl.length : Nat) : Int)) ∧ w' = W := by
  obtain ⟨c, ⟨_, _, _, hc3⟩, hf, _⟩ := h.cells
  clear h
  obtain ⟨n, hN⟩ : ∃ n, n = pl.length := ⟨_, rfl⟩
  rw [← hN] at hc3 hn hi ⊢
  have h0 : ¬ ((n : Int) = 0) := by omega
  have h1 : ((n : Int) == 0) = false := beq_eq_false_iff_ne.mpr h0
  go_enter Try.func28, Try.ntmps28
  go_wp2
  go_ret
  refine ⟨?_, rfl⟩
  show Ending.returned (Value.int .i64 (((i : Int) + 1) % (pl.length : Int))) = _
  rw [hN]
  simp

/-- How far it is from place a on to place b. -/
def dist (n a b : Nat) : Nat := (b + n - a) % n

set_option maxHeartbeats 8000000 in
set_option maxRecDepth 100000 in
theorem between_calls {W : World} {g b : Nat} {room keys : Int} {bits : Nat} {pl : List S72} (x y z : Nat) (h : Ix W g b room keys bits pl) (hn : pl.length ≤ 131072) (hx : x < pl.length) (hy : y < pl.length) (hz : z < pl.length) :
    Calls Try.prog 29 #[.pointer (some ⟨g, 0, none⟩), .int .i64 (x : Int), .int .i64 (y : Int), .int .i64 (z : Int)] W fun e w' => e = .returned (.bool (decide (0 < dist pl.length x y ∧ dist pl.length x y ≤ dist pl.length x z))) ∧ ∃ m, w' = W.drewN m := by
  obtain ⟨c, ⟨_, _, _, hc3⟩, hf, _⟩ := h.cells
  clear h hf
  obtain ⟨n, hN⟩ : ∃ n, n = pl.length := ⟨_, rfl⟩
  rw [← hN] at hc3 hn hx hy hz ⊢
  clear hN
  have h0 : ¬ ((n : Int) = 0) := by omega
  have h1 : ((n : Int) == 0) = false := beq_eq_false_iff_ne.mpr h0
  have hd : ∀ u, dist n x u < n := fun u => Nat.mod_lt _ (by omega)
  have e0 : ∀ u : Nat, u < n → ((u : Int) - x + n).tmod n = (dist n x u : Nat) := by
    intro u hu
    rw [Int.tmod_eq_emod_of_nonneg (by omega)]
    unfold dist
    rw [Int.natCast_emod, Int.natCast_sub (by omega)]
    congr 1
    push_cast
    omega
  have e1 := e0 y hy
  have e2 := e0 z hz
  have hy2 := hd y
  have hz2 := hd z
  obtain ⟨p, hp⟩ : ∃ p, p = dist n x y := ⟨_, rfl⟩
  obtain ⟨q, hq⟩ : ∃ q, q = dist n x z := ⟨_, rfl⟩
  rw [← hp] at e1 hy2
  rw [← hq] at e2 hz2
  rw [← hp, ← hq]
  clear hp hq e0 hd
  have w1 : IntKind.i64.wrap ((y : Int) - x) = y - x := IntWalk.i64_in _ (by omega)
  have w2 : IntKind.i64.wrap ((y : Int) - x + n) = y - x + n := IntWalk.i64_in _ (by omega)
  have w3 : IntKind.i64.wrap ((z : Int) - x) = z - x := IntWalk.i64_in _ (by omega)
  have w4 : IntKind.i64.wrap ((z : Int) - x + n) = z - x + n := IntWalk.i64_in _ (by omega)
  by_cases c1 : 0 < p
  · have d1 : (0 : Int) < p := by omega
    have d2 : decide ((0 : Int) < p) = true := decide_eq_true d1
    go_enter Try.func29, Try.ntmps29
    go_wp2_with (fail)
    go_quiet (fail)
    go_wp2
    go_ret
    refine ⟨?_, _, rfl⟩
    show Ending.returned (Value.bool (decide (p ≤ q))) = _
    have c2 : (0 < p ∧ p ≤ q) = (p ≤ q) := propext ⟨fun h => h.2, fun h => ⟨c1, h⟩⟩
    simp only [c2]
  · have d1 : ¬ (0 : Int) < p := by omega
    have d2 : decide ((0 : Int) < p) = false := decide_eq_false d1
    go_enter Try.func29, Try.ntmps29
    go_wp2_with (fail)
    go_quiet (fail)
    go_wp2
    go_ret
    refine ⟨?_, _, rfl⟩
    show Ending.returned (Value.bool false) = _
    rw [decide_eq_false (fun h => c1 h.1)]
/-- The look for a key ends at place i. -/
def Stops (pl : List S72) (key : Int) (i : Nat) : Prop := (pa pl i).f0.f0 = false ∨ (pa pl i).f0.f1 = key

set_option maxHeartbeats 8000000 in
set_option maxRecDepth 100000 in
theorem find_calls {W : World} {g b : Nat} {room keys : Int} {bits : Nat} {pl : List S72} (key : Int) (d : Nat) (h : Ix W g b room keys bits pl) (hb : bits ≤ 17) (hl : pl.length = 2 ^ bits)
    (hs : Stops pl key ((homeN bits key + d) % pl.length)) (hns : ∀ e, e < d → ¬ Stops pl key ((homeN bits key + e) % pl.length)) :
    Calls Try.prog 27 #[.pointer (some ⟨g, 0, none⟩), .int .u64 key] W fun e w' => e = .returned (.int .i64 (((homeN bits key + d) % pl.length : Nat) : Int)) ∧ w' = W := by
  obtain ⟨c, ⟨_, _, _, hc3⟩, hf, _⟩ := h.cells
  have hn : pl.length ≤ 131072 := by rw [hl]; exact Nat.le_trans (Nat.pow_le_pow_right (by decide) hb) (by decide)
  have h0 : homeN bits key < pl.length := by rw [hl]; exact homeN_lt bits key (by omega)
  have HL := Aside0.mk hl
  have HI := Aside0.mk h
  have HS := Aside0.mk hs
  have HNS := Aside0.mk hns
  obtain ⟨n, hN⟩ : ∃ n, n = pl.length := ⟨_, rfl⟩
  have HN := Aside0.mk hN
  obtain ⟨o, ho⟩ : ∃ o, o = homeN bits key := ⟨_, rfl⟩
  have HO := Aside0.mk ho
  rw [← hN] at hc3 hn h0 ⊢
  rw [← ho] at h0 ⊢
  clear hl h hs hns hN ho hf
  go_enter Try.func27, Try.ntmps27
  go_wp2_with (first | ((with_reducible refine gate_callee (f := 11) rfl ?_); refine goesL_ (some 8) rfl rfl Try.func11 (by kernel_rfl) rfl #[.pointer (some ⟨g, 0, none⟩), .int .u64 key] rfl (by (try simp only [List.map_toArray, List.map_cons, List.map_nil]); first | done | rfl) ?_; (with_reducible refine (home_calls key HI.out (by assumption)).mono ?_); rintro e w4 ⟨rfl, h4⟩; subst w4; refine ⟨_, rfl, ?_⟩))
  rw [← HO.out]
  go_loopg [5] d (fun kq v w' => ∃ i e : Nat, v = .int .i64 (i : Int) ∧ i < n ∧ Aside0 (i = (o + e) % n) ∧ Aside0 (kq + e = d) ∧ w' = W)
  case atStart => exact ⟨o, 0, rfl, h0, ⟨(Nat.mod_eq_of_lt h0).symm⟩, ⟨rfl⟩, rfl⟩
  case round =>
    obtain ⟨i, e, rfl, hi, HE, HK, rfl⟩ := hrel
    obtain ⟨⟨p0, p1, p2⟩, pf⟩ := HI.out.elem i (by have := HN.out; omega)
    have HPF := Aside0.mk pf
    clear pf p2
    have hst : Stops pl key i → (i : Int) = ((o + d) % n : Nat) := by
      intro hs
      rw [HE.out] at hs ⊢
      by_cases hed : e < d
      · exact absurd hs (by have := HNS.out e hed; rwa [← HO.out, ← HN.out] at this)
      · have := HK.out
        rw [show e = d by omega]
    have HST := Aside0.mk hst
    have hnst : ¬ Stops pl key i → ∃ k1, gk = k1 + 1 := by
      intro hs
      refine ⟨gk - 1, ?_⟩
      have h5 := HK.out
      rcases Nat.eq_zero_or_pos gk with h6 | h6
      · have h7 : e = d := by omega
        rw [HE.out, h7] at hs
        exact absurd HS.out (by rwa [← HO.out, ← HN.out])
      · omega
    have HNST := Aside0.mk hnst
    clear hst hnst
    obtain ⟨u, hu⟩ : ∃ u, u = pa pl i := ⟨_, rfl⟩
    have HU := Aside0.mk hu
    rw [← hu] at p0 p1
    obtain ⟨⟨u1, u2⟩, u3⟩ := u
    dsimp only at p0 p1
    clear hu
    cases u1 with
    | false =>
      go_wp2
      go_ret
      refine ⟨?_, rfl⟩
      rw [← HST.out (.inl (by rw [← HU.out]))]
      rfl
    | true =>
      by_cases ck : u2 = key
      · subst ck
        go_wp2
        go_ret
        refine ⟨?_, rfl⟩
        rw [← HST.out (.inr (by rw [← HU.out]))]
        rfl
      · have ck1 : (u2 == key) = false := beq_eq_false_iff_ne.mpr ck
        obtain ⟨k1, rfl⟩ := HNST.out (fun h => by
          unfold Stops at h
          rw [← HU.out] at h
          exact h.elim (fun h => by simp at h) ck)
        go_wp2_with (first | ((with_reducible refine gate_callee (f := 28) rfl ?_); refine goesL_ (some 33) rfl rfl Try.func28 (by kernel_rfl) rfl #[.pointer (some ⟨g, 0, none⟩), .int .i64 (i : Int)] rfl (by (try simp only [List.map_toArray, List.map_cons, List.map_nil]); first | done | rfl) ?_; (with_reducible refine (next_calls i HI.out (by rw [← HN.out]; assumption) (by rw [← HN.out]; assumption)).mono ?_); rintro e5 w5 ⟨rfl, h5⟩; subst w5; refine ⟨_, rfl, ?_⟩; rw [← HN.out]))
        go_roundg k1
        case measure => omega
        case rel =>
          refine ⟨(i + 1) % n, e + 1, rfl, Nat.mod_lt _ (by omega), ⟨?_⟩, ⟨by have := HK.out; omega⟩, rfl⟩
          rw [HE.out, Nat.mod_add_mod, Nat.add_assoc]
end Go.Proofs.Ytmcaoecmjibegaa.PIx
