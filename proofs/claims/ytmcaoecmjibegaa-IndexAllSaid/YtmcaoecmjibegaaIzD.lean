/- The document's table, told by the program's places: find, Put, Get, Clear, Drop, Keys. -/
import Derived.Test.YtmcaoecmjibegaaIxK
import Derived.BigRegion
import Derived.Test.YtmcaoecmjibegaaIyA
import Derived.IntWalk
import Derived.WalkSmall
set_option linter.unusedVariables false
set_option linter.unusedSimpArgs false
namespace Go.Proofs.Ytmcaoecmjibegaa.PIx
open Go.RowKit Go.Proofs.YtmcaoecmjibegaaW.PrintWords Go.Proofs.YtmcaoecmjibegaaW.PrintLast Go.Proofs.YtmcaoecmjibegaaW.PrintMore

/-- A place as the document writes it. -/
def rf (s : S72) : S79 := ⟨s.f0.f0, s.f0.f1, s.f1⟩
theorem rf_zero : rf z72 = z79 := rfl

/-- The document's index at block g, its table (the places pl) at block b. -/
def Rt (W : World) (g b : Nat) (room count : Int) (pl : List S72) : Prop := Rx W g b room count (pl.map rf)

namespace Rt
variable {W W' : World} {g b : Nat} {room count : Int} {pl : List S72}
theorem lt (h : Rt W g b room count pl) : g < W.heap.size := Rx.lt h
theorem ltb (h : Rt W g b room count pl) : b < W.heap.size := Rx.ltb h
theorem ne (h : Rt W g b room count pl) : g ≠ b := Rx.ne h
theorem keep (h : Rt W g b room count pl) (hg : W'.heap[g]? = W.heap[g]?) (hb : W'.heap[b]? = W.heap[b]?) : Rt W' g b room count pl := Rx.keep h hg hb
theorem fr {S : Nat → Prop} (h : Rt W g b room count pl) (k : Fr S W W') (hg : ¬ S g) (hb : ¬ S b) : Rt W' g b room count pl := Rx.fr h k hg hb
theorem below (h : Rt W g b room count pl) (k : Below W.heap.size W W') : Rt W' g b room count pl := Rx.below h k
theorem drew (h : Rt W g b room count pl) : Rt W.drew g b room count pl := h.keep rfl rfl
theorem elem (h : Rt W g b room count pl) (i : Nat) (hi : i < pl.length) :
    (W.cell? ⟨b, i * 3, none⟩ = some (.bool (pa pl i).f0.f0) ∧ W.cell? ⟨b, i * 3 + 1, none⟩ = some (.int .u64 (pa pl i).f0.f1) ∧ W.cell? ⟨b, i * 3 + 2, none⟩ = some (.int .i64 (pa pl i).f1)) ∧
      ∀ j, W.frozen? ⟨b, i * 3 + j, none⟩ = false := by
  obtain ⟨c, _, hr⟩ := h
  obtain ⟨cs, hl, hM, hc, hf⟩ := Kd.R_elem hr z79 (i : Int) (by omega) (by rw [List.length_map]; omega)
  have hcs := k79_openM hM
  subst hcs
  simp only [Int.toNat_natCast] at hc hf
  have e : (pl.map rf).getD i z79 = rf (pa pl i) := by
    rw [List.getD_eq_getElem?_getD, List.getElem?_eq_getElem (by rw [List.length_map]; exact hi), pa, List.getD_eq_getElem?_getD, List.getElem?_eq_getElem hi]
    simp
  rw [e] at hc
  exact ⟨⟨hc 0 _ rfl, hc 1 _ rfl, hc 2 _ rfl⟩, hf⟩
theorem cells (h : Rt W g b room count pl) :
    ∃ c, (W.cell? ⟨g, 0, none⟩ = some (.int .i64 room) ∧ W.cell? ⟨g, 1, none⟩ = some (.int .i64 count) ∧ W.cell? ⟨g, 2, none⟩ = some (.slice (some ⟨b, 0, none⟩) pl.length c)) ∧
      (∀ j, W.frozen? ⟨g, j, none⟩ = false) ∧ pl.length ≤ c := by
  obtain ⟨c, hh, hr⟩ := h
  rw [List.length_map] at hh hr
  exact ⟨c, ⟨(blk_cell hh 0).trans rfl, (blk_cell hh 1).trans rfl, (blk_cell hh 2).trans rfl⟩, fun j => blk_frozen hh j, (Kd.R_reads' hr).2.1⟩
/-- The count is written. -/
theorem countSet (h : Rt W g b room count pl) (m : Int) : Rt (W.setCell ⟨g, 1, none⟩ (.int .i64 m)) g b room m pl := by
  have hne := h.ne
  obtain ⟨c, hh, hr⟩ := h
  exact ⟨c, by simpa using blk_set hh 1 (.int .i64 m), Kd.R_far hr (fun k hk => by rw [hk]; exact fun e => hne e.symm) _⟩
theorem set3 (h : Rt W g b room count pl) (i : Nat) (x' : S72) (hi : i < pl.length) :
    Rt (((W.setCell ⟨b, i * 3, none⟩ (.bool x'.f0.f0)).setCell ⟨b, i * 3 + 1, none⟩ (.int .u64 x'.f0.f1)).setCell ⟨b, i * 3 + 2, none⟩ (.int .i64 x'.f1)) g b room count (pl.set i x') := by
  have hne := h.ne
  obtain ⟨c, hh, hr⟩ := h
  obtain ⟨cs, hl, hM, hc, hf⟩ := Kd.R_elem hr z79 (i : Int) (by omega) (by rw [List.length_map]; omega)
  simp only [Int.toNat_natCast] at hc
  have hs3 : k79.sz = 3 := rfl
  have h6 : cs.drop 3 = [] := List.drop_eq_nil_of_le (by rw [hl, hs3]; exact Nat.le_refl _)
  have h5 : k79.M W 0 (fun _ => False) (rf x') [.bool x'.f0.f0, .int .u64 x'.f0.f1, .int .i64 x'.f1] := k79_mkM W 0 (fun _ => False) (rf x')
  obtain ⟨h1, h3⟩ := Kd.R_seg hr (i : Int) (by omega) (by rw [List.length_map]; omega) (c := cs) (seg := [.bool x'.f0.f0, .int .u64 x'.f0.f1, .int .i64 x'.f1]) (j := 0) (x' := rf x') (okp := fun _ => False) hl (by simpa using hc) (by simp [hs3]) (by simpa [h6] using h5) (fun _ hk => hk.elim)
  have h7 : W.setCells b ((i : Int).toNat * k79.sz + 0) [.bool x'.f0.f0, .int .u64 x'.f0.f1, .int .i64 x'.f1] = (((W.setCell ⟨b, i * 3, none⟩ (.bool x'.f0.f0)).setCell ⟨b, i * 3 + 1, none⟩ (.int .u64 x'.f0.f1)).setCell ⟨b, i * 3 + 2, none⟩ (.int .i64 x'.f1)) := rfl
  rw [h7] at h1 h3
  refine ⟨c, (h3.block g (blk_lt hh) (fun e => hne (Option.some.inj e))).trans ?_, ?_⟩
  · rw [List.length_map, List.length_set]; rw [List.length_map] at hh; exact hh
  · rw [List.map_set, List.length_set]; simpa using h1
/-- A place is written. -/
theorem store {P : Program} {ops : Array Oper} {rest : List Oper} {o : Oper} {a : Act} {Q : Exit → Act → World → Prop} (h : Rt W g b room count pl)
    (p x : Operand) (hN : o.dst = none) (hgd : o.guard = none) (ho : o.op = .store 79 p x) (i : Nat) (x' : S72) (u : Value) (haddr : a.eval p = .pointer (some ⟨b, i * 3, none⟩)) (hx : a.eval x = u)
    (hu : u.cells.toList = [.bool x'.f0.f0, .int .u64 x'.f0.f1, .int .i64 x'.f1]) (ht : (P.info? 79).map (·.size) = some 3) (hi : i < pl.length)
    (hk : ∀ w1, Rt w1 g b room count (pl.set i x') → Fr (fun k => k = b) W w1 → wpList P ops Q rest a w1) : wpList P ops Q (o :: rest) a W := by
  have hne := h.ne
  obtain ⟨c, hh, hr⟩ := h
  obtain ⟨cs, hl, hM, hc, hf⟩ := Kd.R_elem hr z79 (i : Int) (by omega) (by rw [List.length_map]; omega)
  simp only [Int.toNat_natCast] at hc
  have hs3 : k79.sz = 3 := rfl
  refine Kd.R_store k79 (w0 := W) 0 hN hgd 79 p x ho 79 (i : Int) 0 (pl.map rf) (rf x') u [.bool x'.f0.f0, .int .u64 x'.f0.f1, .int .i64 x'.f1] cs (fun k => k = b) (fun _ => False) haddr (by simp [hs3]) hx hu ht (by simp [Value.oneCell']) hr (by omega) (by rw [List.length_map]; omega) hl (by simpa using hc) (by simp [hs3]) ?_ (fun _ hk => hk.elim) (Below.refl _ _) ?_
  · have h5 : k79.M W 0 (fun _ => False) (rf x') [.bool x'.f0.f0, .int .u64 x'.f0.f1, .int .i64 x'.f1] := k79_mkM W 0 (fun _ => False) (rf x')
    have h6 : cs.drop 3 = [] := List.drop_eq_nil_of_le (by rw [hl, hs3]; exact Nat.le_refl _)
    simpa [h6] using h5
  · intro w1 h1 h2 h3
    refine hk w1 ⟨c, (h3.block g (blk_lt hh) (fun e => hne (Option.some.inj e))).trans ?_, ?_⟩ ⟨h3.os, h3.tape, h3.output, h3.size, fun k hk hn => h3.block k hk (fun e => hn (Option.some.inj e))⟩
    · rw [List.length_map, List.length_set]; rw [List.length_map] at hh; exact hh
    · rw [List.map_set, List.length_set]; simpa using h1
theorem moved {w2 : World} {cur : List S72} (h' : Rt w2 g b room count cur) (h j : Nat) (hh : h < cur.length) (y1 y2 : Int) (hy : pa cur j = ⟨⟨true, y1⟩, y2⟩) :
    Rt (World.drew (((w2.setCell ⟨b, h * 3, none⟩ (.bool true)).setCell ⟨b, h * 3 + 1, none⟩ (.int .u64 y1)).setCell ⟨b, h * 3 + 2, none⟩ (.int .i64 y2))) g b room count (cur.set h (pa cur j)) ∧ Fr (fun k => k = b) w2 (World.drew (((w2.setCell ⟨b, h * 3, none⟩ (.bool true)).setCell ⟨b, h * 3 + 1, none⟩ (.int .u64 y1)).setCell ⟨b, h * 3 + 2, none⟩ (.int .i64 y2))) := by
  refine ⟨?_, ?_⟩
  · rw [hy]
    exact (h'.set3 h ⟨⟨true, y1⟩, y2⟩ hh).drew
  · have h2 := Fr.refl (fun k => k = b) w2
    have h3 := h2.setCell (p := ⟨b, h * 3, none⟩) (.inl rfl) (.bool true)
    have h4 := h3.setCell (p := ⟨b, h * 3 + 1, none⟩) (.inl rfl) (.int .u64 y1)
    exact (h4.setCell (p := ⟨b, h * 3 + 2, none⟩) (.inl rfl) (.int .i64 y2)).drew
end Rt

theorem rthome_calls {W : World} {g b : Nat} {room count : Int} {bits : Nat} {pl : List S72} (key : Int) (h : Rt W g b room count pl) (hl : pl.length = 2 ^ bits) (hb : bits ≤ 17) :
    Calls Try.prog 12 #[.pointer (some ⟨g, 0, none⟩), .int .u64 key] W fun e w' => e = .returned (.int .i64 (homeN bits key : Int)) ∧ w' = W :=
  rhome_calls key h (by rw [List.length_map]; exact hl) hb

set_option maxHeartbeats 8000000 in
set_option maxRecDepth 100000 in
theorem rnext_calls {W : World} {g b : Nat} {room count : Int} {pl : List S72} (i : Nat) (h : Rt W g b room count pl) (hn : pl.length ≤ 131072) (hi : i < pl.length) :
    Calls Try.prog 41 #[.pointer (some ⟨g, 0, none⟩), .int .i64 (i : Int)] W fun e w' => e = .returned (.int .i64 (((i + 1) % pl.length : Nat) : Int)) ∧ w' = W := by
  obtain ⟨c, ⟨_, _, hc3⟩, hf, _⟩ := h.cells
  clear h
  obtain ⟨n, hN⟩ : ∃ n, n = pl.length := ⟨_, rfl⟩
  rw [← hN] at hc3 hn hi ⊢
  have h0 : ¬ ((n : Int) = 0) := by omega
  have h1 : ((n : Int) == 0) = false := beq_eq_false_iff_ne.mpr h0
  go_enter Try.func41, Try.ntmps41
  go_wp2
  go_ret
  refine ⟨?_, rfl⟩
  show Ending.returned (Value.int .i64 (((i : Int) + 1) % (pl.length : Int))) = _
  rw [hN]
  simp

set_option maxHeartbeats 8000000 in
set_option maxRecDepth 100000 in
theorem rfind_calls {W : World} {g b : Nat} {room count : Int} {bits : Nat} {pl : List S72} (key : Int) (d : Nat) (h : Rt W g b room count pl) (hb : bits ≤ 17) (hl : pl.length = 2 ^ bits)
    (hs : Stops pl key ((homeN bits key + d) % pl.length)) (hns : ∀ e, e < d → ¬ Stops pl key ((homeN bits key + e) % pl.length)) :
    Calls Try.prog 40 #[.pointer (some ⟨g, 0, none⟩), .int .u64 key] W fun e w' => e = .returned (.tuple #[.int .i64 (((homeN bits key + d) % pl.length : Nat) : Int), .bool (us pl ((homeN bits key + d) % pl.length))]) ∧ ∃ m, w' = W.drewN m := by
  obtain ⟨c, ⟨_, _, hc3⟩, hf, _⟩ := h.cells
  have hn : pl.length ≤ 131072 := by rw [hl]; exact Nat.le_trans (Nat.pow_le_pow_right (by decide) hb) (by decide)
  have h0 : homeN bits key < pl.length := by rw [hl]; exact homeN_lt bits key (by omega)
  have HL := Aside0.mk hl
  have HI := Aside0.mk h
  have HS := Aside0.mk hs
  have HNS := Aside0.mk hns
  obtain ⟨n, hN⟩ : ∃ n, n = pl.length := ⟨_, rfl⟩
  have HN := Aside0.mk hN
  obtain ⟨o, ho⟩ : ∃ o, o = homeN bits key := ⟨_, rfl⟩
  have HO := Aside0.mk ho
  rw [← hN] at hc3 hn h0 ⊢
  rw [← ho] at h0 ⊢
  clear hl h hs hns hN ho hf
  go_enter Try.func40, Try.ntmps40
  go_wp2_with (first | ((with_reducible refine gate_callee (f := 12) rfl ?_); refine goesL_ (some 9) rfl rfl Try.func12 (by kernel_rfl) rfl #[.pointer (some ⟨g, 0, none⟩), .int .u64 key] rfl (by (try simp only [List.map_toArray, List.map_cons, List.map_nil]); first | done | rfl) ?_; (with_reducible refine (rthome_calls key HI.out HL.out (by assumption)).mono ?_); rintro e w4 ⟨rfl, h4⟩; subst w4; refine ⟨_, rfl, ?_⟩))
  rw [← HO.out]
  go_loopg [6] d (fun kq v w' => ∃ i e : Nat, v = .int .i64 (i : Int) ∧ i < n ∧ Aside0 (i = (o + e) % n) ∧ Aside0 (kq + e = d) ∧ w' = W)
  case atStart => exact ⟨o, 0, rfl, h0, ⟨(Nat.mod_eq_of_lt h0).symm⟩, ⟨rfl⟩, rfl⟩
  case round =>
    obtain ⟨i, e, rfl, hi, HE, HK, rfl⟩ := hrel
    obtain ⟨⟨p0, p1, p2⟩, pf⟩ := HI.out.elem i (by have := HN.out; omega)
    have HPF := Aside0.mk pf
    clear pf p2
    have hst : Stops pl key i → i = (o + d) % n := by
      intro hs
      rw [HE.out] at hs ⊢
      by_cases hed : e < d
      · exact absurd hs (by have := HNS.out e hed; rwa [← HO.out, ← HN.out] at this)
      · have := HK.out
        rw [show e = d by omega]
    have HST := Aside0.mk hst
    have hnst : ¬ Stops pl key i → ∃ k1, gk = k1 + 1 := by
      intro hs
      refine ⟨gk - 1, ?_⟩
      have h5 := HK.out
      rcases Nat.eq_zero_or_pos gk with h6 | h6
      · have h7 : e = d := by omega
        rw [HE.out, h7] at hs
        exact absurd HS.out (by rwa [← HO.out, ← HN.out])
      · omega
    have HNST := Aside0.mk hnst
    clear hst hnst
    obtain ⟨u, hu⟩ : ∃ u, u = pa pl i := ⟨_, rfl⟩
    have HU := Aside0.mk hu
    rw [← hu] at p0 p1
    obtain ⟨⟨u1, u2⟩, u3⟩ := u
    dsimp only at p0 p1
    have HUS : Aside0 (u1 = us pl i) := ⟨by unfold us; rw [← HU.out]⟩
    clear hu
    cases u1 with
    | false =>
      go_wp2
      go_quiet (fail)
      go_wp2
      go_ret2
      refine ⟨?_, _, rfl⟩
      rw [← HST.out (.inl (by rw [← HU.out])), ← HUS.out]
      rfl
    | true =>
      by_cases ck : u2 = key
      · subst ck
        go_wp2
        go_quiet (fail)
        go_wp2
        go_ret2
        refine ⟨?_, _, rfl⟩
        rw [← HST.out (.inr (by rw [← HU.out])), ← HUS.out]
        rfl
      · have ck1 : (u2 == key) = false := beq_eq_false_iff_ne.mpr ck
        obtain ⟨k1, rfl⟩ := HNST.out (fun h => by
          unfold Stops at h
          rw [← HU.out] at h
          exact h.elim (fun h => by simp at h) ck)
        go_wp2_with (first | ((with_reducible refine gate_callee (f := 41) rfl ?_); refine goesL_ (some 32) rfl rfl Try.func41 (by kernel_rfl) rfl #[.pointer (some ⟨g, 0, none⟩), .int .i64 (i : Int)] rfl (by (try simp only [List.map_toArray, List.map_cons, List.map_nil]); first | done | rfl) ?_; (with_reducible refine (rnext_calls i HI.out (by rw [← HN.out]; assumption) (by rw [← HN.out]; assumption)).mono ?_); rintro e5 w5 ⟨rfl, h5⟩; subst w5; refine ⟨_, rfl, ?_⟩; rw [← HN.out]))
        go_roundg k1
        case measure => omega
        case rel =>
          refine ⟨(i + 1) % n, e + 1, rfl, Nat.mod_lt _ (by omega), ⟨?_⟩, ⟨by have := HK.out; omega⟩, rfl⟩
          rw [HE.out, Nat.mod_add_mod, Nat.add_assoc]

/-- The look for a key, told by where it ends. -/
theorem rfind_at {W : World} {g b : Nat} {room count : Int} {bits : Nat} {pl : List S72} (key : Int) (p : Nat) (h : Rt W g b room count pl) {m1 k1 : Int} (hf : Fit m1 k1 bits pl) (he : Ends bits pl key p) :
    Calls Try.prog 40 #[.pointer (some ⟨g, 0, none⟩), .int .u64 key] W fun e w' => e = .returned (.tuple #[.int .i64 (p : Int), .bool (us pl p)]) ∧ ∃ m, w' = W.drewN m := by
  have hmd := md_dist (hf.wf.home key) he.1
  have X := rfind_calls key (dist pl.length (homeN bits key) p) h hf.hb hf.len (by rw [hmd]; exact he.2.1) he.2.2
  rwa [hmd] at X

/-- Does place x lie on the way from place h, without it, to place j, that one counted? -/
theorem rbehind_calls {W : World} {g b : Nat} {room count : Int} {pl : List S72} (x h j : Nat) (hr : Rt W g b room count pl) (hn : pl.length ≤ 131072) (hx : x < pl.length) (hh : h < pl.length) (hj : j < pl.length) :
    Calls Try.prog 42 #[.pointer (some ⟨g, 0, none⟩), .int .i64 (x : Int), .int .i64 (h : Int), .int .i64 (j : Int)] W fun e w' => e = .returned (.bool (decide (0 < dist pl.length h x ∧ dist pl.length h x ≤ dist pl.length h j))) ∧ w' = W := by
  obtain ⟨n, hN⟩ : ∃ n, n = pl.length := ⟨_, rfl⟩
  obtain ⟨B, hB⟩ : ∃ B, B = decide (0 < dist pl.length h x ∧ dist pl.length h x ≤ dist pl.length h j) := ⟨_, rfl⟩
  rw [← hB]
  rw [← hN] at hn hx hh hj hB
  have HN := Aside0.mk hN
  have HB := Aside0.mk hB
  have HI := Aside0.mk hr
  clear hN hB hr
  go_enter Try.func42, Try.ntmps42
  go_wp2
  go_loopg [9] (dist n h j) (fun kq v w' => ∃ i : Nat, v = .int .i64 (i : Int) ∧ i < n ∧ Aside0 (kq + dist n h i = dist n h j) ∧ Aside0 (dist n h i < dist n h x ∨ dist n h x = 0) ∧ w' = W)
  case atStart => exact ⟨h, rfl, hh, ⟨by rw [off_self hh]; rfl⟩, ⟨by rw [off_self hh]; omega⟩, rfl⟩
  case round =>
    obtain ⟨i, rfl, hi, HK, HX, rfl⟩ := hrel
    by_cases c : i = j
    · subst c
      go_wp2
      go_ret
      refine ⟨?_, rfl⟩
      rw [HB.out, decide_eq_false (by have := HX.out; omega)]
      rfl
    · have hij : dist n h i ≠ dist n h j := fun e => c (off_inj hh hi hj e)
      have hlt : dist n h i < dist n h j := by have := HK.out; omega
      have hjn : dist n h j < n := dist_lt hh hj
      have hnx : dist n h ((i + 1) % n) = dist n h i + 1 := by rw [off_md hh hi (by omega), if_pos (by omega)]
      obtain ⟨k1, rfl⟩ : ∃ k1, gk = k1 + 1 := ⟨gk - 1, by have := HK.out; omega⟩
      obtain ⟨i2, hi2⟩ : ∃ i2, i2 = (i + 1) % n := ⟨_, rfl⟩
      have hi2n : i2 < n := by rw [hi2]; exact Nat.mod_lt _ (by omega)
      have HI2 := Aside0.mk hi2
      rw [← hi2] at hnx
      have c1 : ((i : Int) == (j : Int)) = false := beq_eq_false_iff_ne.mpr (by omega)
      have HLT := Aside0.mk (And.intro hlt hnx)
      clear hi2 hlt hnx hjn hij
      by_cases cx : i2 = x
      · subst cx
        go_wp2_with (first | ((with_reducible refine gate_callee (f := 41) rfl ?_); refine goesL_ (some 16) rfl rfl Try.func41 (by kernel_rfl) rfl #[.pointer (some ⟨g, 0, none⟩), .int .i64 (i : Int)] rfl (by (try simp only [List.map_toArray, List.map_cons, List.map_nil]); first | done | rfl) ?_; (with_reducible refine (rnext_calls i HI.out (by rw [← HN.out]; assumption) (by rw [← HN.out]; assumption)).mono ?_); rintro e5 w5 ⟨rfl, h5⟩; subst w5; refine ⟨_, rfl, ?_⟩; rw [← HN.out, ← HI2.out]))
        go_ret
        refine ⟨?_, rfl⟩
        rw [HB.out, decide_eq_true (by have := HLT.out; omega)]
        rfl
      · have c2 : ((i2 : Int) == (x : Int)) = false := beq_eq_false_iff_ne.mpr (by omega)
        go_wp2_with (first | ((with_reducible refine gate_callee (f := 41) rfl ?_); refine goesL_ (some 16) rfl rfl Try.func41 (by kernel_rfl) rfl #[.pointer (some ⟨g, 0, none⟩), .int .i64 (i : Int)] rfl (by (try simp only [List.map_toArray, List.map_cons, List.map_nil]); first | done | rfl) ?_; (with_reducible refine (rnext_calls i HI.out (by rw [← HN.out]; assumption) (by rw [← HN.out]; assumption)).mono ?_); rintro e5 w5 ⟨rfl, h5⟩; subst w5; refine ⟨_, rfl, ?_⟩; rw [← HN.out, ← HI2.out]))
        go_roundg k1
        case measure => omega
        case rel =>
          refine ⟨i2, rfl, hi2n, ⟨by have := HK.out; have := HLT.out; omega⟩, ⟨?_⟩, rfl⟩
          have hne : dist n h i2 ≠ dist n h x := fun e => cx (off_inj hh hi2n hx e)
          have := HX.out; have := HLT.out
          omega
end Go.Proofs.Ytmcaoecmjibegaa.PIx
namespace Go.Proofs.Ytmcaoecmjibegaa.PIx
open Go.RowKit Go.Proofs.YtmcaoecmjibegaaW.PrintWords Go.Proofs.YtmcaoecmjibegaaW.PrintLast Go.Proofs.YtmcaoecmjibegaaW.PrintMore

set_option maxHeartbeats 8000000 in
set_option maxRecDepth 100000 in
theorem rput_there {W : World} {g b : Nat} {room keys : Int} {bits : Nat} {pl : List S72} (key v : Int) (p : Nat) (h : Rt W g b room keys pl) (hf : Fit room keys bits pl) (he : Ends bits pl key p) (hu : us pl p = true) :
    Calls Try.prog 33 #[.pointer (some ⟨g, 0, none⟩), .int .u64 key, .int .i64 v] W fun e w' => e = .returned (.int .i64 81) ∧ ∃ m, w' = W.drewN m := by
  have XX := rfind_at key p h hf he
  rw [hu] at XX
  replace XX := Aside0.mk XX
  clear h hf he hu
  go_enter Try.func33, Try.ntmps33
  go_wp2_with (first | ((with_reducible refine gate_callee (f := 40) rfl ?_); refine goesL_ (some 12) rfl rfl Try.func40 (by kernel_rfl) rfl #[.pointer (some ⟨g, 0, none⟩), .int .u64 key] rfl (by (try simp only [List.map_toArray, List.map_cons, List.map_nil]); first | done | rfl) ?_; (with_reducible refine (XX.out).mono ?_); rintro e w4 ⟨rfl, m4, h4⟩; subst w4; refine ⟨_, rfl, ?_⟩))
  go_ret
  exact ⟨rfl, _, rfl⟩

set_option maxHeartbeats 8000000 in
set_option maxRecDepth 100000 in
theorem rput_full {W : World} {g b : Nat} {room keys : Int} {bits : Nat} {pl : List S72} (key v : Int) (p : Nat) (h : Rt W g b room keys pl) (hf : Fit room keys bits pl) (he : Ends bits pl key p) (hu : us pl p = false) (hk : keys = room) :
    Calls Try.prog 33 #[.pointer (some ⟨g, 0, none⟩), .int .u64 key, .int .i64 v] W fun e w' => e = .returned (.int .i64 80) ∧ ∃ m, w' = W.drewN m := by
  have XX := rfind_at key p h hf he
  rw [hu] at XX
  replace XX := Aside0.mk XX
  obtain ⟨c, ⟨hc0, hc1, hc3⟩, hfz, _⟩ := h.cells
  have ck1 : (keys == room) = true := beq_iff_eq.mpr hk
  clear h hf he hu hfz hk
  go_enter Try.func33, Try.ntmps33
  go_wp2_with (first | ((with_reducible refine gate_callee (f := 40) rfl ?_); refine goesL_ (some 12) rfl rfl Try.func40 (by kernel_rfl) rfl #[.pointer (some ⟨g, 0, none⟩), .int .u64 key] rfl (by (try simp only [List.map_toArray, List.map_cons, List.map_nil]); first | done | rfl) ?_; (with_reducible refine (XX.out).mono ?_); rintro e w4 ⟨rfl, m4, h4⟩; subst w4; refine ⟨_, rfl, ?_⟩))
  go_quiet (fail)
  go_wp2
  go_ret
  exact ⟨rfl, m4 + nq, by rw [World.drewN_drewN]⟩

set_option maxHeartbeats 8000000 in
set_option maxRecDepth 100000 in
theorem rput_done {W : World} {g b : Nat} {room keys : Int} {bits : Nat} {pl : List S72} (key v : Int) (p : Nat) (h : Rt W g b room keys pl) (hf : Fit room keys bits pl) (he : Ends bits pl key p) (hr : room ≤ 65536) (hu : us pl p = false) (hk : keys ≠ room) :
    Calls Try.prog 33 #[.pointer (some ⟨g, 0, none⟩), .int .u64 key, .int .i64 v] W fun e w' => e = .returned (.int .i64 0) ∧ Rt w' g b room (keys + 1) (pl.set p ⟨⟨true, key⟩, v⟩) ∧ Fr (fun k => k = g ∨ k = b) W w' := by
  have XX := rfind_at key p h hf he
  rw [hu] at XX
  replace XX := Aside0.mk XX
  obtain ⟨c, ⟨hc0, hc1, hc3⟩, hfz, _⟩ := h.cells
  have ck1 : (keys == room) = false := beq_eq_false_iff_ne.mpr hk
  have hn : pl.length ≤ 131072 := by rw [hf.len]; exact Nat.le_trans (Nat.pow_le_pow_right (by decide) hf.hb) (by decide)
  have hp := he.1
  have hk0 : 0 ≤ keys := by rw [hf.num]; omega
  have hk1 : keys ≤ 65536 := by have := hf.most; omega
  obtain ⟨n, hN⟩ : ∃ n, n = pl.length := ⟨_, rfl⟩
  have HN := Aside0.mk hN
  rw [← hN] at hc3 hn hp
  have HI := Aside0.mk h
  clear h hf he hu hfz hk hN hr
  go_enter Try.func33, Try.ntmps33
  go_wp2_with (first | ((with_reducible refine gate_callee (f := 40) rfl ?_); refine goesL_ (some 12) rfl rfl Try.func40 (by kernel_rfl) rfl #[.pointer (some ⟨g, 0, none⟩), .int .u64 key] rfl (by (try simp only [List.map_toArray, List.map_cons, List.map_nil]); first | done | rfl) ?_; (with_reducible refine (XX.out).mono ?_); rintro e w4 ⟨rfl, m4, h4⟩; subst w4; refine ⟨_, rfl, ?_⟩))
  go_quiet (fail)
  go_wp2_with (first | ((with_reducible refine gate_ (.store 79 (.tmp 33) (.tmp 32)) rfl ?_); refine Rt.store (W := W.drewN (m4 + nq)) (HI.out.keep rfl rfl) (.tmp 33) (.tmp 32) rfl rfl rfl p ⟨⟨true, key⟩, v⟩ _ rfl rfl rfl (by kernel_rfl) (by rw [← HN.out]; exact hp) ?_; intro w1 A1 A2; (obtain ⟨c7, ⟨hd0, hd1, hd3⟩, hfz7, _⟩ := A1.cells); have hf7 := hfz7 1; have B1 := Aside0.mk A1; have B2 := Aside0.mk A2; clear A1 A2 hd0 hd3 hfz7))
  go_ret
  refine ⟨rfl, B1.out.countSet _, ?_⟩
  exact (((Fr.refl (fun k => k = g ∨ k = b) W).drewN (m4 + nq)).trans B2.out (fun k hk => .inl (.inr hk))).setCell (p := ⟨g, 1, none⟩) (.inl (.inl rfl)) _

set_option maxHeartbeats 8000000 in
set_option maxRecDepth 100000 in
theorem rget_calls {W : World} {g b : Nat} {room keys : Int} {bits : Nat} {pl : List S72} (key : Int) (p : Nat) (h : Rt W g b room keys pl) {m1 k1 : Int} (hf : Fit m1 k1 bits pl) (he : Ends bits pl key p) :
    Calls Try.prog 34 #[.pointer (some ⟨g, 0, none⟩), .int .u64 key] W fun e w' => e = .returned (.tuple #[.int .i64 (vl pl p), .bool (us pl p)]) ∧ ∃ m, w' = W.drewN m := by
  have XX := Aside0.mk (rfind_at key p h hf he)
  obtain ⟨c, ⟨hc0, hc1, hc3⟩, hfz, _⟩ := h.cells
  have hp := he.1
  have hn : pl.length ≤ 131072 := by rw [hf.len]; exact Nat.le_trans (Nat.pow_le_pow_right (by decide) hf.hb) (by decide)
  obtain ⟨⟨_, _, p2⟩, pf⟩ := h.elem p hp
  rw [show (pa pl p).f1 = vl pl p from rfl] at p2
  obtain ⟨n, hN⟩ : ∃ n, n = pl.length := ⟨_, rfl⟩
  rw [← hN] at hc3 hn hp
  obtain ⟨x0, h0⟩ : ∃ x, x = us pl p := ⟨_, rfl⟩
  obtain ⟨x2, h2⟩ : ∃ x, x = vl pl p := ⟨_, rfl⟩
  rw [← h0] at XX ⊢
  rw [← h2] at p2 ⊢
  clear h hf he hfz hN h0 h2 pf
  go_enter Try.func34, Try.ntmps34
  go_wp2_with (first | ((with_reducible refine gate_callee (f := 40) rfl ?_); refine goesL_ (some 11) rfl rfl Try.func40 (by kernel_rfl) rfl #[.pointer (some ⟨g, 0, none⟩), .int .u64 key] rfl (by (try simp only [List.map_toArray, List.map_cons, List.map_nil]); first | done | rfl) ?_; (with_reducible refine (XX.out).mono ?_); rintro e w4 ⟨rfl, m4, h4⟩; subst w4; refine ⟨_, rfl, ?_⟩))
  try go_quiet (fail)
  try go_wp2
  go_ret2
  exact ⟨rfl, _, by first | rfl | exact World.drewN_drewN⟩

set_option maxHeartbeats 8000000 in
set_option maxRecDepth 100000 in
theorem rclear_calls {W : World} {g b0 : Nat} {room keys : Int} {bits : Nat} {pl : List S72} (h : Rt W g b0 room keys pl) (hl : pl.length = 2 ^ bits) (hb : bits ≤ 17) :
    Calls Try.prog 37 #[.pointer (some ⟨g, 0, none⟩)] W fun e W' => e = .returned (.tuple #[]) ∧ ∃ b, W.heap.size ≤ b ∧ Rt W' g b room 0 (List.replicate (2 ^ bits) z72) ∧ Fr (fun k => k = g) W W' := by
  obtain ⟨N, hN⟩ : ∃ N : Nat, N = 2 ^ bits := ⟨_, rfl⟩
  have hp : N ≤ 131072 := by rw [hN]; exact Nat.le_trans (Nat.pow_le_pow_right (by decide) hb) (by decide)
  have hp0 : 0 < N := by rw [hN]; exact Nat.pow_pos (by decide)
  have hg := h.lt
  obtain ⟨c, hh, _⟩ := h
  rw [List.length_map, hl, ← hN] at hh
  have hc2 : W.cell? ⟨g, 2, none⟩ = some (.slice (some ⟨b0, 0, none⟩) N c) := (blk_cell hh 2).trans rfl
  have HH := Aside0.mk hh
  rw [← hN]
  clear hh hN hl hb
  go_enter Try.func37, Try.ntmps37
  go_wp2_with (first | ((with_reducible refine gate_dst (N := 8) rfl ?_); refine Kd.R_make k79 _ 79 rfl (N := 8) rfl 34 _ _ rfl (N : Int) rfl rfl Try.underlying34 (.agg #[(.bool false), (.int .u64 0), (.int .i64 0)]) 24 info79 rfl (by decide) (by omega) z79 (ok := fun _ => True) (okp := fun _ => True) (k79_mkM _ _ _ z79) (fun _ hk => hk) trivial (by omega) (by omega) (Below.refl W.heap.size W) (Nat.le_refl _) ?_; intro v1 w1 ho hbel hgr hnew; rw [Int.toNat_natCast] at ho; obtain ⟨b, cap, rfl, hb0, hb1, cells, hcell⟩ := Kd.R_form ho (by rw [List.length_replicate]; exact hp0); have HH1 := Aside0.mk ((hbel.block g hg).trans HH.out); have hf2 := blk_frozen HH1.out 2; have hf1 := blk_frozen HH1.out 1; have hc1 : w1.cell? ⟨g, 1, none⟩ = some (.int .i64 keys) := (blk_cell HH1.out 1).trans rfl; have hc3 : w1.cell? ⟨g, 2, none⟩ = some (.slice (some ⟨b0, 0, none⟩) N c) := (blk_cell HH1.out 2).trans rfl; rw [List.length_replicate] at ho; rw [List.length_replicate]; have HO := Aside0.mk ho; have HB := Aside0.mk hbel; have HNW := Aside0.mk hnew; have HB0 := Aside0.mk hb0; clear ho hbel hgr hnew hb0 hb1 hcell))
  go_end0
  have hne : b ≠ g := by have := HB0.out; omega
  have h1 := blk_set HH1.out 2 (.slice (some ⟨b, 0, none⟩) N cap)
  have h2 := blk_set h1 1 (.int .i64 0)
  refine ⟨rfl, b, HB0.out, ⟨cap, ?_, ?_⟩, ?_⟩
  · rw [List.length_map, List.length_replicate]
    simpa using h2
  · rw [List.length_map, List.length_replicate, List.map_replicate, rf_zero]
    have hr := Kd.R_mono (ok' := fun k => k = b) (Kd.R_tight k79_E (Kd.R_lower HO.out (Nat.zero_le _))) (fun k hk => by simpa [Value.ownBlock] using hk)
    exact Kd.R_far (Kd.R_far hr (fun k hk => by rw [hk]; exact hne) _) (fun k hk => by rw [hk]; exact hne) _
  · exact (((Fr.refl (fun k => k = g) W).below HB.out).setCell (p := ⟨g, 2, none⟩) (.inl rfl) _).setCell (p := ⟨g, 1, none⟩) (.inl rfl) _
end Go.Proofs.Ytmcaoecmjibegaa.PIx
namespace Go.Proofs.Ytmcaoecmjibegaa.PIx
open Go.RowKit Go.Proofs.YtmcaoecmjibegaaW.PrintWords Go.Proofs.YtmcaoecmjibegaaW.PrintLast Go.Proofs.YtmcaoecmjibegaaW.PrintMore

set_option maxHeartbeats 8000000 in
set_option maxRecDepth 100000 in
theorem rdrop_none {W : World} {g b : Nat} {room keys : Int} {bits : Nat} {pl : List S72} (key : Int) (p : Nat) (h : Rt W g b room keys pl) {m1 k1 : Int} (hf : Fit m1 k1 bits pl) (he : Ends bits pl key p) (hu : us pl p = false) :
    Calls Try.prog 35 #[.pointer (some ⟨g, 0, none⟩), .int .u64 key] W fun e w' => e = .returned (.tuple #[.int .i64 0, .bool false]) ∧ ∃ m, w' = W.drewN m := by
  have XX := rfind_at key p h hf he
  rw [hu] at XX
  replace XX := Aside0.mk XX
  clear h hf he hu
  go_enter Try.func35, Try.ntmps35
  go_wp2_with (first | ((with_reducible refine gate_callee (f := 40) rfl ?_); refine goesL_ (some 14) rfl rfl Try.func40 (by kernel_rfl) rfl #[.pointer (some ⟨g, 0, none⟩), .int .u64 key] rfl (by (try simp only [List.map_toArray, List.map_cons, List.map_nil]); first | done | rfl) ?_; (with_reducible refine (XX.out).mono ?_); rintro e w4 ⟨rfl, m4, h4⟩; subst w4; refine ⟨_, rfl, ?_⟩))
  go_ret2
  exact ⟨rfl, _, rfl⟩

set_option maxHeartbeats 8000000 in
set_option maxRecDepth 100000 in
theorem rdrop_done {W : World} {g b : Nat} {room keys : Int} {bits : Nat} {pl : List S72} (key : Int) (p : Nat) (h : Rt W g b room keys pl) (hf : Fit room keys bits pl) (he : Ends bits pl key p) (hr : room ≤ 65536) (hu : us pl p = true) :
    Calls Try.prog 35 #[.pointer (some ⟨g, 0, none⟩), .int .u64 key] W fun e w' => e = .returned (.tuple #[.int .i64 (vl pl p), .bool true]) ∧ Rt w' g b room (keys - 1) (dropP bits pl p) ∧ Fr (fun k => k = g ∨ k = b) W w' := by
  have XX := rfind_at key p h hf he
  rw [hu] at XX
  replace XX := Aside0.mk XX
  obtain ⟨c, ⟨hc0, hc1, hc3⟩, hfz, _⟩ := h.cells
  have hn : pl.length ≤ 131072 := by rw [hf.len]; exact Nat.le_trans (Nat.pow_le_pow_right (by decide) hf.hb) (by decide)
  have hp := he.1
  have hk1 := hf.pos hp hu
  have hk2 : keys ≤ 65536 := by have := hf.most; omega
  obtain ⟨⟨_, _, p2⟩, pf⟩ := h.elem p hp
  have HI := Aside0.mk h
  have HF := Aside0.mk hf
  obtain ⟨u, hsh⟩ := hf.sh hp hu
  have HSH := Aside0.mk hsh
  obtain ⟨n, hN⟩ : ∃ n, n = pl.length := ⟨_, rfl⟩
  have HN := Aside0.mk hN
  rw [← hN] at hc3 hn hp
  rw [show (pa pl p).f1 = vl pl p from rfl] at p2
  obtain ⟨x2, h2⟩ : ∃ x, x = vl pl p := ⟨_, rfl⟩
  rw [← h2] at p2 ⊢
  obtain ⟨tgt, ht⟩ : ∃ t, t = dropP bits pl p := ⟨_, rfl⟩
  have HT := Aside0.mk ht
  rw [← ht]
  clear h hf he hN hfz pf hu hsh h2 ht hc0 hr
  go_enter Try.func35, Try.ntmps35
  go_wp2_with (first
    | ((with_reducible refine gate_callee (f := 40) rfl ?_); refine goesL_ (some 14) rfl rfl Try.func40 (by kernel_rfl) rfl #[.pointer (some ⟨g, 0, none⟩), .int .u64 key] rfl (by (try simp only [List.map_toArray, List.map_cons, List.map_nil]); first | done | rfl) ?_; (with_reducible refine (XX.out).mono ?_); rintro e w4 ⟨rfl, m4, h4⟩; subst w4; refine ⟨_, rfl, ?_⟩)
    | ((with_reducible refine gate_ (.store 79 (.tmp 33) (.tmp 32)) rfl ?_); refine Rt.store (W := W.drewN m4) (HI.out.keep rfl rfl) (.tmp 33) (.tmp 32) rfl rfl rfl p z72 _ rfl rfl rfl (by kernel_rfl) (by rw [← HN.out]; exact hp) ?_; intro w1 A1 A2; (obtain ⟨c7, ⟨hd0, hd1, hd3⟩, hfz7, _⟩ := A1.cells); have hf7 := hfz7 1; have B1 := Aside0.mk A1; have B2 := Aside0.mk (((Fr.refl (fun k => k = g ∨ k = b) W).drewN m4).trans A2 (fun k hk => .inl (.inr hk))); clear A1 A2 hd0 hd3 hfz7)
    | ((with_reducible refine gate_callee (f := 41) rfl ?_); refine goesL_ (some 43) rfl rfl Try.func41 (by kernel_rfl) rfl #[.pointer (some ⟨g, 0, none⟩), .int .i64 (p : Int)] rfl (by (try simp only [List.map_toArray, List.map_cons, List.map_nil]); first | done | rfl) ?_; (with_reducible refine (rnext_calls p (B1.out.countSet (keys - 1)) (by rw [List.length_set, ← HN.out]; assumption) (by rw [List.length_set, ← HN.out]; assumption)).mono ?_); rintro e5 w5 ⟨rfl, h5⟩; subst w5; refine ⟨_, rfl, ?_⟩; rw [List.length_set, ← HN.out]))
  have B3 : Aside0 (Rt (w1.setCell ⟨g, 1, none⟩ (.int .i64 (keys - 1))) g b room (keys - 1) (pl.set p z72)) := ⟨B1.out.countSet _⟩
  have B4 : Aside0 (Fr (fun k => k = g ∨ k = b) W (w1.setCell ⟨g, 1, none⟩ (.int .i64 (keys - 1)))) := ⟨B2.out.setCell (p := ⟨g, 1, none⟩) (.inl (.inl rfl)) _⟩
  clear p2 hc1 hc3 hf7 hd1
  go_loopg [6, 9] (dist n ((p + 1) % n) u) (fun kq v6 v8 w' => ∃ (h j f : Nat) (cur : List S72), v6 = .int .i64 (h : Int) ∧ v8 = .int .i64 (j : Int) ∧ h < n ∧ j < n ∧ Aside0 (cur.length = n) ∧ Aside0 (Sh bits cur h j u) ∧ Aside0 (kq = dist n j u ∧ kq ≤ f) ∧ Aside0 (shift bits f cur h j = tgt) ∧ Aside0 (Rt w' g b room (keys - 1) cur) ∧ Aside0 (Fr (fun k => k = g ∨ k = b) W w'))
  case atStart =>
    refine ⟨p, (p + 1) % n, n, pl.set p z72, rfl, rfl, hp, Nat.mod_lt _ (by omega), ⟨by rw [List.length_set, HN.out]⟩, ⟨by rw [HN.out]; exact HSH.out⟩, ⟨rfl, ?_⟩, ⟨by rw [HT.out, HN.out]; rfl⟩, B3, B4⟩
    have h1 := HSH.out.hu
    rw [List.length_set, ← HN.out] at h1
    exact Nat.le_of_lt (dist_lt (Nat.mod_lt _ (by omega)) h1)
  case round =>
    clear B1 B2 B3 B4
    obtain ⟨h, j, f, cur, rfl, rfl, hh, hj, HCL, HS, HK, HSF, HIX, HFR⟩ := hrel
    obtain ⟨c2, ⟨_, _, hd3⟩, _, _⟩ := HIX.out.cells
    rw [HCL.out] at hd3
    obtain ⟨⟨q0, q1, q2⟩, qf⟩ := HIX.out.elem j (by rw [HCL.out]; exact hj)
    obtain ⟨⟨r0, r1, r2⟩, qh⟩ := HIX.out.elem h (by rw [HCL.out]; exact hh)
    rw [show (pa cur j).f0.f0 = us cur j from rfl] at q0
    rw [show (pa cur j).f0.f1 = ky cur j from rfl] at q1
    rw [show (pa cur j).f1 = vl cur j from rfl] at q2
    have qh0 : wr.frozen? ⟨b, h * 3, none⟩ = false := qh 0
    have qh1 : wr.frozen? ⟨b, h * 3 + 1, none⟩ = false := qh 1
    have qh2 : wr.frozen? ⟨b, h * 3 + 2, none⟩ = false := qh 2
    clear qf qh
    obtain ⟨z0, hz0⟩ : ∃ y, y = (pa cur h).f0.f0 := ⟨_, rfl⟩
    obtain ⟨z1, hz1⟩ : ∃ y, y = (pa cur h).f0.f1 := ⟨_, rfl⟩
    obtain ⟨z2, hz2⟩ : ∃ y, y = (pa cur h).f1 := ⟨_, rfl⟩
    rw [← hz0] at r0
    rw [← hz1] at r1
    rw [← hz2] at r2
    clear hz0 hz1 hz2
    obtain ⟨y0, hy0⟩ : ∃ y, y = us cur j := ⟨_, rfl⟩
    obtain ⟨y1, hy1⟩ : ∃ y, y = ky cur j := ⟨_, rfl⟩
    obtain ⟨y2, hy2⟩ : ∃ y, y = vl cur j := ⟨_, rfl⟩
    rw [← hy0] at q0
    rw [← hy1] at q1
    rw [← hy2] at q2
    have HY0 := Aside0.mk hy0
    have HY1 := Aside0.mk hy1
    have HY2 := Aside0.mk hy2
    clear hy0 hy1 hy2
    cases y0 with
    | false =>
      go_wp2
      go_ret2
      refine ⟨rfl, ?_, HFR.out⟩
      have h1 : tgt = cur := by
        rw [← HSF.out]
        cases f with
        | zero => rfl
        | succ f => simp [shift, ← HY0.out]
      rw [h1]
      exact HIX.out
    | true =>
      have hnx := HS.out.dist_next HY0.out.symm
      rw [HCL.out] at hnx
      have HNX := Aside0.mk hnx
      obtain ⟨f1, rfl⟩ : ∃ f1, f = f1 + 1 := ⟨f - 1, by have := HK.out; omega⟩
      have hgk : gk = dist n ((j + 1) % n) u + 1 := by have := HK.out.1; omega
      obtain ⟨k1, hk1⟩ : ∃ k1, k1 = dist n ((j + 1) % n) u := ⟨_, rfl⟩
      have HK1 := Aside0.mk hk1
      rw [← hk1] at hgk
      subst hgk
      clear hk1 hnx
      have hhm : homeN bits y1 < n := by have := HS.out.home y1; rwa [HCL.out] at this
      obtain ⟨o, ho⟩ : ∃ o, o = homeN bits y1 := ⟨_, rfl⟩
      rw [← ho] at hhm
      have HO := Aside0.mk ho
      clear ho
      have X11 : Aside0 (Calls Try.prog 12 #[.pointer (some ⟨g, 0, none⟩), .int .u64 y1] wr fun e w' => e = .returned (.int .i64 (o : Int)) ∧ w' = wr) := ⟨by rw [HO.out]; exact rthome_calls y1 HIX.out (by rw [HCL.out, HN.out]; exact HF.out.len) HS.out.hb⟩
      have X29 : Aside0 (Calls Try.prog 42 #[.pointer (some ⟨g, 0, none⟩), .int .i64 (o : Int), .int .i64 (h : Int), .int .i64 (j : Int)] wr fun e w' => e = .returned (.bool (decide (Stays bits cur h j))) ∧ w' = wr) := ⟨by
        have h2 := rbehind_calls o h j HIX.out (by rw [HCL.out]; exact hn) (by rw [HCL.out]; exact hhm) (by rw [HCL.out]; exact hh) (by rw [HCL.out]; exact hj)
        have h3 : Stays bits cur h j = (0 < dist cur.length h o ∧ dist cur.length h o ≤ dist cur.length h j) := by unfold Stays; rw [← HY1.out, ← HO.out]
        simp only [h3]
        exact h2⟩
      by_cases cs : Stays bits cur h j
      · have CS := Aside0.mk cs
        have X29' : Aside0 (Calls Try.prog 42 #[.pointer (some ⟨g, 0, none⟩), .int .i64 (o : Int), .int .i64 (h : Int), .int .i64 (j : Int)] wr fun e w' => e = .returned (.bool true) ∧ w' = wr) := ⟨by have := X29.out; rwa [decide_eq_true cs] at this⟩
        clear cs X29
        go_wp2_with (first
          | ((with_reducible refine gate_callee (f := 12) rfl ?_); refine goesL_ (some 64) rfl rfl Try.func12 (by kernel_rfl) rfl #[.pointer (some ⟨g, 0, none⟩), .int .u64 y1] rfl (by (try simp only [List.map_toArray, List.map_cons, List.map_nil]); first | done | rfl) ?_; (with_reducible refine (X11.out).mono ?_); rintro e w4 ⟨rfl, h4⟩; subst w4; refine ⟨_, rfl, ?_⟩)
          | ((with_reducible refine gate_callee (f := 42) rfl ?_); refine goesL_ (some 69) rfl rfl Try.func42 (by kernel_rfl) rfl #[.pointer (some ⟨g, 0, none⟩), .int .i64 (o : Int), .int .i64 (h : Int), .int .i64 (j : Int)] rfl (by (try simp only [List.map_toArray, List.map_cons, List.map_nil]); first | done | rfl) ?_; (with_reducible refine (X29'.out).mono ?_); rintro e w4 ⟨rfl, h4⟩; subst w4; refine ⟨_, rfl, ?_⟩)
          | ((with_reducible refine gate_callee (f := 41) rfl ?_); refine goesL_ (some 54) rfl rfl Try.func41 (by kernel_rfl) rfl #[.pointer (some ⟨g, 0, none⟩), .int .i64 (j : Int)] rfl (by (try simp only [List.map_toArray, List.map_cons, List.map_nil]); first | done | rfl) ?_; (with_reducible refine (rnext_calls j HIX.out (by rw [HCL.out]; assumption) (by rw [HCL.out]; assumption)).mono ?_); rintro e5 w5 ⟨rfl, h5⟩; subst w5; refine ⟨_, rfl, ?_⟩; rw [HCL.out]))
        go_roundg k1
        case measure => omega
        case rel =>
          refine ⟨h, (j + 1) % n, f1, cur, rfl, rfl, hh, Nat.mod_lt _ (by omega), HCL, ⟨?_⟩, ⟨HK1.out, by have := HK.out.2; omega⟩, ⟨?_⟩, HIX, HFR⟩
          · have := HS.out.keep HY0.out.symm CS.out
            rwa [HCL.out] at this
          · have := HSF.out
            simp only [shift, ← HY0.out, CS.out, if_true, HCL.out] at this
            exact this
      · have CS := Aside0.mk cs
        have X29' : Aside0 (Calls Try.prog 42 #[.pointer (some ⟨g, 0, none⟩), .int .i64 (o : Int), .int .i64 (h : Int), .int .i64 (j : Int)] wr fun e w' => e = .returned (.bool false) ∧ w' = wr) := ⟨by have := X29.out; rwa [decide_eq_false cs] at this⟩
        clear cs X29
        go_wp2_with (first
          | ((with_reducible refine gate_callee (f := 12) rfl ?_); refine goesL_ (some 64) rfl rfl Try.func12 (by kernel_rfl) rfl #[.pointer (some ⟨g, 0, none⟩), .int .u64 y1] rfl (by (try simp only [List.map_toArray, List.map_cons, List.map_nil]); first | done | rfl) ?_; (with_reducible refine (X11.out).mono ?_); rintro e w4 ⟨rfl, h4⟩; subst w4; refine ⟨_, rfl, ?_⟩)
          | ((with_reducible refine gate_callee (f := 42) rfl ?_); refine goesL_ (some 69) rfl rfl Try.func42 (by kernel_rfl) rfl #[.pointer (some ⟨g, 0, none⟩), .int .i64 (o : Int), .int .i64 (h : Int), .int .i64 (j : Int)] rfl (by (try simp only [List.map_toArray, List.map_cons, List.map_nil]); first | done | rfl) ?_; (with_reducible refine (X29'.out).mono ?_); rintro e w4 ⟨rfl, h4⟩; subst w4; refine ⟨_, rfl, ?_⟩))
        have K3 : Aside0 (∃ w3, w3 = World.drew (((wr.setCell ⟨b, h * 3, none⟩ (.bool true)).setCell ⟨b, h * 3 + 1, none⟩ (.int .u64 y1)).setCell ⟨b, h * 3 + 2, none⟩ (.int .i64 y2)) ∧ Rt w3 g b room (keys - 1) (cur.set h (pa cur j)) ∧ Fr (fun k => k = g ∨ k = b) W w3) := ⟨by
          have hy : pa cur j = ⟨⟨true, y1⟩, y2⟩ := by
            have e0 := HY0.out; have e1 := HY1.out; have e2 := HY2.out
            unfold us at e0; unfold ky at e1; unfold vl at e2
            rw [e0, e1, e2]
          obtain ⟨m1, m2⟩ := HIX.out.moved h j (by rw [HCL.out]; exact hh) y1 y2 hy
          exact ⟨_, rfl, m1, HFR.out.trans m2 (fun k hk => .inl (.inr hk))⟩⟩
        go_region
        all_goals (obtain ⟨w3, hw3, A1, A2⟩ := K3.out; rw [← hw3]; (obtain ⟨c3, ⟨_, _, hd4⟩, _, _⟩ := A1.cells); rw [List.length_set, HCL.out] at hd4; have B1 := Aside0.mk A1; have B2 := Aside0.mk A2; clear hw3 A1 A2 K3 hd3 q0 q1 q2 r0 r1 r2 qh0 qh1 qh2)
        all_goals go_wp2_with (first
          | ((with_reducible refine gate_ (.store 79 (.tmp 90) (.tmp 89)) rfl ?_); refine Rt.store (W := w3) B1.out (.tmp 90) (.tmp 89) rfl rfl rfl j z72 _ rfl rfl rfl (by kernel_rfl) (by rw [List.length_set, HCL.out]; exact hj) ?_; intro w5 A1 A2; (obtain ⟨c7, ⟨_, _, hd7⟩, _, _⟩ := A1.cells); rw [List.length_set, List.length_set, HCL.out] at hd7; have B3 := Aside0.mk A1; have B4 := Aside0.mk (B2.out.trans A2 (fun k hk => .inl (.inr hk))); clear A1 A2)
          | ((with_reducible refine gate_callee (f := 41) rfl ?_); refine goesL_ (some 54) rfl rfl Try.func41 (by kernel_rfl) rfl #[.pointer (some ⟨g, 0, none⟩), .int .i64 (j : Int)] rfl (by (try simp only [List.map_toArray, List.map_cons, List.map_nil]); first | done | rfl) ?_; (with_reducible refine (rnext_calls j B3.out (by rw [List.length_set, List.length_set, HCL.out]; assumption) (by rw [List.length_set, List.length_set, HCL.out]; assumption)).mono ?_); rintro e5 w6 ⟨rfl, h5⟩; subst w6; refine ⟨_, rfl, ?_⟩; rw [List.length_set, List.length_set, HCL.out]))
        all_goals go_roundg k1
        case measure => omega
        case rel =>
          refine ⟨j, (j + 1) % n, f1, mv cur h j, rfl, rfl, hj, Nat.mod_lt _ (by omega), ⟨by rw [mv_len]; exact HCL.out⟩, ⟨?_⟩, ⟨HK1.out, by have := HK.out.2; omega⟩, ⟨?_⟩, B3, B4⟩
          · have := HS.out.move HY0.out.symm CS.out
            rwa [HCL.out] at this
          · have := HSF.out
            simp only [shift, ← HY0.out, CS.out, if_true, if_false, HCL.out] at this
            exact this
end Go.Proofs.Ytmcaoecmjibegaa.PIx
namespace Go.Proofs.Ytmcaoecmjibegaa.PIx
open Go.RowKit Go.Proofs.YtmcaoecmjibegaaW.PrintWords Go.Proofs.YtmcaoecmjibegaaW.PrintLast Go.Proofs.YtmcaoecmjibegaaW.PrintMore

/-- A list of the document's places, in memory of its own. -/
def Er (w : World) (base : Nat) (v : Value) (l : List S72) : Prop := k79.R 79 w base (fun k => v.ownBlock = some k) v (l.map rf)

namespace Er
variable {w w' : World} {base : Nat} {v : Value} {l : List S72}
theorem tight {ok : Nat → Prop} (h : k79.R 79 w base ok v (l.map rf)) : Er w base v l := Kd.R_mono (Kd.R_tight k79_E h) (fun k hk => hk.symm)
theorem form (h : Er w base v l) : ∃ A c, v = .slice A l.length c := by
  obtain ⟨A, c, hv⟩ := Kd.R_slice h
  rw [List.length_map] at hv
  exact ⟨A, c, hv⟩
theorem keep (h : Er w base v l) (hk : ∀ k, base ≤ k → k < w.heap.size → w'.heap[k]? = w.heap[k]?) : Er w' base v l :=
  Kd.R_move h (fun k hv => hk k (Kd.R_base h k hv) (Kd.R_lt h k hv))
theorem below (h : Er w base v l) (k : Below w.heap.size w w') : Er w' base v l := h.keep (fun i _ hl => k.block i hl)
theorem elem {c cap n : Nat} (h : Er w base (.slice (some ⟨c, 0, none⟩) n cap) l) (i : Nat) (hi : i < l.length) :
    (w.cell? ⟨c, i * 3, none⟩ = some (.bool (pa l i).f0.f0) ∧ w.cell? ⟨c, i * 3 + 1, none⟩ = some (.int .u64 (pa l i).f0.f1) ∧ w.cell? ⟨c, i * 3 + 2, none⟩ = some (.int .i64 (pa l i).f1)) ∧
      (w.frozen? ⟨c, i * 3, none⟩ = false ∧ w.frozen? ⟨c, i * 3 + 1, none⟩ = false ∧ w.frozen? ⟨c, i * 3 + 2, none⟩ = false) := by
  have hn : n = l.length := by
    obtain ⟨A, c', hv⟩ := h.form
    injection hv
  obtain ⟨cs, hl, hM, hc, hf⟩ := Kd.R_elem h z79 (i : Int) (by omega) (by omega)
  have hcs := k79_openM hM
  subst hcs
  simp only [Int.toNat_natCast] at hc hf
  have e : (l.map rf).getD i z79 = rf (pa l i) := by
    rw [List.getD_eq_getElem?_getD, List.getElem?_eq_getElem (by rw [List.length_map]; exact hi), pa, List.getD_eq_getElem?_getD, List.getElem?_eq_getElem hi]
    simp
  rw [e] at hc
  exact ⟨⟨hc 0 _ rfl, hc 1 _ rfl, hc 2 _ rfl⟩, hf 0, hf 1, hf 2⟩
theorem head (h : Er w base v l) (hp : 0 < l.length) : ∃ c cap, v = .slice (some ⟨c, 0, none⟩) l.length cap ∧ base ≤ c ∧ c < w.heap.size := by
  obtain ⟨c, cap, hv, h0, h1, _⟩ := Kd.R_form h (by rw [List.length_map]; exact hp)
  rw [List.length_map] at hv
  exact ⟨c, cap, hv, h0, h1⟩
theorem set3 {c cap n : Nat} (h : Er w base (.slice (some ⟨c, 0, none⟩) n cap) l) (i : Nat) (x' : S72) (hi : i < l.length) :
    Er (((w.setCell ⟨c, i * 3, none⟩ (.bool x'.f0.f0)).setCell ⟨c, i * 3 + 1, none⟩ (.int .u64 x'.f0.f1)).setCell ⟨c, i * 3 + 2, none⟩ (.int .i64 x'.f1)) base (.slice (some ⟨c, 0, none⟩) n cap) (l.set i x') := by
  have hn : n = l.length := by
    obtain ⟨A, c', hv⟩ := h.form
    injection hv
  obtain ⟨cs, hl, hM, hc, hf⟩ := Kd.R_elem h z79 (i : Int) (by omega) (by omega)
  simp only [Int.toNat_natCast] at hc
  have hs3 : k79.sz = 3 := rfl
  have h6 : cs.drop 3 = [] := List.drop_eq_nil_of_le (by rw [hl, hs3]; exact Nat.le_refl _)
  have h5 : k79.M w base (fun _ => False) (rf x') [.bool x'.f0.f0, .int .u64 x'.f0.f1, .int .i64 x'.f1] := k79_mkM w base (fun _ => False) (rf x')
  obtain ⟨h1, h3⟩ := Kd.R_seg h (i : Int) (by omega) (by omega) (c := cs) (seg := [.bool x'.f0.f0, .int .u64 x'.f0.f1, .int .i64 x'.f1]) (j := 0) (x' := rf x') (okp := fun _ => False) hl (by simpa using hc) (by simp [hs3]) (by simpa [h6] using h5) (fun _ hk => hk.elim)
  have h7 : w.setCells c ((i : Int).toNat * k79.sz + 0) [.bool x'.f0.f0, .int .u64 x'.f0.f1, .int .i64 x'.f1] = (((w.setCell ⟨c, i * 3, none⟩ (.bool x'.f0.f0)).setCell ⟨c, i * 3 + 1, none⟩ (.int .u64 x'.f0.f1)).setCell ⟨c, i * 3 + 2, none⟩ (.int .i64 x'.f1)) := rfl
  rw [h7] at h1
  unfold Er
  rw [List.map_set]
  simpa using h1
/-- append of one, in a plain region. -/
theorem append1_any {ops : Array Oper} {rest : List Oper} {o : Oper} {a : Act} {Q : Exit → Act → World → Prop} {Wx : World} {B : Nat} {v : Value} {xs : List S72} {y0 : Bool} {y1 y2 : Int}
    (hgd : o.guard = none) (s x : Operand) (ho : o.op = .call { callee := .builtin .append, args := #[s, x], argTypes := #[34, 34] }) (hs : a.eval s = v) (hx : a.eval x = .slice (some ⟨Wx.heap.size, 0, none⟩) 1 1)
    (HO : Er Wx B v xs) (hbase : B ≤ Wx.heap.size) (hl : xs.length ≤ 262144)
    (h : ∀ v1 w1, Er w1 B v1 (xs ++ [⟨⟨y0, y1⟩, y2⟩]) → Below B Wx w1 → wpList Try.prog ops Q rest (a.put o.dst v1) w1) :
    wpList Try.prog ops Q (o :: rest) a (Wx.alloc (.cells #[.bool y0, .int .u64 y1, .int .i64 y2] 79)) := by
  refine Kd.R_append k79 (w0 := Wx) B hgd s x 34 79 _ 24 ho Try.underlying34 info79 rfl (by decide) (by decide) v (xs.map rf) ⟨y0, y1, y2⟩ [.bool y0, .int .u64 y1, .int .i64 y2] (fun k => B ≤ k) (fun _ => False) hs hx (k79_mkM _ _ _ _) (fun _ hk => hk.elim) (fun k hk => by omega)
    (Kd.R_mono HO (fun k hk => Kd.R_base HO k hk)) (Below.refl _ _) hbase (by rw [List.length_map]; omega) ?_
  intro v1 w1 h1 h2 h3 h4
  refine h v1 w1 (Er.tight (ok := fun k => B ≤ k) ?_) h2
  rw [List.map_append]
  exact h1
theorem nil (w : World) (base : Nat) : Er w base (.slice none 0 0) [] := Kd.R_nil _ _ _ _ _
end Er

/-- A place has sunk so far: those behind it stand above it, those ahead and behind are the sorted ones. -/
structure Snk (l0 cur : List S72) (y : S72) (k : Nat) : Prop where
  eq : ∃ A B, cur = A ++ y :: B ∧ A ++ B = l0 ∧ A.length = k ∧ ∀ b ∈ B, y.f0.f1 < b.f0.f1

theorem Snk.start (l0 : List S72) (y : S72) : Snk l0 (l0 ++ [y]) y l0.length := ⟨l0, [], rfl, by simp, rfl, by simp⟩
theorem Snk.len {l0 cur : List S72} {y : S72} {k : Nat} (h : Snk l0 cur y k) : cur.length = l0.length + 1 ∧ k ≤ l0.length := by
  obtain ⟨A, B, rfl, rfl, rfl, _⟩ := h.eq
  simp
  omega
theorem Snk.at_ {l0 cur : List S72} {y : S72} {k : Nat} (h : Snk l0 cur y k) : pa cur k = y := by
  obtain ⟨A, B, rfl, rfl, rfl, _⟩ := h.eq
  simp [pa]
theorem Snk.step {l0 cur : List S72} {y : S72} {k : Nat} (h : Snk l0 cur y (k + 1)) (hlt : y.f0.f1 < (pa cur k).f0.f1) : Snk l0 ((cur.set (k + 1) (pa cur k)).set k y) y k := by
  obtain ⟨A, B, rfl, rfl, hA, hB⟩ := h.eq
  obtain ⟨A', a, rfl⟩ : ∃ A' a, A = A' ++ [a] := ⟨A.dropLast, A.getLast (by intro e; rw [e] at hA; simp at hA), (List.dropLast_concat_getLast _).symm⟩
  have hk : A'.length = k := by simp at hA; omega
  subst hk
  have e1 : pa (A' ++ [a] ++ y :: B) A'.length = a := by simp [pa]
  rw [e1] at hlt ⊢
  refine ⟨A', a :: B, ?_, by simp, rfl, ?_⟩
  · simp [List.set_append]
  · intro b hb
    rcases List.mem_cons.1 hb with rfl | hb
    · exact hlt
    · exact hB b hb
theorem Snk.done {l0 cur : List S72} {y : S72} {k : Nat} (h : Snk l0 cur y k) (hs : l0.Pairwise (fun a b => a.f0.f1 ≤ b.f0.f1)) (hk : k = 0 ∨ ∃ j, k = j + 1 ∧ (pa cur j).f0.f1 ≤ y.f0.f1) :
    cur.Perm (l0 ++ [y]) ∧ cur.Pairwise (fun a b => a.f0.f1 ≤ b.f0.f1) := by
  obtain ⟨A, B, rfl, rfl, hA, hB⟩ := h.eq
  refine ⟨?_, ?_⟩
  · refine (List.perm_append_comm_assoc A [y] B).trans ?_
    exact List.perm_append_comm (l₁ := [y]) (l₂ := A ++ B)
  · rw [List.pairwise_append] at hs ⊢
    obtain ⟨hs1, hs2, hs3⟩ := hs
    have hay : ∀ a ∈ A, a.f0.f1 ≤ y.f0.f1 := by
      intro a ha
      rcases hk with hk | ⟨j, hk, hj⟩
      · rw [hk] at hA
        rw [List.eq_nil_of_length_eq_zero hA] at ha
        cases ha
      · obtain ⟨A', a', rfl⟩ : ∃ A' a, A = A' ++ [a] := ⟨A.dropLast, A.getLast (by intro e; rw [e] at hA; simp at hA; omega), (List.dropLast_concat_getLast _).symm⟩
        have hj' : A'.length = j := by simp at hA; omega
        subst hj'
        have e1 : pa (A' ++ [a'] ++ y :: B) A'.length = a' := by simp [pa]
        rw [e1] at hj
        rw [List.pairwise_append] at hs1
        rcases List.mem_append.1 ha with h1 | h1
        · exact Int.le_trans (hs1.2.2 a h1 a' (by simp)) hj
        · rw [List.mem_singleton.1 h1]; exact hj
    refine ⟨hs1, List.pairwise_cons.2 ⟨fun b hb => Int.le_of_lt (hB b hb), hs2⟩, ?_⟩
    intro a ha b hb
    rcases List.mem_cons.1 hb with rfl | hb
    · exact hay a ha
    · exact hs3 a ha b hb

set_option maxHeartbeats 8000000 in
set_option maxRecDepth 100000 in
theorem rkeys_calls {W : World} {g b : Nat} {room count : Int} {pl : List S72} (h : Rt W g b room count pl) (hl : pl.length ≤ 131072) :
    Calls Try.prog 43 #[.pointer (some ⟨g, 0, none⟩)] W fun e w' => ∃ v l, e = .returned v ∧ Srt pl l ∧ Er w' W.heap.size v l ∧ Below W.heap.size W w' := by
  obtain ⟨c, ⟨_, _, hc3⟩, hfz, _⟩ := h.cells
  have HI := Aside0.mk h
  obtain ⟨m, hm⟩ : ∃ m, m = pl.length := ⟨_, rfl⟩
  rw [← hm] at hc3 hl
  have HM := Aside0.mk hm
  clear h hm hfz
  go_enter Try.func43, Try.ntmps43
  go_wp2
  go_loopg [3, 4] m (fun kq v3 v4 w' => ∃ (i q : Nat) (A : Option Addr) (cp : Nat) (out : List S72), v3 = .slice A q cp ∧ v4 = .int .i64 (i : Int) ∧ i ≤ m ∧ q ≤ i ∧ Aside0 (kq + i = m) ∧ Aside0 (out.length = q) ∧ Aside0 (Srt (pl.take i) out) ∧ Aside0 (Er w' W.heap.size (.slice A q cp) out) ∧ Aside0 (Below W.heap.size W w'))
  case atStart => exact ⟨0, 0, none, 0, [], rfl, rfl, Nat.zero_le _, Nat.le_refl _, ⟨by omega⟩, ⟨rfl⟩, ⟨List.Perm.refl _, List.Pairwise.nil⟩, ⟨Er.nil _ _⟩, ⟨Below.refl _ _⟩⟩
  case round =>
    clear hc3
    obtain ⟨i, q, A, cp, out, rfl, rfl, him, hqi, HK, HQ, HSR, HN, HB⟩ := hrel
    have HIr : Aside0 (Rt wr g b room count pl) := ⟨HI.out.keep (HB.out.block g HI.out.lt) (HB.out.block b HI.out.ltb)⟩
    obtain ⟨c, ⟨_, _, hc3⟩, _, _⟩ := HIr.out.cells
    rw [← HM.out] at hc3
    by_cases hi : i < m
    · obtain ⟨k1, rfl⟩ : ∃ k1, gk = k1 + 1 := ⟨gk - 1, by have := HK.out; omega⟩
      have hi' : i < pl.length := by rw [← HM.out]; exact hi
      obtain ⟨⟨p0, p1, p2⟩, _⟩ := HIr.out.elem i hi'
      have HT : Aside0 (used (pl.take (i + 1)) = used (pl.take i) ++ (if us pl i = true then [pa pl i] else [])) := ⟨used_take pl i hi'⟩
      have HP : Aside0 (pa pl i = ⟨⟨us pl i, (pa pl i).f0.f1⟩, (pa pl i).f1⟩) := ⟨rfl⟩
      rw [show (pa pl i).f0.f0 = us pl i from rfl] at p0
      obtain ⟨x1, h1⟩ : ∃ x, x = (pa pl i).f0.f1 := ⟨_, rfl⟩
      obtain ⟨x2, h2⟩ : ∃ x, x = (pa pl i).f1 := ⟨_, rfl⟩
      rw [← h1] at p1
      rw [← h2] at p2
      rw [← h1, ← h2] at HP
      have HLQ : Aside0 (out.length ≤ 262144) := ⟨by rw [HQ.out]; omega⟩
      clear h1 h2 hi'
      cases hu : us pl i with
      | true =>
        rw [hu] at p0
        have HU := Aside0.mk hu
        clear hu
        go_wp2_with (first
          | ((with_reducible refine gate_builtin (b := .append) rfl ?_); refine Er.append1_any (Wx := wr) (B := W.heap.size) (v := .slice A q cp) (xs := out) (y0 := true) (y1 := x1) (y2 := x2) (hgd := ?_) (s := .tmp 26) (x := .tmp 34) (ho := ?_) (hs := ?_) (hx := ?_) (HO := HN.out) (hbase := HB.out.size) (hl := HLQ.out) ?_; exact rfl; exact rfl; exact rfl; exact rfl; intro v1 w2 m1 m2; have M1 := Aside0.mk m1; have M2 := Aside0.mk (HB.out.trans m2); clear m1 m2; obtain ⟨c3, cap3, hv, hb3, hc3⟩ := M1.out.head (by simp); have hlen : (out ++ ([⟨⟨true, x1⟩, x2⟩] : List S72)).length = q + 1 := (by rw [List.length_append, List.length_singleton, HQ.out]); rw [hlen] at hv; have HLEN := Aside0.mk hlen; clear hlen hb3 hc3; subst hv))
        clear p0 p1 p2 hc3
        go_loopg [5] q (fun kq v5 w' => ∃ (k : Nat) (cur : List S72), v5 = .int .i64 (k : Int) ∧ k ≤ q ∧ Aside0 (kq = k) ∧ Aside0 (Snk out cur ⟨⟨true, x1⟩, x2⟩ k) ∧ Aside0 (Er w' W.heap.size (.slice (some ⟨c3, 0, none⟩) (q + 1) cap3) cur) ∧ Aside0 (Below W.heap.size W w'))
        case atStart => exact ⟨q, _, rfl, Nat.le_refl _, ⟨rfl⟩, ⟨by have := Snk.start out ⟨⟨true, x1⟩, x2⟩; rwa [HQ.out] at this⟩, M1, M2⟩
        case round =>
          clear M1 M2
          obtain ⟨k, cur, rfl, hkq, HKK, HSK, M1, M2⟩ := hrel
          have HEND : Aside0 ((k = 0 ∨ ∃ j, k = j + 1 ∧ (pa cur j).f0.f1 ≤ x1) → Srt (pl.take (i + 1)) cur ∧ cur.length = q + 1) := ⟨fun hk => by
            obtain ⟨d1, d2⟩ := HSK.out.done HSR.out.2 hk
            refine ⟨⟨d1.trans ?_, d2⟩, by rw [HSK.out.len.1, HQ.out]⟩
            rw [HT.out, if_pos HU.out, HP.out, HU.out]
            exact HSR.out.1.append_right _⟩
          rcases Nat.eq_zero_or_pos k with hk0 | hk0
          · subst hk0
            go_wp2_with (fail)
            go_quiet (fail)
            go_wp2
            go_roundg k1
            case measure => omega
            case rel => exact ⟨i + 1, q + 1, some ⟨c3, 0, none⟩, cap3, cur, rfl, rfl, by omega, by omega, ⟨by have := HK.out; omega⟩, ⟨(HEND.out (.inl (by first | rfl | trivial))).2⟩, ⟨(HEND.out (.inl (by first | rfl | trivial))).1⟩, ⟨M1.out.below (below_drewN (Below.refl _ _) _)⟩, ⟨below_drewN M2.out _⟩⟩
          · obtain ⟨j, rfl⟩ : ∃ j, k = j + 1 := ⟨k - 1, by omega⟩
            have hlen : cur.length = q + 1 := by rw [HSK.out.len.1, HQ.out]
            obtain ⟨⟨a0, a1, a2⟩, af0, af1, af2⟩ := M1.out.elem (j + 1) (by omega)
            obtain ⟨⟨b0, b1, b2⟩, bf0, bf1, bf2⟩ := M1.out.elem j (by omega)
            rw [HSK.out.at_] at a0 a1 a2
            dsimp only at a0 a1 a2
            obtain ⟨z0, hz0⟩ : ∃ z, z = (pa cur j).f0.f0 := ⟨_, rfl⟩
            obtain ⟨z1, hz1⟩ : ∃ z, z = (pa cur j).f0.f1 := ⟨_, rfl⟩
            obtain ⟨z2, hz2⟩ : ∃ z, z = (pa cur j).f1 := ⟨_, rfl⟩
            rw [← hz0] at b0
            rw [← hz1] at b1
            rw [← hz2] at b2
            have HZ : Aside0 (pa cur j = ⟨⟨z0, z1⟩, z2⟩) := ⟨by rw [hz0, hz1, hz2]⟩
            have HL := Aside0.mk hlen
            clear hz0 hz1 hz2 hlen
            have w1 : IntKind.i64.wrap ((j : Int) + 1 - 1) = (j : Int) := (IntWalk.i64_in ((j : Int) + 1 - 1) (by omega)).trans (by omega)
            have w2 : ((j : Int) + 1).toNat = j + 1 := by omega
            have w3 : decide ((0 : Int) < (j : Int) + 1) = true := decide_eq_true (by omega)
            have w4 : ((j + 1 : Nat) : Int) = (j : Int) + 1 := by omega
            by_cases hlt : x1 < z1
            · have d1 : decide (x1 < z1) = true := decide_eq_true hlt
              rw [w4]
              clear w4
              go_wp2_with (fail)
              go_quiet (fail)
              go_wp2_with (fail)
              have hgk := HKK.out
              subst hgk
              have HSK2 : Aside0 (Snk out ((cur.set (j + 1) (pa cur j)).set j ⟨⟨true, x1⟩, x2⟩) ⟨⟨true, x1⟩, x2⟩ j) := ⟨HSK.out.step (by rw [HZ.out]; exact hlt)⟩
              obtain ⟨w2, hw2⟩ : ∃ w2, w2 = wr.drewN nq := ⟨_, rfl⟩
              have a0' : w2.cell? ⟨c3, (j + 1) * 3, none⟩ = some (.bool true) := by rw [hw2]; exact a0
              have a1' : w2.cell? ⟨c3, (j + 1) * 3 + 1, none⟩ = some (.int .u64 x1) := by rw [hw2]; exact a1
              have a2' : w2.cell? ⟨c3, (j + 1) * 3 + 2, none⟩ = some (.int .i64 x2) := by rw [hw2]; exact a2
              have b0' : w2.cell? ⟨c3, j * 3, none⟩ = some (.bool z0) := by rw [hw2]; exact b0
              have b1' : w2.cell? ⟨c3, j * 3 + 1, none⟩ = some (.int .u64 z1) := by rw [hw2]; exact b1
              have b2' : w2.cell? ⟨c3, j * 3 + 2, none⟩ = some (.int .i64 z2) := by rw [hw2]; exact b2
              have af0' : w2.frozen? ⟨c3, (j + 1) * 3, none⟩ = false := by rw [hw2]; exact af0
              have af1' : w2.frozen? ⟨c3, (j + 1) * 3 + 1, none⟩ = false := by rw [hw2]; exact af1
              have af2' : w2.frozen? ⟨c3, (j + 1) * 3 + 2, none⟩ = false := by rw [hw2]; exact af2
              have bf0' : w2.frozen? ⟨c3, j * 3, none⟩ = false := by rw [hw2]; exact bf0
              have bf1' : w2.frozen? ⟨c3, j * 3 + 1, none⟩ = false := by rw [hw2]; exact bf1
              have bf2' : w2.frozen? ⟨c3, j * 3 + 2, none⟩ = false := by rw [hw2]; exact bf2
              have M3 : Aside0 (Er w2 W.heap.size (.slice (some ⟨c3, 0, none⟩) (q + 1) cap3) cur) := ⟨by rw [hw2]; exact M1.out.below (below_drewN (Below.refl _ _) _)⟩
              have M4 : Aside0 (Below W.heap.size W w2) := ⟨by rw [hw2]; exact below_drewN M2.out _⟩
              have HC3 : Aside0 (W.heap.size ≤ c3) := ⟨by
                obtain ⟨c9, cap9, hv, hb9, _⟩ := M3.out.head (by rw [HL.out]; omega)
                injection hv with e1
                injection e1 with e1
                injection e1 with e1
                rw [e1]; exact hb9⟩
              rw [← hw2]
              clear hw2 a0 a1 a2 b0 b1 b2 af0 af1 af2 bf0 bf1 bf2 M1 M2 d1 w3 hlt hk0
              have K3 : Aside0 (∃ w3, w3 = World.drew ((((((w2.setCell ⟨c3, (j + 1) * 3, none⟩ (.bool z0)).setCell ⟨c3, (j + 1) * 3 + 1, none⟩ (.int .u64 z1)).setCell ⟨c3, (j + 1) * 3 + 2, none⟩ (.int .i64 z2)).setCell ⟨c3, j * 3, none⟩ (.bool true)).setCell ⟨c3, j * 3 + 1, none⟩ (.int .u64 x1)).setCell ⟨c3, j * 3 + 2, none⟩ (.int .i64 x2)) ∧ Er w3 W.heap.size (.slice (some ⟨c3, 0, none⟩) (q + 1) cap3) ((cur.set (j + 1) (pa cur j)).set j ⟨⟨true, x1⟩, x2⟩) ∧ Below W.heap.size W w3) := ⟨by
                refine ⟨_, rfl, ?_, ?_⟩
                · rw [HZ.out]
                  exact ((M3.out.set3 (j + 1) ⟨⟨z0, z1⟩, z2⟩ (by rw [HL.out]; omega)).set3 j ⟨⟨true, x1⟩, x2⟩ (by rw [List.length_set, HL.out]; omega)).below (below_drewN (Below.refl _ _) 1)
                · have h2 := M4.out
                  have hc := HC3.out
                  exact below_drewN ((((((h2.setCell (p := ⟨c3, (j + 1) * 3, none⟩) hc (.bool z0)).setCell (p := ⟨c3, (j + 1) * 3 + 1, none⟩) hc (.int .u64 z1)).setCell (p := ⟨c3, (j + 1) * 3 + 2, none⟩) hc (.int .i64 z2)).setCell (p := ⟨c3, j * 3, none⟩) hc (.bool true)).setCell (p := ⟨c3, j * 3 + 1, none⟩) hc (.int .u64 x1)).setCell (p := ⟨c3, j * 3 + 2, none⟩) hc (.int .i64 x2)) 1⟩
              go_region
              all_goals (obtain ⟨w4, hw4, A1, A2⟩ := K3.out; rw [← hw4]; have B1 := Aside0.mk A1; have B2 := Aside0.mk A2; clear hw4 A1 A2 K3 a0' a1' a2' b0' b1' b2' af0' af1' af2' bf0' bf1' bf2')
              all_goals go_wp2
              all_goals go_roundg j
              case measure => omega
              case rel => exact ⟨j, _, rfl, by omega, ⟨rfl⟩, HSK2, B1, B2⟩
            · have d1 : decide (x1 < z1) = false := decide_eq_false hlt
              rw [w4]
              clear w4
              have HE2 : Aside0 (Srt (pl.take (i + 1)) cur ∧ cur.length = q + 1) := ⟨HEND.out (.inr ⟨j, rfl, by rw [HZ.out]; exact Int.not_lt.1 hlt⟩)⟩
              clear hlt
              go_wp2_with (fail)
              go_quiet (fail)
              go_wp2
              go_roundg k1
              case measure => omega
              case rel => exact ⟨i + 1, q + 1, some ⟨c3, 0, none⟩, cap3, cur, rfl, rfl, by omega, by omega, ⟨by have := HK.out; omega⟩, ⟨HE2.out.2⟩, ⟨HE2.out.1⟩, ⟨M1.out.below (below_drewN (Below.refl _ _) _)⟩, ⟨below_drewN M2.out _⟩⟩
      | false =>
        rw [hu] at p0
        have HU := Aside0.mk hu
        clear hu
        go_wp2
        go_roundg k1
        case measure => omega
        case rel =>
          have e : used (pl.take (i + 1)) = used (pl.take i) := by rw [HT.out, if_neg (by rw [HU.out]; decide), List.append_nil]
          exact ⟨i + 1, q, A, cp, out, rfl, rfl, by omega, by omega, ⟨by have := HK.out; omega⟩, HQ, ⟨by unfold Srt; rw [e]; exact HSR.out⟩, HN, HB⟩
    · obtain rfl : i = m := by omega
      go_wp2
      go_ret
      refine ⟨_, out, rfl, ?_, HN.out, HB.out⟩
      have e : pl.take i = pl := by rw [HM.out]; exact List.take_length
      have := HSR.out
      rwa [e] at this
end Go.Proofs.Ytmcaoecmjibegaa.PIx
