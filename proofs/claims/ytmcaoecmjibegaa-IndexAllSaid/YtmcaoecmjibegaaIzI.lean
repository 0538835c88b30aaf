/- placed, turn; what goes keeps; one call on both; the script; two pairs. -/
import Derived.Test.YtmcaoecmjibegaaIzD
import Derived.Test.YtmcaoecmjibegaaIxQ
import Derived.Test.YtmcaoecmjibegaaIyB
set_option linter.unusedVariables false
set_option linter.unusedSimpArgs false
namespace Go.Proofs.Ytmcaoecmjibegaa.PIx
open Go.RowKit Go.Proofs.YtmcaoecmjibegaaW.PrintWords Go.Proofs.YtmcaoecmjibegaaW.PrintLast Go.Proofs.YtmcaoecmjibegaaW.PrintMore

/-- A list of slots, in memory of its own. -/
def Sr (w : World) (base : Nat) (v : Value) (xs : List S59) : Prop := k59.R 59 w base (fun _ => True) v xs
namespace Sr
variable {w w' : World} {base : Nat} {v : Value} {xs : List S59}
theorem keep (h : Sr w base v xs) (hk : ∀ k, base ≤ k → k < w.heap.size → w'.heap[k]? = w.heap[k]?) : Sr w' base v xs :=
  Kd.R_mono (Kd.R_move (ok := fun k => v.ownBlock = some k) (Kd.R_mono (Kd.R_tight k59_E h) (fun k hk => hk.symm)) (fun k hv => hk k (Kd.R_base h k hv) (Kd.R_lt h k hv))) (fun _ _ => trivial)
theorem elem {c cap n : Nat} (h : Sr w base (.slice (some ⟨c, 0, none⟩) n cap) xs) (i : Nat) (hi : i < xs.length) (hn : n = xs.length) :
    (w.cell? ⟨c, i * 2, none⟩ = some (.bool (xs.getD i z59).f0) ∧ w.cell? ⟨c, i * 2 + 1, none⟩ = some (.int .u64 (xs.getD i z59).f1)) ∧ (w.frozen? ⟨c, i * 2, none⟩ = false ∧ w.frozen? ⟨c, i * 2 + 1, none⟩ = false) := by
  obtain ⟨cs, hl, hM, hc, hf⟩ := Kd.R_elem h z59 (i : Int) (by omega) (by omega)
  have hcs := k59_openM hM
  subst hcs
  simp only [Int.toNat_natCast] at hc hf
  exact ⟨⟨hc 0 _ rfl, hc 1 _ rfl⟩, hf 0, hf 1⟩
/-- A slot is written. -/
theorem store {P : Program} {ops : Array Oper} {rest : List Oper} {o : Oper} {a : Act} {Q : Exit → Act → World → Prop} {c cap n : Nat} (h : Sr w base (.slice (some ⟨c, 0, none⟩) n cap) xs)
    (p x : Operand) (hN : o.dst = none) (hgd : o.guard = none) (ho : o.op = .store 59 p x) (i : Nat) (x' : S59) (u : Value) (haddr : a.eval p = .pointer (some ⟨c, i * 2, none⟩)) (hx : a.eval x = u)
    (hu : u.cells.toList = [.bool x'.f0, .int .u64 x'.f1]) (ht : (P.info? 59).map (·.size) = some 2) (hi : i < n)
    (hk : ∀ w1, Sr w1 base (.slice (some ⟨c, 0, none⟩) n cap) (xs.set i x') → w.grownBy w1 (some c) → wpList P ops Q rest a w1) : wpList P ops Q (o :: rest) a w := by
  obtain ⟨cs, hl, hM, hc, hf⟩ := Kd.R_elem h z59 (i : Int) (by omega) (by omega)
  simp only [Int.toNat_natCast] at hc
  have hs3 : k59.sz = 2 := rfl
  refine Kd.R_store k59 (w0 := w) base hN hgd 59 p x ho 59 (i : Int) 0 xs x' u [.bool x'.f0, .int .u64 x'.f1] cs (fun _ => True) (fun _ => False) haddr (by simp [hs3]) hx hu ht (by simp [Value.oneCell']) h (by omega) (by omega) hl (by simpa using hc) (by simp [hs3]) ?_ (fun _ hk => hk.elim) (Below.refl _ _) ?_
  · have h5 : k59.M w base (fun _ => False) x' [.bool x'.f0, .int .u64 x'.f1] := k59_mkM w base (fun _ => False) x'
    have h6 : cs.drop 2 = [] := List.drop_eq_nil_of_le (by rw [hl, hs3]; exact Nat.le_refl _)
    simpa [h6] using h5
  · intro w1 h1 h2 h3
    exact hk w1 (by simpa [Sr] using h1) h3
/-- append of one, dropped. -/
theorem append1_any {ops : Array Oper} {rest : List Oper} {o : Oper} {a : Act} {Q : Exit → Act → World → Prop} {Wx : World} {B : Nat} {y0 : Bool} {y1 : Int}
    (hgd : o.guard = none) (s x : Operand) (ho : o.op = .call { callee := .builtin .append, args := #[s, x], argTypes := #[32, 32] }) (hs : a.eval s = v) (hx : a.eval x = .slice (some ⟨Wx.heap.size, 0, none⟩) 1 1)
    (HO : Sr Wx B v xs) (hbase : B ≤ Wx.heap.size) (hl : xs.length ≤ 262144)
    (h : ∀ v1 w1, Below B Wx w1 → wpList Try.prog ops Q rest (a.put o.dst v1) w1) :
    wpList Try.prog ops Q (o :: rest) a (Wx.alloc (.cells #[.bool y0, .int .u64 y1] 59)) := by
  refine Kd.R_append k59 (w0 := Wx) B hgd s x 32 59 _ 16 ho Try.underlying32 info59 rfl (by decide) (by decide) v xs ⟨y0, y1⟩ [.bool y0, .int .u64 y1] (fun _ => True) (fun _ => False) hs hx (k59_mkM _ _ _ _) (fun _ hk => hk.elim) (fun k hk => trivial)
    HO (Below.refl _ _) hbase (by omega) ?_
  intro v1 w1 h1 h2 h3 h4
  exact h v1 w1 h2
end Sr

set_option maxHeartbeats 8000000 in
set_option maxRecDepth 100000 in
theorem placed_calls {W : World} {g b g2 b2 : Nat} {room keys room2 count m1 k1 : Int} {bits : Nat} {pl : List S72} (h : Ix W g b room keys bits pl) (hf : Fit m1 k1 bits pl) (hr : Rt W g2 b2 room2 count pl) :
    Calls Try.prog 24 #[.agg #[.pointer (some ⟨g, 0, none⟩), .pointer (some ⟨g2, 0, none⟩)]] W fun e w' => e = .returned (.bool true) ∧ Below W.heap.size W w' := by
  have hn : pl.length ≤ 131072 := by rw [hf.len]; exact Nat.le_trans (Nat.pow_le_pow_right (by decide) hf.hb) (by decide)
  have hn0 : 0 < pl.length := by rw [hf.len]; exact Nat.pow_pos (by decide)
  obtain ⟨n, hN⟩ : ∃ n, n = pl.length := ⟨_, rfl⟩
  have HN := Aside0.mk hN
  rw [← hN] at hn hn0
  have HI := Aside0.mk h
  have HR := Aside0.mk hr
  have K0 : Aside0 ((W.alloc (.cells #[.pointer (some ⟨g, 0, none⟩), .pointer (some ⟨g2, 0, none⟩)] 26)).heap[W.heap.size]? = some (.cells #[.pointer (some ⟨g, 0, none⟩), .pointer (some ⟨g2, 0, none⟩)] 26 (0, 0)) ∧ Below W.heap.size W (W.alloc (.cells #[.pointer (some ⟨g, 0, none⟩), .pointer (some ⟨g2, 0, none⟩)] 26))) := ⟨heap_alloc_new W _, (Below.refl _ W).alloc (Nat.le_refl _) _⟩
  clear h hf hr hN
  go_enter Try.func24, Try.ntmps24
  go_wp2
  go_loopg [3] 2 (fun kq v3 w' => ∃ r : Nat, v3 = .int .i64 (r : Int) ∧ r ≤ 2 ∧ Aside0 (kq + r = 2) ∧ Aside0 (w'.heap[W.heap.size]? = some (.cells #[.pointer (some ⟨g, 0, none⟩), .pointer (some ⟨g2, 0, none⟩)] 26 (0, 0)) ∧ Below W.heap.size W w'))
  case atStart => exact ⟨0, rfl, by omega, ⟨rfl⟩, K0⟩
  case round =>
    obtain ⟨r, rfl, hr2, HK, HP⟩ := hrel
    by_cases hlt : r < 2
    · obtain ⟨kk, rfl⟩ : ∃ kk, gk = kk + 1 := ⟨gk - 1, by have := HK.out; omega⟩
      have cP0 : wr.cell? ⟨W.heap.size, 0, none⟩ = some (.pointer (some ⟨g, 0, none⟩)) := (blk_cell HP.out.1 0).trans rfl
      have HI1 : Aside0 (Ix wr g b room keys bits pl) := ⟨HI.out.below HP.out.2⟩
      have HR1 : Aside0 (Rt wr g2 b2 room2 count pl) := ⟨HR.out.below HP.out.2⟩
      have X15 : Aside0 (Calls Try.prog 15 #[.pointer (some ⟨g, 0, none⟩)] wr fun e w' => ∃ c cap, e = .returned (.slice (some ⟨c, 0, none⟩) n cap) ∧ wr.heap.size ≤ c ∧ Sr w' (W.heap.size + 1) (.slice (some ⟨c, 0, none⟩) n cap) (pl.map (·.f0)) ∧ Below wr.heap.size wr w') := ⟨by
        refine (slots_calls HI1.out (by rw [← HN.out]; exact hn)).mono ?_
        rintro e w' ⟨v, rfl, h1, h2⟩
        obtain ⟨c, cap, rfl, h0, _⟩ := Kd.R_form h1 (by rw [List.length_map, ← HN.out]; exact hn0)
        rw [List.length_map, ← HN.out] at h1 ⊢
        exact ⟨c, cap, rfl, h0, Kd.R_lower h1 (blk_lt HP.out.1), h2⟩⟩
      go_wp2_with (first
        | ((with_reducible refine gate_callee (f := 15) rfl ?_); refine goesL_ (some 12) rfl rfl Try.func15 (by kernel_rfl) rfl #[.pointer (some ⟨g, 0, none⟩)] rfl (by (try simp only [List.map_toArray, List.map_cons, List.map_nil]); first | done | rfl) ?_; (with_reducible refine (X15.out).mono ?_); rintro e w2 ⟨c, cap, rfl, hc0, hS, hB⟩; refine ⟨_, rfl, ?_⟩; have HC0 := Aside0.mk hc0; have HS := Aside0.mk hS; have HB := Aside0.mk hB; have cP1 : w2.cell? ⟨W.heap.size, 1, none⟩ = some (.pointer (some ⟨g2, 0, none⟩)) := (blk_cell (blk_below HP.out.1 hB) 1).trans rfl; (obtain ⟨c5, ⟨_, _, hd2⟩, _, _⟩ := (HR1.out.below hB).cells); rw [← HN.out] at hd2; clear hc0 hS hB))
      have HQ : Aside0 (w2.heap[W.heap.size]? = some (.cells #[.pointer (some ⟨g, 0, none⟩), .pointer (some ⟨g2, 0, none⟩)] 26 (0, 0)) ∧ Below W.heap.size W w2) := ⟨blk_below HP.out.1 HB.out, below_then HP.out.2 HP.out.2.size HB.out⟩
      have HCW : Aside0 (W.heap.size < c) := ⟨Nat.lt_of_lt_of_le (blk_lt HP.out.1) HC0.out⟩
      clear cP0 cP1 hd2 HB HC0 HI1 HR1 X15
      go_loopg [5] n (fun kq v5 w' => ∃ (i : Nat) (xs : List S59), v5 = .int .i64 (i : Int) ∧ i ≤ n ∧ Aside0 (kq + i = n) ∧ Aside0 (xs.length = n ∧ ∀ j, i ≤ j → j < n → xs.getD j z59 = (pa pl j).f0) ∧ Aside0 (Sr w' (W.heap.size + 1) (.slice (some ⟨c, 0, none⟩) n cap) xs) ∧ Aside0 (w'.heap[W.heap.size]? = some (.cells #[.pointer (some ⟨g, 0, none⟩), .pointer (some ⟨g2, 0, none⟩)] 26 (0, 0)) ∧ Below W.heap.size W w'))
      case atStart =>
        refine ⟨0, pl.map (·.f0), rfl, Nat.zero_le _, ⟨rfl⟩, ⟨by rw [List.length_map, HN.out], fun j _ hj => ?_⟩, HS, HQ⟩
        rw [HN.out] at hj
        rw [List.getD_eq_getElem?_getD, List.getElem?_map, List.getElem?_eq_getElem hj, pa, List.getD_eq_getElem?_getD, List.getElem?_eq_getElem hj]
        rfl
      case round =>
        clear HS HQ
        obtain ⟨i, xs, rfl, hin, HKi, HX, HS, HQ⟩ := hrel
        by_cases hi : i < n
        · obtain ⟨k2, rfl⟩ : ∃ k2, gk = k2 + 1 := ⟨gk - 1, by have := HKi.out; omega⟩
          have HR1 : Aside0 (Rt wr g2 b2 room2 count pl) := ⟨HR.out.below HQ.out.2⟩
          have cP1 : wr.cell? ⟨W.heap.size, 1, none⟩ = some (.pointer (some ⟨g2, 0, none⟩)) := (blk_cell HQ.out.1 1).trans rfl
          obtain ⟨c5, ⟨_, _, hd2⟩, _, _⟩ := HR1.out.cells
          rw [← HN.out] at hd2
          obtain ⟨⟨p0, p1, _⟩, _⟩ := HR1.out.elem i (by rw [← HN.out]; exact hi)
          obtain ⟨⟨s0, s1⟩, sf0, sf1⟩ := HS.out.elem i (by rw [HX.out.1]; exact hi) HX.out.1.symm
          rw [HX.out.2 i (Nat.le_refl _) hi] at s0 s1
          obtain ⟨u, hu⟩ : ∃ u, u = (pa pl i).f0.f0 := ⟨_, rfl⟩
          obtain ⟨k, hk⟩ : ∃ k, k = (pa pl i).f0.f1 := ⟨_, rfl⟩
          rw [← hu] at p0 s0
          rw [← hk] at p1 s1
          clear hu hk
          have e0 : (u != u) = false := bne_self_eq_false' (a := u)
          have e1 : (k != k) = false := bne_self_eq_false' (a := k)
          go_wp2_with (fail)
          go_quiet (fail)
          go_wp2_with (first
            | ((with_reducible refine gate_ (.store 59 (.tmp 63) (.tmp 62)) rfl ?_); refine Sr.store (w := wr.drewN nq) (base := W.heap.size + 1) (c := c) (cap := cap) (n := n) (xs := xs) (HS.out.keep (fun k _ _ => rfl)) (.tmp 63) (.tmp 62) rfl rfl rfl i ⟨true, 77⟩ _ rfl rfl rfl (by kernel_rfl) hi ?_; intro w1 A1 A2; have B1 := Aside0.mk A1; have B2 := Aside0.mk A2; clear A1 A2))
          go_roundg k2
          case measure => omega
          case rel =>
            have hcw := HCW.out
            refine ⟨i + 1, xs.set i ⟨true, 77⟩, rfl, by omega, ⟨by have := HKi.out; omega⟩, ⟨by rw [List.length_set]; exact HX.out.1, fun j h1 h2 => ?_⟩, B1, ⟨?_, ?_⟩⟩
            · rw [List.getD_eq_getElem?_getD, List.getElem?_set_ne (by omega), ← List.getD_eq_getElem?_getD]
              exact HX.out.2 j (by omega) h2
            · exact (B2.out.block _ (blk_lt HQ.out.1) (fun e => by injection e with e; omega)).trans HQ.out.1
            · exact (below_drewN HQ.out.2 nq).trans ⟨B2.out.os, B2.out.tape, B2.out.output, B2.out.size, fun k hk => B2.out.block k (Nat.lt_of_lt_of_le hk HQ.out.2.size) (fun e => by injection e with e; omega)⟩
        · obtain rfl : i = n := by omega
          go_wp2_with (first
            | ((with_reducible refine gate_builtin (b := .append) rfl ?_); refine Sr.append1_any (Wx := wr) (B := W.heap.size + 1) (v := .slice (some ⟨c, 0, none⟩) i cap) (xs := xs) (y0 := false) (y1 := 0) (hgd := ?_) (s := .tmp 64) (x := .tmp 66) (ho := ?_) (hs := ?_) (hx := ?_) (HO := HS.out) (hbase := blk_lt HQ.out.1) (hl := by rw [HX.out.1]; omega) ?_; exact rfl; exact rfl; exact rfl; exact rfl; intro v1 w2 m2; have M2 := Aside0.mk m2; clear m2))
          go_roundg kk
          case measure => omega
          case rel => exact ⟨r + 1, rfl, by omega, ⟨by have := HK.out; omega⟩, ⟨(M2.out.block _ (Nat.lt_succ_self _)).trans HQ.out.1, HQ.out.2.trans (M2.out.mono (Nat.le_succ _))⟩⟩
    · obtain rfl : r = 2 := by omega
      go_wp2
      go_ret
      exact ⟨rfl, HP.out.2⟩

/-- What turning a key makes of the table, its look ending in place p: whether it was turned, how many keys, the places. -/
def tuT (room keys : Int) (pl : List S72) (p : Nat) : Bool := us pl p || (keys != room)
def tuK (room keys : Int) (pl : List S72) (p : Nat) : Int := if us pl p = true then keys - 1 else if keys = room then keys else keys + 1
def tuL (bits : Nat) (room keys : Int) (pl : List S72) (p : Nat) (key : Int) : List S72 := if us pl p = true then dropP bits pl p else if keys = room then pl else pl.set p ⟨⟨true, key⟩, 4242⟩

theorem tu_live {room keys : Int} {bits : Nat} {pl : List S72} (hf : Fit room keys bits pl) {p : Nat} {key : Int} (he : Ends bits pl key p) : Fit room (tuK room keys pl p) bits (tuL bits room keys pl p key) := by
  unfold tuK tuL
  cases hu : us pl p with
  | true =>
    rw [if_pos rfl, if_pos rfl]
    exact (hf.drop he.1 hu).1
  | false =>
    simp only [Bool.false_eq_true, if_false]
    by_cases hk : keys = room
    · simp only [if_pos hk]; exact hf
    · simp only [if_neg hk]
      exact hf.put he hu (by have := hf.most; omega)

set_option maxHeartbeats 8000000 in
set_option maxRecDepth 100000 in
theorem turn_calls {W : World} {g b : Nat} {room keys : Int} {bits : Nat} {pl : List S72} (x2 : Value) (key : Int) (p : Nat) (h : Live W g b room keys bits pl) (he : Ends bits pl key p) :
    Calls Try.prog 44 #[.agg #[.pointer (some ⟨g, 0, none⟩), x2], .int .u64 key] W fun e w' => e = .returned (.bool (tuT room keys pl p)) ∧ Live w' g b room (tuK room keys pl p) bits (tuL bits room keys pl p key) ∧ Fr (fun k => k = g ∨ k = b) W w' := by
  obtain ⟨hi, hf, hr⟩ := h
  have hfit := tu_live hf he
  have HFIT := Aside0.mk hfit
  have HI := Aside0.mk hi
  have HG : Aside0 (∀ w1, Ix w1 g b room keys bits pl → Calls Try.prog 20 #[.pointer (some ⟨g, 0, none⟩), .int .u64 key] w1 fun e w' => e = .returned (.tuple #[.int .i64 (vl pl p), .bool (us pl p)]) ∧ Below w1.heap.size w1 w') := ⟨fun w1 h1 => get_calls key p h1 hf he⟩
  have K0 : Aside0 ((W.alloc (.cells #[.pointer (some ⟨g, 0, none⟩), x2] 26)).heap[W.heap.size]? = some (.cells #[.pointer (some ⟨g, 0, none⟩), x2] 26 (0, 0)) ∧ Ix (W.alloc (.cells #[.pointer (some ⟨g, 0, none⟩), x2] 26)) g b room keys bits pl ∧ Below W.heap.size W (W.alloc (.cells #[.pointer (some ⟨g, 0, none⟩), x2] 26))) := ⟨heap_alloc_new W _, hi.below ((Below.refl _ W).alloc (Nat.le_refl _) _), (Below.refl _ W).alloc (Nat.le_refl _) _⟩
  obtain ⟨vp, hvp⟩ : ∃ v, v = vl pl p := ⟨_, rfl⟩
  rw [← hvp] at HG
  clear hvp
  cases hu : us pl p with
  | true =>
    have HD : Aside0 (∀ w1, Ix w1 g b room keys bits pl → Calls Try.prog 18 #[.pointer (some ⟨g, 0, none⟩), .int .u64 key] w1 fun e w' => e = .returned (.tuple #[.int .i64 (vl pl p), .bool true]) ∧ Ix w' g b room (keys - 1) bits (dropP bits pl p) ∧ Fr (fun k => k = g ∨ k = b) w1 w') := ⟨fun w1 h1 => drop_done key p h1 hf he hr hu⟩
    have e1 : tuT room keys pl p = true := by unfold tuT; rw [hu]; rfl
    have e2 : tuK room keys pl p = keys - 1 := by unfold tuK; rw [hu]; rfl
    have e3 : tuL bits room keys pl p key = dropP bits pl p := by unfold tuL; rw [hu]; rfl
    rw [e2, e3] at HFIT
    rw [e1, e2, e3]
    rw [hu] at HG
    have HR := Aside0.mk hr
    obtain ⟨dl, hdl⟩ : ∃ d, d = dropP bits pl p := ⟨_, rfl⟩
    obtain ⟨v2, hv2⟩ : ∃ d, d = vl pl p := ⟨_, rfl⟩
    rw [← hdl] at HD HFIT ⊢
    rw [← hv2] at HD
    clear hi hf he hr hfit hu e1 e2 e3 hdl hv2
    go_enter Try.func44, Try.ntmps44
    go_wp2_with (first
      | ((with_reducible refine gate_callee (f := 20) rfl ?_); refine goesL_ (some 13) rfl rfl Try.func20 (by kernel_rfl) rfl #[.pointer (some ⟨g, 0, none⟩), .int .u64 key] rfl (by (try simp only [List.map_toArray, List.map_cons, List.map_nil]); first | done | rfl) ?_; (with_reducible refine (HG.out _ K0.out.2.1).mono ?_); rintro e w2 ⟨rfl, hB⟩; refine ⟨_, rfl, ?_⟩; have HB := Aside0.mk hB; have cP0 : w2.cell? ⟨W.heap.size, 0, none⟩ = some (.pointer (some ⟨g, 0, none⟩)) := (blk_cell (blk_below K0.out.1 hB) 0).trans rfl; clear hB)
      | ((with_reducible refine gate_callee (f := 18) rfl ?_); refine goesL_ (some 21) rfl rfl Try.func18 (by kernel_rfl) rfl #[.pointer (some ⟨g, 0, none⟩), .int .u64 key] rfl (by (try simp only [List.map_toArray, List.map_cons, List.map_nil]); first | done | rfl) ?_; (with_reducible refine (HD.out _ (K0.out.2.1.below HB.out)).mono ?_); rintro e w3 ⟨rfl, hI3, hF3⟩; refine ⟨_, rfl, ?_⟩; have HI3 := Aside0.mk hI3; have HF3 := Aside0.mk hF3; clear hI3 hF3))
    go_ret
    exact ⟨rfl, ⟨HI3.out, HFIT.out, HR.out⟩, (((Fr.refl _ W).below K0.out.2.2).below HB.out).trans HF3.out (fun i hi => .inl hi)⟩
  | false =>
    rw [hu] at HG
    by_cases hk : keys = room
    · have HD : Aside0 (∀ w1, Ix w1 g b room keys bits pl → Calls Try.prog 19 #[.pointer (some ⟨g, 0, none⟩), .int .u64 key, .int .i64 4242] w1 fun e w' => e = .returned (.int .i64 80) ∧ ∃ m, w' = w1.drewN m) := ⟨fun w1 h1 => put_full key 4242 p h1 hf he hr hu hk⟩
      have e1 : tuT room keys pl p = false := by unfold tuT; rw [hu, hk]; simp
      have e2 : tuK room keys pl p = keys := by unfold tuK; rw [hu, if_neg (by decide), if_pos hk]
      have e3 : tuL bits room keys pl p key = pl := by unfold tuL; rw [hu, if_neg (by decide), if_pos hk]
      rw [e2, e3] at HFIT
      rw [e1, e2, e3]
      have HR := Aside0.mk hr
      clear hi hf he hr hfit hu e1 e2 e3 hk
      go_enter Try.func44, Try.ntmps44
      go_wp2_with (first
        | ((with_reducible refine gate_callee (f := 20) rfl ?_); refine goesL_ (some 13) rfl rfl Try.func20 (by kernel_rfl) rfl #[.pointer (some ⟨g, 0, none⟩), .int .u64 key] rfl (by (try simp only [List.map_toArray, List.map_cons, List.map_nil]); first | done | rfl) ?_; (with_reducible refine (HG.out _ K0.out.2.1).mono ?_); rintro e w2 ⟨rfl, hB⟩; refine ⟨_, rfl, ?_⟩; have HB := Aside0.mk hB; have cP0 : w2.cell? ⟨W.heap.size, 0, none⟩ = some (.pointer (some ⟨g, 0, none⟩)) := (blk_cell (blk_below K0.out.1 hB) 0).trans rfl; clear hB)
        | ((with_reducible refine gate_callee (f := 19) rfl ?_); refine goesL_ (some 28) rfl rfl Try.func19 (by kernel_rfl) rfl #[.pointer (some ⟨g, 0, none⟩), .int .u64 key, .int .i64 4242] rfl (by (try simp only [List.map_toArray, List.map_cons, List.map_nil]); first | done | rfl) ?_; (with_reducible refine (HD.out _ (K0.out.2.1.below HB.out)).mono ?_); rintro e w3 ⟨rfl, m3, hI3⟩; subst w3; refine ⟨_, rfl, ?_⟩))
      go_ret
      exact ⟨rfl, ⟨(K0.out.2.1.below HB.out).keep rfl rfl, HFIT.out, HR.out⟩, (((Fr.refl _ W).below K0.out.2.2).below HB.out).drewN _⟩
    · have HD : Aside0 (∀ w1, Ix w1 g b room keys bits pl → Calls Try.prog 19 #[.pointer (some ⟨g, 0, none⟩), .int .u64 key, .int .i64 4242] w1 fun e w' => e = .returned (.int .i64 0) ∧ Ix w' g b room (keys + 1) bits (pl.set p ⟨⟨true, key⟩, 4242⟩) ∧ Fr (fun k => k = g ∨ k = b) w1 w') := ⟨fun w1 h1 => put_done key 4242 p h1 hf he hr hu hk⟩
      have e1 : tuT room keys pl p = true := by unfold tuT; rw [hu]; simp [hk]
      have e2 : tuK room keys pl p = keys + 1 := by unfold tuK; rw [hu, if_neg (by decide), if_neg hk]
      have e3 : tuL bits room keys pl p key = pl.set p ⟨⟨true, key⟩, 4242⟩ := by unfold tuL; rw [hu, if_neg (by decide), if_neg hk]
      rw [e2, e3] at HFIT
      rw [e1, e2, e3]
      have HR := Aside0.mk hr
      obtain ⟨dl, hdl⟩ : ∃ d, d = pl.set p ⟨⟨true, key⟩, 4242⟩ := ⟨_, rfl⟩
      rw [← hdl] at HD HFIT ⊢
      clear hi hf he hr hfit hu e1 e2 e3 hk hdl
      go_enter Try.func44, Try.ntmps44
      go_wp2_with (first
        | ((with_reducible refine gate_callee (f := 20) rfl ?_); refine goesL_ (some 13) rfl rfl Try.func20 (by kernel_rfl) rfl #[.pointer (some ⟨g, 0, none⟩), .int .u64 key] rfl (by (try simp only [List.map_toArray, List.map_cons, List.map_nil]); first | done | rfl) ?_; (with_reducible refine (HG.out _ K0.out.2.1).mono ?_); rintro e w2 ⟨rfl, hB⟩; refine ⟨_, rfl, ?_⟩; have HB := Aside0.mk hB; have cP0 : w2.cell? ⟨W.heap.size, 0, none⟩ = some (.pointer (some ⟨g, 0, none⟩)) := (blk_cell (blk_below K0.out.1 hB) 0).trans rfl; clear hB)
        | ((with_reducible refine gate_callee (f := 19) rfl ?_); refine goesL_ (some 28) rfl rfl Try.func19 (by kernel_rfl) rfl #[.pointer (some ⟨g, 0, none⟩), .int .u64 key, .int .i64 4242] rfl (by (try simp only [List.map_toArray, List.map_cons, List.map_nil]); first | done | rfl) ?_; (with_reducible refine (HD.out _ (K0.out.2.1.below HB.out)).mono ?_); rintro e w3 ⟨rfl, hI3, hF3⟩; refine ⟨_, rfl, ?_⟩; have HI3 := Aside0.mk hI3; have HF3 := Aside0.mk hF3; clear hI3 hF3))
      go_ret
      exact ⟨rfl, ⟨HI3.out, HFIT.out, HR.out⟩, (((Fr.refl _ W).below K0.out.2.2).below HB.out).trans HF3.out (fun i hi => .inl hi)⟩
end Go.Proofs.Ytmcaoecmjibegaa.PIx
namespace Go.Proofs.Ytmcaoecmjibegaa.PIx
open Go.RowKit Go.Proofs.YtmcaoecmjibegaaW.PrintWords Go.Proofs.YtmcaoecmjibegaaW.PrintLast Go.Proofs.YtmcaoecmjibegaaW.PrintMore
open Go.Shelf

/-- Where things lie. -/
structure OrdG (W : World) (P O R WB PB g b g2 b2 N : Nat) (wv : Value) : Prop where
  hP : W.heap.size ≤ P
  hO : W.heap.size ≤ O
  hR : W.heap.size ≤ R
  hWB : W.heap.size ≤ WB
  hPB : W.heap.size ≤ PB
  pN : P < N
  oN : O < N
  rN : R < N
  wN : WB < N
  qN : PB < N
  g0 : g < W.heap.size
  b0 : b < W.heap.size
  g20 : g2 < W.heap.size
  b20 : b2 < W.heap.size
  ne1 : g2 ≠ g
  ne2 : g2 ≠ b
  ne3 : b2 ≠ g
  ne4 : b2 ≠ b
  own : ∀ k, wv.ownBlock = some k → k < N

/-- The state while all keys are gone through. -/
structure GoS (W : World) (P O R WB PB g b g2 b2 N : Nat) (room : Int) (bits : Nat) (l : List S72) (wv : Value) (kind : Int) (oth : Bool) (key v n : Int) (k1 : Int) (p1 : List S72) (k2 : Int) (p2 : List S72) (w : World) : Prop where
  fr : Fr (fun i => i = g ∨ i = b ∨ i = g2 ∨ i = b2) W w
  pbk : w.heap[P]? = some (.cells #[.pointer (some ⟨g, 0, none⟩), .pointer (some ⟨g2, 0, none⟩)] 26 (0, 0))
  obk : w.heap[O]? = some (.cells #[.int .i64 kind, .bool oth, .int .u64 key, .int .i64 v, .int .i64 n] 62 (0, 0))
  rbk : w.heap[R]? = some (.cells #[.bool false] 4 (0, 0))
  wbk : w.heap[WB]? = some (.cells #[wv] 34 (0, 0))
  er : Er w W.heap.size wv l
  qbk : w.heap[PB]? = some (.cells #[.pointer (some ⟨g, 0, none⟩)] 23 (0, 0))
  x : Live w g b room k1 bits p1
  y : Rt w g2 b2 room k2 p2
  ord : OrdG W P O R WB PB g b g2 b2 N wv
  hN : N ≤ w.heap.size

namespace GoS
variable {W w w' : World} {P O R WB PB g b g2 b2 N : Nat} {room : Int} {bits : Nat} {l : List S72} {wv : Value} {kind : Int} {oth : Bool} {key v n : Int} {k1 k1' : Int} {p1 p1' : List S72} {k2 k2' : Int} {p2 p2' : List S72}
theorem below (h : GoS W P O R WB PB g b g2 b2 N room bits l wv kind oth key v n k1 p1 k2 p2 w) (k : Below N w w') : GoS W P O R WB PB g b g2 b2 N room bits l wv kind oth key v n k1 p1 k2 p2 w' := by
  have o := h.ord
  have := o.hP; have := o.pN; have := o.g0; have := o.b0; have := o.g20; have := o.b20
  refine ⟨⟨k.os.trans h.fr.os, k.tape.trans h.fr.tape, k.output.trans h.fr.output, Nat.le_trans h.fr.size k.size, fun i hi hn => (k.block i (by omega)).trans (h.fr.block i hi hn)⟩,
    (k.block P o.pN).trans h.pbk, (k.block O o.oN).trans h.obk, (k.block R o.rN).trans h.rbk, (k.block WB o.wN).trans h.wbk, Kd.R_move h.er (fun i hi => k.block i (o.own i hi)), (k.block PB o.qN).trans h.qbk,
    h.x.keep (k.block g (by omega)) (k.block b (by omega)), h.y.keep (k.block g2 (by omega)) (k.block b2 (by omega)), o, Nat.le_trans h.hN k.size⟩
theorem grown {row : Option Nat} {B : Nat} (h : GoS W P O R WB PB g b g2 b2 N room bits l wv kind oth key v n k1 p1 k2 p2 w) (hg : w.grownBy w' row) (hB : N ≤ B) (hr : ∀ i, row = some i → B ≤ i) : GoS W P O R WB PB g b g2 b2 N room bits l wv kind oth key v n k1 p1 k2 p2 w' :=
  h.below ⟨hg.os, hg.tape, hg.output, hg.size, fun i hi => hg.block i (Nat.lt_of_lt_of_le hi h.hN) (fun e => by have := hr i e.symm; omega)⟩
/-- A key has been turned. -/
theorem xcall (h : GoS W P O R WB PB g b g2 b2 N room bits l wv kind oth key v n k1 p1 k2 p2 w) (hl : Live w' g b room k1' bits p1') (k : Fr (fun i => i = g ∨ i = b) w w') : GoS W P O R WB PB g b g2 b2 N room bits l wv kind oth key v n k1' p1' k2 p2 w' := by
  have o := h.ord
  have := o.hP; have := o.hO; have := o.hR; have := o.hWB; have := o.hPB; have := o.g0; have := o.b0
  refine ⟨h.fr.trans k (fun i hi => .inl (hi.elim .inl (fun e => .inr (.inl e)))), k.blk h.pbk (by omega), k.blk h.obk (by omega), k.blk h.rbk (by omega), k.blk h.wbk (by omega),
    h.er.keep (fun i h1 h2 => k.block i h2 (by omega)), k.blk h.qbk (by omega), hl, h.y.fr k (fun e => e.elim o.ne1 o.ne2) (fun e => e.elim o.ne3 o.ne4), o, Nat.le_trans h.hN k.size⟩
theorem ycall (h : GoS W P O R WB PB g b g2 b2 N room bits l wv kind oth key v n k1 p1 k2 p2 w) (hl : Rt w' g2 b2 room k2' p2') (k : Fr (fun i => i = g2 ∨ i = b2) w w') : GoS W P O R WB PB g b g2 b2 N room bits l wv kind oth key v n k1 p1 k2' p2' w' := by
  have o := h.ord
  have := o.hP; have := o.hO; have := o.hR; have := o.hWB; have := o.hPB; have := o.g20; have := o.b20
  refine ⟨h.fr.trans k (fun i hi => .inl (.inr (.inr hi))), k.blk h.pbk (by omega), k.blk h.obk (by omega), k.blk h.rbk (by omega), k.blk h.wbk (by omega),
    h.er.keep (fun i h1 h2 => k.block i h2 (by omega)), k.blk h.qbk (by omega), h.x.fr k (fun e => e.elim (fun e => o.ne1 e.symm) (fun e => o.ne3 e.symm)) (fun e => e.elim (fun e => o.ne2 e.symm) (fun e => o.ne4 e.symm)), hl, o, Nat.le_trans h.hN k.size⟩
end GoS

def mark (D : Nat) : Deferred := { target := .collected D, args := #[] }
/-- The marks that the ranges have left. -/
structure DsOk (N : Nat) (Ds : List Nat) (w : World) : Prop where
  nod : Ds.Nodup
  blk : ∀ D ∈ Ds, N ≤ D ∧ w.heap[D]? = some (.deferred (some []))
theorem DsOk.nil (N : Nat) (w : World) : DsOk N [] w := ⟨List.nodup_nil, by simp⟩
theorem DsOk.lt {N : Nat} {Ds : List Nat} {w : World} (h : DsOk N Ds w) : ∀ D ∈ Ds, D < w.heap.size := fun D hD => blk_lt' (h.blk D hD).2
  where blk_lt' {w : World} {D : Nat} {o : Obj} (h : w.heap[D]? = some o) : D < w.heap.size := (Array.getElem?_eq_some_iff.1 h).1
theorem DsOk.below {N B : Nat} {Ds : List Nat} {w w' : World} (h : DsOk N Ds w) (hB : ∀ D ∈ Ds, D < B) (k : Below B w w') : DsOk N Ds w' := ⟨h.nod, fun D hD => ⟨(h.blk D hD).1, (k.block D (hB D hD)).trans (h.blk D hD).2⟩⟩
theorem DsOk.fr {S : Nat → Prop} {N : Nat} {Ds : List Nat} {w w' : World} (h : DsOk N Ds w) (k : Fr S w w') (hS : ∀ D ∈ Ds, ¬ S D) : DsOk N Ds w' := ⟨h.nod, fun D hD => ⟨(h.blk D hD).1, (k.block D (h.lt D hD) (hS D hD)).trans (h.blk D hD).2⟩⟩
theorem DsOk.cons {N B : Nat} {Ds : List Nat} {w : World} (h : DsOk N Ds w) (hB : ∀ D ∈ Ds, D < B) {D : Nat} (hD : B ≤ D) (hN : N ≤ B) (hb : w.heap[D]? = some (.deferred (some []))) : DsOk N (D :: Ds) w :=
  ⟨List.nodup_cons.2 ⟨fun hm => by have := hB D hm; omega, h.nod⟩, fun D' hD' => by
    rcases List.mem_cons.1 hD' with rfl | hm
    · exact ⟨by omega, hb⟩
    · exact h.blk D' hm⟩
theorem DsOk.grown {row : Option Nat} {N B : Nat} {Ds : List Nat} {w w' : World} (h : DsOk N Ds w) (hB : ∀ D ∈ Ds, D < B) (hg : w.grownBy w' row) (hr : ∀ i, row = some i → B ≤ i) : DsOk N Ds w' :=
  ⟨h.nod, fun D hD => ⟨(h.blk D hD).1, (hg.block D (h.lt D hD) (fun e => by have := hr D e.symm; have := hB D hD; omega)).trans (h.blk D hD).2⟩⟩

/-- A function that holds several ranges over functions leaves. -/
theorem leaves_marks {F : Fence} {n : Nat} {Pr : Program} {fn : Func} {tmps : Array Value} {R : Ending → World → Prop} (N : Nat) : ∀ (Ds : List Nat) (w : World), DsOk N Ds w → (∀ w', Below N w w' → LeavesIn F n Pr fn tmps R [] .returning w') → LeavesInM F n Pr fn tmps R (Ds.map mark) .returning w := by
  intro Ds
  induction Ds with
  | nil => intro w _ h; exact h w (Below.refl _ _)
  | cons D Ds ih =>
    intro w hd h
    have h1 := hd.blk D (List.mem_cons_self ..)
    have hnd := List.nodup_cons.1 hd.nod
    refine ⟨by simp, .inl ⟨_, _, rfl, run_takeDeferred h1.2, ih _ ⟨hnd.2, fun D' hD' => ⟨(hd.blk D' (List.mem_cons_of_mem _ hD')).1, ?_⟩⟩ (fun w' hb => h w' (Below.trans ?_ hb))⟩⟩
    · exact (World.putObj_heap_other (fun e => hnd.1 (by first | (rw [e]; exact hD') | (rw [← e]; exact hD')))).trans (hd.blk D' (List.mem_cons_of_mem _ hD')).2
    · have hg := grownBy_putObj' w D (.deferred none)
      exact ⟨hg.os, hg.tape, hg.output, hg.size, fun k hk => World.putObj_heap_other (by omega)⟩

/-- Between two rounds of the first two goings. -/
structure GoI (W : World) (P O R WB PB g b g2 b2 N : Nat) (room : Int) (bits : Nat) (l : List S72) (wv : Value) (kind : Int) (oth : Bool) (key v n : Int) (k1 : Int) (p1 : List S72) (rb nb B r : Nat) (Ds : List Nat) (pre : List (Int × Int)) (w : World) : Prop where
  st : GoS W P O R WB PB g b g2 b2 N room bits l wv kind oth key v n k1 p1 k1 p1 w
  rbx : w.heap[rb]? = some (.cells #[.int .i64 (r : Int)] 3 (0, 0))
  nbx : w.heap[nb]? = some (.cells #[.int .i64 (pre.length : Int)] 3 (0, 0))
  ds : DsOk N Ds w
  h1 : N ≤ rb
  h2 : rb < nb
  h3 : nb < B
  hD : ∀ D ∈ Ds, D < B
theorem GoI.own (W : World) (P O R WB PB g b g2 b2 N : Nat) (room : Int) (bits : Nat) (l : List S72) (wv : Value) (kind : Int) (oth : Bool) (key v n : Int) (k1 : Int) (p1 : List S72) (rb nb B r : Nat) (Ds : List Nat) : OwnFrom B (GoI W P O R WB PB g b g2 b2 N room bits l wv kind oth key v n k1 p1 rb nb B r Ds) := by
  rintro pre A A' row ⟨h, hr', hn, hd, h1, h2, h3, hD⟩ hg hr
  exact ⟨h.grown (B := B) hg (by omega) (fun i hi => (hr i hi).1), (hg.block rb (blk_lt hr') (fun e => by have := (hr rb e.symm).1; omega)).trans hr', (hg.block nb (blk_lt hn) (fun e => by have := (hr nb e.symm).1; omega)).trans hn, hd.grown hD hg (fun i hi => (hr i hi).1), h1, h2, h3, hD⟩
/-- One more key. -/
theorem GoI.more {W w : World} {P O R WB PB g b g2 b2 N : Nat} {room : Int} {bits : Nat} {l : List S72} {wv : Value} {kind : Int} {oth : Bool} {key v n : Int} {k1 : Int} {p1 : List S72} {rb nb B r : Nat} {Ds : List Nat} {pre : List (Int × Int)}
    (h : GoI W P O R WB PB g b g2 b2 N room bits l wv kind oth key v n k1 p1 rb nb B r Ds pre w) (x : Int × Int) : GoI W P O R WB PB g b g2 b2 N room bits l wv kind oth key v n k1 p1 rb nb B r Ds (pre ++ [x]) (w.setCell ⟨nb, 0, none⟩ (.int .i64 ((pre.length : Int) + 1))) := by
  obtain ⟨h, hr', hn, hd, h1, h2, h3, hD⟩ := h
  have hf : Fr (fun i => i = nb) w (w.setCell ⟨nb, 0, none⟩ (.int .i64 ((pre.length : Int) + 1))) := (Fr.refl (fun i => i = nb) w).setCell (p := ⟨nb, 0, none⟩) (.inl rfl) _
  have hlen : ((pre ++ [x]).length : Int) = (pre.length : Int) + 1 := by rw [List.length_append, List.length_singleton]; omega
  refine ⟨h.below ⟨hf.os, hf.tape, hf.output, hf.size, fun i hi => hf.block i (by have := h.hN; omega) (by omega)⟩, hf.blk hr' (by omega), ?_, hd.fr hf (fun D hD' e => ?_), h1, h2, h3, hD⟩
  · rw [hlen]; exact blk_set hn 0 _
  · have := (hd.blk D hD').2
    rw [e, hn] at this
    cases this
/-- The body has left: what came is not what stands there; or enough have come. -/
def GoX (I : List (Int × Int) → World → Prop) (id r : Nat) (l : List S72) (n : Int) (c : Code) (pre : List (Int × Int)) (w : World) : Prop :=
  (c = .ret ∧ ∃ pre0 x, pre = pre0 ++ [x] ∧ pre0.length < l.length ∧ kv (pa l pre0.length) ≠ x) ∨ (c = .exit id ∧ r = 0 ∧ (pre.length : Int) = n ∧ I pre w)
theorem GoX.own {B : Nat} {I : List (Int × Int) → World → Prop} (hI : OwnFrom B I) (id r : Nat) (l : List S72) (n : Int) (c : Code) : OwnFrom B (GoX I id r l n c) := by
  rintro pre A A' row (h | ⟨h1, h2, h3, h4⟩) hg hr
  · exact .inl h
  · exact .inr ⟨h1, h2, h3, hI pre A A' row h4 hg hr⟩

theorem perm_sorted_eq : ∀ {l l' : List S72}, l.Perm l' → l.Pairwise (fun a b => a.f0.f1 < b.f0.f1) → l'.Pairwise (fun a b => a.f0.f1 < b.f0.f1) → l = l' := by
  intro l l' hp h1 h2
  exact hp.eq_of_pairwise (le := fun a b => a.f0.f1 < b.f0.f1) (fun a b _ _ h h' => by omega) h1 h2
theorem Srt.strict {bits : Nat} {pl l : List S72} (h : Srt pl l) (hw : WF bits pl) : l.Pairwise (fun a b => a.f0.f1 < b.f0.f1) := by
  have hn := h.nod hw
  rw [List.map_map, List.nodup_iff_pairwise_ne, List.pairwise_map] at hn
  exact (h.2.and hn).imp (fun {a b} hab => by
    have h1 := hab.1
    have h2 : a.f0.f1 ≠ b.f0.f1 := hab.2
    omega)
theorem Srt.uniq {bits : Nat} {pl l l' : List S72} (h : Srt pl l) (h' : Srt pl l') (hw : WF bits pl) : l' = l :=
  perm_sorted_eq (h'.1.trans h.1.symm) (h'.strict hw) (h.strict hw)
/-- What came was what stands there. -/
theorem srt_no {bits : Nat} {pl l : List S72} (h : Srt pl l) (hw : WF bits pl) {pre pre0 : List (Int × Int)} {x : Int × Int} (hs : ∃ l', Srt pl l' ∧ pre <+: l'.map kv) (he : pre = pre0 ++ [x]) (hx : kv (pa l pre0.length) ≠ x) : False := by
  obtain ⟨l', h', hp⟩ := hs
  rw [h.uniq h' hw, he] at hp
  obtain ⟨t, ht⟩ := hp
  apply hx
  have hlt : pre0.length < l.length := by
    have := congrArg List.length ht
    rw [List.length_append, List.length_append, List.length_map, List.length_singleton] at this
    omega
  rw [pa_lt l _ hlt]
  have h5 : (l.map kv)[pre0.length]? = some x := by
    rw [← ht, List.append_assoc, List.getElem?_append_right (Nat.le_refl _)]
    simp
  rw [List.getElem?_map, List.getElem?_eq_getElem hlt] at h5
  simpa using h5
end Go.Proofs.Ytmcaoecmjibegaa.PIx
namespace Go.Proofs.Ytmcaoecmjibegaa.PIx
open Go.RowKit Go.Proofs.YtmcaoecmjibegaaW.PrintWords Go.Proofs.YtmcaoecmjibegaaW.PrintLast Go.Proofs.YtmcaoecmjibegaaW.PrintMore
open Go.Shelf

theorem er_empty (W : World) : k79.R 79 (W.alloc (.cells #[] 79)) W.heap.size (fun k => W.heap.size ≤ k) (.slice (some ⟨W.heap.size, 0, none⟩) 0 0) [] :=
  ⟨fun k hk => by (have : W.heap.size = k := by simpa [Value.ownBlock] using hk); omega, [], by simpa using World.ownsRow_lit (base := W.heap.size) (e := 79) (size := k79.sz) W #[] 0 (Nat.le_refl _) (by decide) (by simp), Reps.none _ _⟩

/-- append of a whole list to an empty one. -/
theorem er_copy {ops : Array Oper} {rest : List Oper} {o : Oper} {a : Act} {Q : Exit → Act → World → Prop} {Wx : World} {g2 b2 c2 m : Nat} {room k : Int} {xs : List S72}
    (hgd : o.guard = none) (s x : Operand) (ho : o.op = .call { callee := .builtin .append, args := #[s, x], argTypes := #[34, 34] }) (hs : a.eval s = .slice (some ⟨Wx.heap.size, 0, none⟩) 0 0) (hx : a.eval x = .slice (some ⟨b2, 0, none⟩) m c2)
    (hm : m = xs.length) (hr : Rt Wx g2 b2 room k xs) (hl : xs.length ≤ 262144) (hp : 0 < xs.length)
    (h : ∀ cb cap w1, k79.R 79 w1 0 (fun k => k = cb) (.slice (some ⟨cb, 0, none⟩) xs.length cap) (xs.map rf) → Wx.heap.size ≤ cb → Below Wx.heap.size Wx w1 → wpList Try.prog ops Q rest (a.put o.dst (.slice (some ⟨cb, 0, none⟩) xs.length cap)) w1) :
    wpList Try.prog ops Q (o :: rest) a (Wx.alloc (.cells #[] 79)) := by
  subst hm
  have hb : Below Wx.heap.size Wx (Wx.alloc (.cells #[] 79)) := (Below.refl _ _).alloc (Nat.le_refl _) _
  obtain ⟨c, hh, hR⟩ := hr.below hb
  obtain ⟨_, _, hC⟩ := Kd.R_reads' hR
  rw [List.length_map] at hC
  refine Kd.R_append_rows k79 (w0 := Wx) Wx.heap.size hgd s x 34 79 _ 24 ho Try.underlying34 info79 rfl (by decide) (by decide) _ [] (xs.map rf) (some ⟨b2, 0, none⟩) xs.length c2 (fun k => Wx.heap.size ≤ k) (fun _ => False) hs hx
    (er_empty Wx) hC (fun y cs hy => by rw [k79_open hy]; exact k79_mkM _ _ _ y) (fun _ hk => hk.elim) (fun k hk => by have := hb.size; omega) hb hb.size (by simp only [List.length_nil]; omega) ?_
  intro v1 w1 h1 h2 _ _
  rw [List.nil_append] at h1
  obtain ⟨cb, cap, rfl, h3, _⟩ := Kd.R_form h1 (by rw [List.length_map]; exact hp)
  rw [List.length_map] at h1 ⊢
  exact h cb cap w1 (Kd.R_mono (ok' := fun k => k = cb) (Kd.R_tight k79_E (Kd.R_lower h1 (Nat.zero_le _))) (fun k hk => by simpa [Value.ownBlock] using hk)) h3 h2

def kT (room keys : Int) (pl : List S72) (p : Nat) (pre : List (Int × Int)) : Int := if pre.isEmpty then keys else tuK room keys pl p
def lT (bits : Nat) (room keys : Int) (pl : List S72) (p : Nat) (key : Int) (pre : List (Int × Int)) : List S72 := if pre.isEmpty then pl else tuL bits room keys pl p key
def tT (room keys : Int) (pl : List S72) (p : Nat) (pre : List (Int × Int)) : Bool := if pre.isEmpty then false else tuT room keys pl p

/-- Between two rounds of the third going. -/
structure GoJ (W : World) (P O R WB PB g b g2 b2 N : Nat) (room : Int) (bits : Nat) (l : List S72) (wv : Value) (kind : Int) (oth : Bool) (key v n keys : Int) (pl : List S72) (p nb tb CB cb B : Nat) (Ds : List Nat) (pre : List (Int × Int)) (w : World) : Prop where
  st : GoS W P O R WB PB g b g2 b2 N room bits l wv kind oth key v n (kT room keys pl p pre) (lT bits room keys pl p key pre) keys pl w
  nbx : w.heap[nb]? = some (.cells #[.int .i64 (pre.length : Int)] 3 (0, 0))
  tbx : w.heap[tb]? = some (.cells #[.bool (tT room keys pl p pre)] 4 (0, 0))
  cc : Rt w CB cb room keys pl
  ds : DsOk N Ds w
  h1 : N ≤ nb
  h2 : nb < tb
  h3 : tb < CB
  h4 : CB < cb
  h5 : cb < B
  hD : ∀ D ∈ Ds, D < nb
theorem GoJ.own (W : World) (P O R WB PB g b g2 b2 N : Nat) (room : Int) (bits : Nat) (l : List S72) (wv : Value) (kind : Int) (oth : Bool) (key v n keys : Int) (pl : List S72) (p nb tb CB cb B : Nat) (Ds : List Nat) : OwnFrom B (GoJ W P O R WB PB g b g2 b2 N room bits l wv kind oth key v n keys pl p nb tb CB cb B Ds) := by
  rintro pre A A' row ⟨h, hn, ht, hc, hd, h1, h2, h3, h4, h5, hD⟩ hg hr
  have hk : ∀ k, k < B → k < A.heap.size → A'.heap[k]? = A.heap[k]? := fun k hB hk => hg.block k hk (fun e => by have := (hr k e.symm).1; omega)
  exact ⟨h.grown (B := B) hg (by omega) (fun i hi => (hr i hi).1), (hk nb (by omega) (blk_lt hn)).trans hn, (hk tb (by omega) (blk_lt ht)).trans ht, hc.keep (hk CB (by omega) hc.lt) (hk cb (by omega) hc.ltb), hd.grown (B := B) (fun D h => by have := hD D h; omega) hg (fun i hi => (hr i hi).1), h1, h2, h3, h4, h5, hD⟩

section
variable {W w w' : World} {P O R WB PB g b g2 b2 N : Nat} {room : Int} {bits : Nat} {l : List S72} {wv : Value} {kind : Int} {oth : Bool} {key v n keys : Int} {pl : List S72} {p nb tb CB cb B : Nat} {Ds : List Nat} {pre : List (Int × Int)}
theorem DsOk.ne {N : Nat} {Ds : List Nat} {w : World} (h : DsOk N Ds w) {k : Nat} {cs : Array Value} {t : TypeId} {f : Nat × Nat} (hk : w.heap[k]? = some (.cells cs t f)) : ∀ D ∈ Ds, D ≠ k := fun D hD e => by
  have := (h.blk D hD).2
  rw [e, hk] at this
  cases this
/-- A later key. -/
theorem GoJ.more (h : GoJ W P O R WB PB g b g2 b2 N room bits l wv kind oth key v n keys pl p nb tb CB cb B Ds pre w) (hp : pre ≠ []) (x : Int × Int) :
    GoJ W P O R WB PB g b g2 b2 N room bits l wv kind oth key v n keys pl p nb tb CB cb B Ds (pre ++ [x]) (w.setCell ⟨nb, 0, none⟩ (.int .i64 ((pre.length : Int) + 1))) := by
  obtain ⟨h, hn, ht, hc, hd, h1, h2, h3, h4, h5, hD⟩ := h
  have hf : Fr (fun i => i = nb) w (w.setCell ⟨nb, 0, none⟩ (.int .i64 ((pre.length : Int) + 1))) := (Fr.refl (fun i => i = nb) w).setCell (p := ⟨nb, 0, none⟩) (.inl rfl) _
  have hlen : ((pre ++ [x]).length : Int) = (pre.length : Int) + 1 := by rw [List.length_append, List.length_singleton]; omega
  obtain ⟨y, ys, rfl⟩ : ∃ y ys, pre = y :: ys := List.exists_cons_of_ne_nil hp
  refine ⟨h.below ⟨hf.os, hf.tape, hf.output, hf.size, fun i hi => hf.block i (by have := h.hN; omega) (by omega)⟩, ?_, hf.blk ht (by omega), hc.fr hf (by omega) (by omega), hd.fr hf (fun D hD' => hd.ne hn D hD'), h1, h2, h3, h4, h5, hD⟩
  rw [hlen]; exact blk_set hn 0 _
/-- The first key: another one is turned. -/
theorem GoJ.first (h : GoJ W P O R WB PB g b g2 b2 N room bits l wv kind oth key v n keys pl p nb tb CB cb B Ds [] w) (x : Int × Int) (hl : Live w' g b room (tuK room keys pl p) bits (tuL bits room keys pl p key)) (k : Fr (fun i => i = g ∨ i = b) w w') :
    GoJ W P O R WB PB g b g2 b2 N room bits l wv kind oth key v n keys pl p nb tb CB cb B Ds [x] ((w'.setCell ⟨tb, 0, none⟩ (.bool (tuT room keys pl p))).setCell ⟨nb, 0, none⟩ (.int .i64 1)) ∧ w'.heap[nb]? = some (.cells #[.int .i64 0] 3 (0, 0)) ∧ w'.heap[tb]? = some (.cells #[.bool false] 4 (0, 0)) := by
  obtain ⟨h, hn, ht, hc, hd, h1, h2, h3, h4, h5, hD⟩ := h
  have o := h.ord
  have := o.g0; have := o.b0; have := o.hP; have := o.pN
  have hst := h.xcall hl k
  have hn' := k.blk hn (by omega)
  have ht' := k.blk ht (by omega)
  have hc' := hc.fr k (by omega) (by omega)
  have hd' := hd.fr k (fun D hD' => by have := (hd.blk D hD').1; omega)
  have hf : Fr (fun i => i = tb ∨ i = nb) w' ((w'.setCell ⟨tb, 0, none⟩ (.bool (tuT room keys pl p))).setCell ⟨nb, 0, none⟩ (.int .i64 1)) := ((Fr.refl (fun i => i = tb ∨ i = nb) w').setCell (p := ⟨tb, 0, none⟩) (.inl (.inl rfl)) _).setCell (p := ⟨nb, 0, none⟩) (.inl (.inr rfl)) _
  refine ⟨⟨hst.below ⟨hf.os, hf.tape, hf.output, hf.size, fun i hi => hf.block i (by have := hst.hN; omega) (by omega)⟩, ?_, ?_, hc'.fr hf (by omega) (by omega), hd'.fr hf (fun D hD' e => e.elim (hd'.ne ht' D hD') (hd'.ne hn' D hD')), h1, h2, h3, h4, h5, hD⟩, hn', ht'⟩
  · have e1 : (w'.setCell ⟨tb, 0, none⟩ (.bool (tuT room keys pl p))).heap[nb]? = some (.cells #[.int .i64 0] 3 (0, 0)) := (Below.heap_setCell w' ⟨tb, 0, none⟩ _ nb (by show nb ≠ tb; omega)).trans hn'
    exact blk_set e1 0 _
  · have e1 := blk_set ht' 0 (.bool (tuT room keys pl p))
    exact (Below.heap_setCell _ ⟨nb, 0, none⟩ _ tb (by show tb ≠ nb; omega)).trans e1
end

/-- goes leaves. -/
theorem goes_end {W w : World} {P O R WB PB g b g2 b2 N : Nat} {room : Int} {bits : Nat} {l : List S72} {wv : Value} {kind : Int} {oth : Bool} {key v n k1 : Int} {p1 : List S72} {Ds : List Nat} {tmps : Array Value}
    (h : GoS W P O R WB PB g b g2 b2 N room bits l wv kind oth key v n k1 p1 k1 p1 w) (hd : DsOk N Ds w) (ht : tmps.getD 4 undef = .pointer (some ⟨R, 0, none⟩)) :
    LeavesInM Fence.wide 8 Try.prog Try.f36 tmps (fun e W' => e = Ending.returned (.bool true) ∧ (∃ k' pl', Live W' g b room k' bits pl' ∧ Rt W' g2 b2 room k' pl') ∧ Fr (fun i => i = g ∨ i = b ∨ i = g2 ∨ i = b2) W W') (Ds.map mark) .returning (w.setCell ⟨R, 0, none⟩ (.bool true)) := by
  have o := h.ord
  have hR := o.hR
  have hN := o.rN
  have hf : Fr (fun i => i = R) w (w.setCell ⟨R, 0, none⟩ (.bool true)) := (Fr.refl (fun i => i = R) w).setCell (p := ⟨R, 0, none⟩) (.inl rfl) _
  have hr := blk_set h.rbk 0 (.bool true)
  have hb : Below W.heap.size w (w.setCell ⟨R, 0, none⟩ (.bool true)) := (Below.refl _ w).setCell (p := ⟨R, 0, none⟩) hR _
  have g0 := o.g0; have b0 := o.b0; have g20 := o.g20; have b20 := o.b20
  have hP := o.hP; have pN := o.pN
  refine leaves_marks N Ds _ (hd.fr hf (fun D hD e => by have := (hd.blk D hD).1; omega)) (fun w' k => ?_)
  refine ⟨.bool true, results_bool rfl ht ((blk_cell ((k.block R hN).trans hr) 0).trans rfl), rfl, ⟨k1, p1, ?_, ?_⟩, ?_⟩
  · exact (h.x.keep (hb.block g g0) (hb.block b b0)).keep (k.block g (by omega)) (k.block b (by omega))
  · exact (h.y.keep (hb.block g2 g20) (hb.block b2 b20)).keep (k.block g2 (by omega)) (k.block b2 (by omega))
  · have h1 := h.fr.setCell (p := ⟨R, 0, none⟩) (.inr hR) (.bool true)
    exact h1.trans (S2 := fun i => N ≤ i) ⟨k.os, k.tape, k.output, k.size, fun i hi hn => k.block i (by omega)⟩ (fun i hi => .inr (by omega))

/-- Behind the third going. -/
structure GoE (W : World) (P O R WB PB g b g2 b2 N : Nat) (room : Int) (bits : Nat) (l : List S72) (wv : Value) (kind : Int) (oth : Bool) (key v n : Int) (k1 : Int) (p1 : List S72) (k2 : Int) (p2 : List S72) (nb q : Nat) (Ds : List Nat) (w : World) : Prop where
  st : GoS W P O R WB PB g b g2 b2 N room bits l wv kind oth key v n k1 p1 k2 p2 w
  nbx : w.heap[nb]? = some (.cells #[.int .i64 (q : Int)] 3 (0, 0))
  ds : DsOk N Ds w
  h1 : N ≤ nb
namespace GoE
variable {W w w' : World} {P O R WB PB g b g2 b2 N : Nat} {room : Int} {bits : Nat} {l : List S72} {wv : Value} {kind : Int} {oth : Bool} {key v n k1 : Int} {p1 : List S72} {k2 k2' : Int} {p2 p2' : List S72} {nb q : Nat} {Ds : List Nat}
theorem below (h : GoE W P O R WB PB g b g2 b2 N room bits l wv kind oth key v n k1 p1 k2 p2 nb q Ds w) (k : Below w.heap.size w w') : GoE W P O R WB PB g b g2 b2 N room bits l wv kind oth key v n k1 p1 k2 p2 nb q Ds w' :=
  ⟨h.st.below (k.mono h.st.hN), blk_below h.nbx k, h.ds.below h.ds.lt k, h.h1⟩
theorem drewN (h : GoE W P O R WB PB g b g2 b2 N room bits l wv kind oth key v n k1 p1 k2 p2 nb q Ds w) (m : Nat) : GoE W P O R WB PB g b g2 b2 N room bits l wv kind oth key v n k1 p1 k2 p2 nb q Ds (w.drewN m) :=
  h.below ⟨rfl, rfl, rfl, Nat.le_refl _, fun _ _ => rfl⟩
theorem ycall (h : GoE W P O R WB PB g b g2 b2 N room bits l wv kind oth key v n k1 p1 k2 p2 nb q Ds w) (hl : Rt w' g2 b2 room k2' p2') (k : Fr (fun i => i = g2 ∨ i = b2) w w') : GoE W P O R WB PB g b g2 b2 N room bits l wv kind oth key v n k1 p1 k2' p2' nb q Ds w' := by
  have o := h.st.ord
  have := o.g20; have := o.b20; have := o.hP; have := o.pN; have := h.h1
  exact ⟨h.st.ycall hl k, k.blk h.nbx (by omega), h.ds.fr k (fun D hD => by have := (h.ds.blk D hD).1; omega), h.h1⟩
/-- What the last line reads. -/
theorem cells (h : GoE W P O R WB PB g b g2 b2 N room bits l wv kind oth key v n k1 p1 k2 p2 nb q Ds w) :
    (w.cell? ⟨P, 0, none⟩ = some (.pointer (some ⟨g, 0, none⟩)) ∧ w.cell? ⟨P, 1, none⟩ = some (.pointer (some ⟨g2, 0, none⟩))) ∧ w.cell? ⟨O, 2, none⟩ = some (.int .u64 key) ∧ (w.cell? ⟨R, 0, none⟩ = some (.bool false) ∧ w.frozen? ⟨R, 0, none⟩ = false) ∧ w.cell? ⟨WB, 0, none⟩ = some wv ∧ w.cell? ⟨nb, 0, none⟩ = some (.int .i64 (q : Int)) :=
  ⟨⟨(blk_cell h.st.pbk 0).trans rfl, (blk_cell h.st.pbk 1).trans rfl⟩, (blk_cell h.st.obk 2).trans rfl, ⟨(blk_cell h.st.rbk 0).trans rfl, blk_frozen h.st.rbk 0⟩, (blk_cell h.st.wbk 0).trans rfl, (blk_cell h.nbx 0).trans rfl⟩
end GoE
theorem tT_false {room keys : Int} {bits : Nat} {pl : List S72} {p : Nat} {key : Int} {pre : List (Int × Int)} (h : tT room keys pl p pre = false) : kT room keys pl p pre = keys ∧ lT bits room keys pl p key pre = pl := by
  unfold tT at h
  unfold kT lT
  cases he : pre.isEmpty with
  | true => exact ⟨rfl, rfl⟩
  | false =>
    rw [he] at h
    simp only [Bool.false_eq_true, if_false] at h ⊢
    unfold tuT at h
    rw [Bool.or_eq_false_iff] at h
    have hk : keys = room := by simpa using h.2
    unfold tuK tuL
    rw [h.1]
    simp [hk]
theorem tT_true {room keys : Int} {bits : Nat} {pl : List S72} {p : Nat} {key : Int} {pre : List (Int × Int)} (h : tT room keys pl p pre = true) : tuT room keys pl p = true ∧ kT room keys pl p pre = tuK room keys pl p ∧ lT bits room keys pl p key pre = tuL bits room keys pl p key := by
  unfold tT at h
  unfold kT lT
  cases he : pre.isEmpty with
  | true => rw [he] at h; simp at h
  | false =>
    rw [he] at h
    simp only [Bool.false_eq_true, if_false] at h ⊢
    exact ⟨h, trivial, trivial⟩
end Go.Proofs.Ytmcaoecmjibegaa.PIx
namespace Go.Proofs.Ytmcaoecmjibegaa.PIx
open Go.RowKit Go.Proofs.YtmcaoecmjibegaaW.PrintWords Go.Proofs.YtmcaoecmjibegaaW.PrintLast Go.Proofs.YtmcaoecmjibegaaW.PrintMore

def puR (room keys : Int) (pl : List S72) (p : Nat) : Int := if us pl p = true then 81 else if keys = room then 80 else 0
def puK (room keys : Int) (pl : List S72) (p : Nat) : Int := if us pl p = true then keys else if keys = room then keys else keys + 1
def puL (room keys : Int) (pl : List S72) (p : Nat) (key v : Int) : List S72 := if us pl p = true then pl else if keys = room then pl else pl.set p ⟨⟨true, key⟩, v⟩
def dpV (pl : List S72) (p : Nat) : Int := if us pl p = true then vl pl p else 0
def dpK (keys : Int) (pl : List S72) (p : Nat) : Int := if us pl p = true then keys - 1 else keys
def dpL (bits : Nat) (pl : List S72) (p : Nat) : List S72 := if us pl p = true then dropP bits pl p else pl

theorem put_all {W : World} {g b : Nat} {room keys : Int} {bits : Nat} {pl : List S72} (h : Live W g b room keys bits pl) (key v : Int) {p : Nat} (he : Ends bits pl key p) :
    Calls Try.prog 19 #[.pointer (some ⟨g, 0, none⟩), .int .u64 key, .int .i64 v] W fun e w' => e = .returned (.int .i64 (puR room keys pl p)) ∧ Live w' g b room (puK room keys pl p) bits (puL room keys pl p key v) ∧ Fr (fun i => i = g ∨ i = b) W w' := by
  obtain ⟨hi, hf, hr⟩ := h
  unfold puR puK puL
  cases hu : us pl p with
  | true =>
    refine (put_there key v p hi hf he hr hu).mono ?_
    rintro e w' ⟨rfl, rfl⟩
    exact ⟨rfl, ⟨hi, hf, hr⟩, Fr.refl _ _⟩
  | false =>
    simp only [Bool.false_eq_true, if_false]
    by_cases hk : keys = room
    · simp only [if_pos hk]
      refine (put_full key v p hi hf he hr hu hk).mono ?_
      rintro e w' ⟨rfl, m, rfl⟩
      exact ⟨rfl, ⟨hi.keep rfl rfl, hf, hr⟩, (Fr.refl _ _).drewN m⟩
    · simp only [if_neg hk]
      refine (put_done key v p hi hf he hr hu hk).mono ?_
      rintro e w' ⟨rfl, h1, h2⟩
      exact ⟨rfl, ⟨h1, hf.put he hu (by have := hf.most; omega), hr⟩, h2⟩
theorem rput_all {W : World} {g b : Nat} {room keys : Int} {bits : Nat} {pl : List S72} (h : Rt W g b room keys pl) (hf : Fit room keys bits pl) (hr : room ≤ 65536) (key v : Int) {p : Nat} (he : Ends bits pl key p) :
    Calls Try.prog 33 #[.pointer (some ⟨g, 0, none⟩), .int .u64 key, .int .i64 v] W fun e w' => e = .returned (.int .i64 (puR room keys pl p)) ∧ Rt w' g b room (puK room keys pl p) (puL room keys pl p key v) ∧ Fr (fun i => i = g ∨ i = b) W w' := by
  unfold puR puK puL
  cases hu : us pl p with
  | true =>
    refine (rput_there key v p h hf he hu).mono ?_
    rintro e w' ⟨rfl, m, rfl⟩
    exact ⟨rfl, h.keep rfl rfl, (Fr.refl _ _).drewN m⟩
  | false =>
    simp only [Bool.false_eq_true, if_false]
    by_cases hk : keys = room
    · simp only [if_pos hk]
      refine (rput_full key v p h hf he hu hk).mono ?_
      rintro e w' ⟨rfl, m, rfl⟩
      exact ⟨rfl, h.keep rfl rfl, (Fr.refl _ _).drewN m⟩
    · simp only [if_neg hk]
      exact rput_done key v p h hf he hr hu hk
theorem drop_all {W : World} {g b : Nat} {room keys : Int} {bits : Nat} {pl : List S72} (h : Live W g b room keys bits pl) (key : Int) {p : Nat} (he : Ends bits pl key p) :
    Calls Try.prog 18 #[.pointer (some ⟨g, 0, none⟩), .int .u64 key] W fun e w' => e = .returned (.tuple #[.int .i64 (dpV pl p), .bool (us pl p)]) ∧ Live w' g b room (dpK keys pl p) bits (dpL bits pl p) ∧ Fr (fun i => i = g ∨ i = b) W w' := by
  obtain ⟨hi, hf, hr⟩ := h
  unfold dpV dpK dpL
  cases hu : us pl p with
  | true =>
    refine (drop_done key p hi hf he hr hu).mono ?_
    rintro e w' ⟨rfl, h1, h2⟩
    exact ⟨rfl, ⟨h1, (hf.drop he.1 hu).1, hr⟩, h2⟩
  | false =>
    refine (drop_none key p hi hf he hu).mono ?_
    rintro e w' ⟨rfl, h1⟩
    exact ⟨rfl, ⟨hi.below h1, hf, hr⟩, (Fr.refl _ _).below h1⟩
theorem rdrop_all {W : World} {g b : Nat} {room keys : Int} {bits : Nat} {pl : List S72} (h : Rt W g b room keys pl) (hf : Fit room keys bits pl) (hr : room ≤ 65536) (key : Int) {p : Nat} (he : Ends bits pl key p) :
    Calls Try.prog 35 #[.pointer (some ⟨g, 0, none⟩), .int .u64 key] W fun e w' => e = .returned (.tuple #[.int .i64 (dpV pl p), .bool (us pl p)]) ∧ Rt w' g b room (dpK keys pl p) (dpL bits pl p) ∧ Fr (fun i => i = g ∨ i = b) W w' := by
  unfold dpV dpK dpL
  cases hu : us pl p with
  | true => exact rdrop_done key p h hf he hr hu
  | false =>
    refine (rdrop_none key p h hf he hu).mono ?_
    rintro e w' ⟨rfl, m, rfl⟩
    exact ⟨rfl, h.keep rfl rfl, (Fr.refl _ _).drewN m⟩

/-- A pair: the program's index and the document's, alike. -/
structure Pr (W : World) (g b g2 b2 : Nat) (room keys : Int) (bits : Nat) (pl : List S72) : Prop where
  x : Live W g b room keys bits pl
  y : Rt W g2 b2 room keys pl
  ne1 : g2 ≠ g
  ne2 : g2 ≠ b
  ne3 : b2 ≠ g
  ne4 : b2 ≠ b
namespace Pr
variable {W W' : World} {g b g2 b2 : Nat} {room keys keys' : Int} {bits : Nat} {pl pl' : List S72}
theorem keep (h : Pr W g b g2 b2 room keys bits pl) (h1 : W'.heap[g]? = W.heap[g]?) (h2 : W'.heap[b]? = W.heap[b]?) (h3 : W'.heap[g2]? = W.heap[g2]?) (h4 : W'.heap[b2]? = W.heap[b2]?) : Pr W' g b g2 b2 room keys bits pl :=
  ⟨h.x.keep h1 h2, h.y.keep h3 h4, h.ne1, h.ne2, h.ne3, h.ne4⟩
theorem below (h : Pr W g b g2 b2 room keys bits pl) (k : Below W.heap.size W W') : Pr W' g b g2 b2 room keys bits pl := ⟨h.x.below k, h.y.below k, h.ne1, h.ne2, h.ne3, h.ne4⟩
theorem fr {S : Nat → Prop} (h : Pr W g b g2 b2 room keys bits pl) (k : Fr S W W') (h1 : ¬ S g) (h2 : ¬ S b) (h3 : ¬ S g2) (h4 : ¬ S b2) : Pr W' g b g2 b2 room keys bits pl := ⟨h.x.fr k h1 h2, h.y.fr k h3 h4, h.ne1, h.ne2, h.ne3, h.ne4⟩
theorem both {w1 w2 : World} (h : Pr W g b g2 b2 room keys bits pl) (l1 : Live w1 g b room keys' bits pl') (f1 : Fr (fun i => i = g ∨ i = b) W w1) (l2 : Rt w2 g2 b2 room keys' pl') (f2 : Fr (fun i => i = g2 ∨ i = b2) w1 w2) :
    Pr w2 g b g2 b2 room keys' bits pl' ∧ Fr (fun i => i = g ∨ i = b ∨ i = g2 ∨ i = b2) W w2 := by
  refine ⟨⟨l1.fr f2 (fun e => e.elim (fun e => h.ne1 e.symm) (fun e => h.ne3 e.symm)) (fun e => e.elim (fun e => h.ne2 e.symm) (fun e => h.ne4 e.symm)), l2, h.ne1, h.ne2, h.ne3, h.ne4⟩, ?_⟩
  exact (f1.mono (S' := fun i => i = g ∨ i = b ∨ i = g2 ∨ i = b2) (fun i hi => .inl (hi.elim .inl (fun e => .inr (.inl e))))).trans f2 (fun i hi => .inl (.inr (.inr hi)))
theorem y1 {w1 : World} (h : Pr W g b g2 b2 room keys bits pl) (f1 : Fr (fun i => i = g ∨ i = b) W w1) : Rt w1 g2 b2 room keys pl := h.y.fr f1 (fun e => e.elim h.ne1 h.ne2) (fun e => e.elim h.ne3 h.ne4)
theorem lt (h : Pr W g b g2 b2 room keys bits pl) : g < W.heap.size ∧ b < W.heap.size ∧ g2 < W.heap.size ∧ b2 < W.heap.size := ⟨h.x.1.lt, h.x.1.ltb, h.y.lt, h.y.ltb⟩
end Pr
/-- What a step leaves. -/
def Stepped (W : World) (g b g2 b2 : Nat) (room : Int) (bits : Nat) (w' : World) : Prop :=
  ∃ b' b2' k' pl', Pr w' g b' g2 b2' room k' bits pl' ∧ (b' = b ∨ W.heap.size ≤ b') ∧ (b2' = b2 ∨ W.heap.size ≤ b2') ∧ Fr (fun i => i = g ∨ i = b ∨ i = g2 ∨ i = b2) W w'
end Go.Proofs.Ytmcaoecmjibegaa.PIx
namespace Go.Proofs.Ytmcaoecmjibegaa.PIx
open Go.RowKit Go.ChangeShapes Go.WideShapes Go.Deep
open Go.Proofs.YtmcaoecmjibegaaW.PrintWords Go.Proofs.YtmcaoecmjibegaaW.PrintLast Go.Proofs.YtmcaoecmjibegaaW.PrintMore

/-- The script's calls, read. -/
def Opp (w : World) (A : Option Addr) (n : Nat) (f : Nat → Int × Bool × Int × Int × Int) : Prop :=
  ∀ i, i < n → ∃ ab ao, A = some ⟨ab, ao, none⟩ ∧ w.cell? ⟨ab, ao + i * 5, none⟩ = some (.int .i64 (f i).1) ∧ w.cell? ⟨ab, ao + i * 5 + 1, none⟩ = some (.bool (f i).2.1) ∧ w.cell? ⟨ab, ao + i * 5 + 2, none⟩ = some (.int .u64 (f i).2.2.1) ∧
    w.cell? ⟨ab, ao + i * 5 + 3, none⟩ = some (.int .i64 (f i).2.2.2.1) ∧ w.cell? ⟨ab, ao + i * 5 + 4, none⟩ = some (.int .i64 (f i).2.2.2.2)

theorem cell_block {w : World} {p : Addr} {v : Value} (h : w.cell? p = some v) : p.block < w.heap.size := by
  by_cases c : p.block < w.heap.size
  · exact c
  · have hn : w.heap[p.block]? = none := by simpa using (by omega : w.heap.size ≤ p.block)
    unfold World.cell? at h
    cases hs : p.spot <;> simp [hs, hn] at h
theorem Opp.below {w w' : World} {A : Option Addr} {n : Nat} {f : Nat → Int × Bool × Int × Int × Int} (h : Opp w A n f) (k : Below w.heap.size w w') : Opp w' A n f := by
  intro i hi
  obtain ⟨ab, ao, hA, h0, h1, h2, h3, h4⟩ := h i hi
  have hb : ab < w.heap.size := cell_block h0
  exact ⟨ab, ao, hA, (k.cell (p := ⟨ab, ao + i * 5, none⟩) hb).trans h0, (k.cell (p := ⟨ab, ao + i * 5 + 1, none⟩) hb).trans h1, (k.cell (p := ⟨ab, ao + i * 5 + 2, none⟩) hb).trans h2, (k.cell (p := ⟨ab, ao + i * 5 + 3, none⟩) hb).trans h3, (k.cell (p := ⟨ab, ao + i * 5 + 4, none⟩) hb).trans h4⟩

theorem open_op {H : Type} {enc : TypeId × Value → H} {w : World} {base : Nat} {spare : Nat → Bool} {held : Bool} {fuel : Nat} {cs : List Value} {x : DataW H × List MemPlace} (h : DataW.trod enc Try.prog w base spare held fuel 62 cs = some x) :
    ∃ (a : Int) (d : Bool) (k v n : Int), cs = [.int .i64 a, .bool d, .int .u64 k, .int .i64 v, .int .i64 n] := by
  obtain ⟨xs, m, _, _, hl, hxl, hf⟩ := DataW.trod_struct Try.underlying62 h
  have hc : Try.prog.cellsOf 62 = 5 := by kernel_rfl
  rw [hc] at hl
  have c4 : Try.prog.cellsOf 4 = 1 := by kernel_rfl
  have c22 : Try.prog.cellsOf 22 = 1 := by kernel_rfl
  have c3 : Try.prog.cellsOf 3 = 1 := by kernel_rfl
  have f0 : DataW.trod enc Try.prog w base spare held m 3 ((cs.drop 0).take (Try.prog.cellsOf 3)) = xs[0]? := hf 0 _ rfl
  have f1 : DataW.trod enc Try.prog w base spare held m 4 ((cs.drop 1).take (Try.prog.cellsOf 4)) = xs[1]? := hf 1 _ rfl
  have f2 : DataW.trod enc Try.prog w base spare held m 22 ((cs.drop 2).take (Try.prog.cellsOf 22)) = xs[2]? := hf 2 _ rfl
  have f3 : DataW.trod enc Try.prog w base spare held m 3 ((cs.drop 3).take (Try.prog.cellsOf 3)) = xs[3]? := hf 3 _ rfl
  have f4 : DataW.trod enc Try.prog w base spare held m 3 ((cs.drop 4).take (Try.prog.cellsOf 3)) = xs[4]? := hf 4 _ rfl
  rw [c3] at f0 f3 f4
  rw [c4] at f1
  rw [c22] at f2
  rw [take_one (by omega)] at f0 f1 f2 f3 f4
  have hs : xs.length = 5 := by rw [hxl]; rfl
  rw [List.getElem?_eq_getElem (by omega)] at f0 f1 f2 f3 f4
  obtain ⟨a, e0, _⟩ := DataW.trod_int Try.underlying3 f0
  obtain ⟨d, e1, _⟩ := DataW.trod_bool Try.underlying4 f1
  obtain ⟨k, e2, _⟩ := DataW.trod_int Try.underlying22 f2
  obtain ⟨v, e3, _⟩ := DataW.trod_int Try.underlying3 f3
  obtain ⟨n, e4, _⟩ := DataW.trod_int Try.underlying3 f4
  match cs, hl with
  | [a', b, c, d', e], _ =>
    simp only [List.cons.injEq, and_true] at e0 e1 e2 e3 e4
    exact ⟨a, d, k, v, n, by rw [← e0, ← e1, ← e2, ← e3, ← e4]; rfl⟩

theorem open_opps {H : Type} {enc : TypeId × Value → H} {w : World} {base : Nat} {spare : Nat → Bool} {held : Bool} {fuel : Nat} {A : Option Addr} {len cap : Nat} {x : DataW H × List MemPlace} (h : DataW.trod enc Try.prog w base spare held fuel 60 [.slice A len cap] = some x) :
    len ≤ 9223372036854775807 ∧ ∃ f, Opp w A len f := by
  rcases open_slice Try.underlying60 h with ⟨h0, _⟩ | ⟨a, l, c, m, n, D, Pl, hcs, hb, hl, hm, hmm, _, hi⟩
  · simp only [List.cons.injEq, Value.slice.injEq, and_true] at h0
    obtain ⟨_, rfl, _⟩ := h0
    exact ⟨by omega, fun _ => (0, false, 0, 0, 0), fun i hi => absurd hi (Nat.not_lt_zero i)⟩
  · simp only [List.cons.injEq, Value.slice.injEq, and_true] at hcs
    obtain ⟨rfl, rfl, rfl⟩ := hcs
    have hc : Try.prog.cellsOf 62 = 5 := by kernel_rfl
    have hlm : len ≤ m := by rw [hmm]; split <;> omega
    have hM : maxLen = 9223372036854775807 := by decide
    have hcell : ∀ i, i < len → ∃ y : Int × Bool × Int × Int × Int, w.cell? (a.add (i * 5)) = some (.int .i64 y.1) ∧ w.cell? ((a.add (i * 5)).add 1) = some (.bool y.2.1) ∧ w.cell? ((a.add (i * 5)).add 2) = some (.int .u64 y.2.2.1) ∧ w.cell? ((a.add (i * 5)).add 3) = some (.int .i64 y.2.2.2.1) ∧ w.cell? ((a.add (i * 5)).add 4) = some (.int .i64 y.2.2.2.2) := by
      intro i hi'
      obtain ⟨cs', h1, h2⟩ := hi i (by omega)
      rw [hc] at h1
      obtain ⟨_, hcl, hat⟩ := World.cells?_some h1
      obtain ⟨a', d, k, v, n', rfl⟩ := open_op h2
      have z0 := hat 0 (by omega)
      have z1 := hat 1 (by omega)
      have z2 := hat 2 (by omega)
      have z3 := hat 3 (by omega)
      have z4 := hat 4 (by omega)
      have z0' : w.cell? ((a.add (i * 5)).add 0) = some (.int .i64 a') := z0
      refine ⟨(a', d, k, v, n'), ?_, z1, z2, z3, z4⟩
      have : (a.add (i * 5)).add 0 = a.add (i * 5) := Addr.add_zero' _
      rw [← this]
      exact z0'
    have hspot : 0 < len → a.spot = none := by
      intro h0
      obtain ⟨y, z0, _⟩ := hcell 0 h0
      have h1 : a.add (0 * 5) = a := by rw [Nat.zero_mul]; exact Addr.add_zero' _
      rw [h1] at z0
      exact World.cell?_spot z0
    have h2 : ∀ i, ∃ y : Int × Bool × Int × Int × Int, i < len → w.cell? (a.add (i * 5)) = some (.int .i64 y.1) ∧ w.cell? ((a.add (i * 5)).add 1) = some (.bool y.2.1) ∧ w.cell? ((a.add (i * 5)).add 2) = some (.int .u64 y.2.2.1) ∧ w.cell? ((a.add (i * 5)).add 3) = some (.int .i64 y.2.2.2.1) ∧ w.cell? ((a.add (i * 5)).add 4) = some (.int .i64 y.2.2.2.2) := by
      intro i
      by_cases hil : i < len
      · obtain ⟨y, hh⟩ := hcell i hil
        exact ⟨y, fun _ => hh⟩
      · exact ⟨(0, false, 0, 0, 0), fun h => absurd h hil⟩
    obtain ⟨f, hf⟩ := Classical.axiomOfChoice h2
    refine ⟨by omega, f, fun i hi' => ?_⟩
    obtain ⟨q0, q1, q2, q3, q4⟩ := hf i hi'
    have hs := hspot (by omega)
    obtain ⟨ab, ao, sp⟩ := a
    dsimp only at hs
    subst hs
    simp only [Addr.add_lit] at q0 q1 q2 q3 q4
    exact ⟨ab, ao, rfl, q0, q1, q2, q3, q4⟩

/-- Two pairs, apart. -/
structure Two (W : World) (xb yb g1 b1 h1 c1 g2 b2 h2 c2 : Nat) (m1 k1 : Int) (bits1 : Nat) (pl1 : List S72) (m2 k2 : Int) (bits2 : Nat) (pl2 : List S72) (w : World) : Prop where
  bel : Below W.heap.size W w
  xbk : w.heap[xb]? = some (.cells #[.pointer (some ⟨g1, 0, none⟩), .pointer (some ⟨h1, 0, none⟩)] 26 (0, 0))
  ybk : w.heap[yb]? = some (.cells #[.pointer (some ⟨g2, 0, none⟩), .pointer (some ⟨h2, 0, none⟩)] 26 (0, 0))
  p : Pr w g1 b1 h1 c1 m1 k1 bits1 pl1
  q : Pr w g2 b2 h2 c2 m2 k2 bits2 pl2
  hx : W.heap.size ≤ xb
  hy : W.heap.size ≤ yb
  lo : ∀ i, (i = g1 ∨ i = b1 ∨ i = h1 ∨ i = c1) ∨ (i = g2 ∨ i = b2 ∨ i = h2 ∨ i = c2) → W.heap.size ≤ i ∧ i ≠ xb ∧ i ≠ yb
  dis : ∀ i j, (i = g1 ∨ i = b1 ∨ i = h1 ∨ i = c1) → (j = g2 ∨ j = b2 ∨ j = h2 ∨ j = c2) → i ≠ j
namespace Two
variable {W w w' : World} {xb yb g1 b1 h1 c1 g2 b2 h2 c2 : Nat} {m1 k1 : Int} {bits1 : Nat} {pl1 : List S72} {m2 k2 : Int} {bits2 : Nat} {pl2 : List S72}
theorem below (h : Two W xb yb g1 b1 h1 c1 g2 b2 h2 c2 m1 k1 bits1 pl1 m2 k2 bits2 pl2 w) (k : Below w.heap.size w w') : Two W xb yb g1 b1 h1 c1 g2 b2 h2 c2 m1 k1 bits1 pl1 m2 k2 bits2 pl2 w' :=
  ⟨below_then h.bel h.bel.size k, blk_below h.xbk k, blk_below h.ybk k, h.p.below k, h.q.below k, h.hx, h.hy, h.lo, h.dis⟩
theorem swap (h : Two W xb yb g1 b1 h1 c1 g2 b2 h2 c2 m1 k1 bits1 pl1 m2 k2 bits2 pl2 w) : Two W yb xb g2 b2 h2 c2 g1 b1 h1 c1 m2 k2 bits2 pl2 m1 k1 bits1 pl1 w :=
  ⟨h.bel, h.ybk, h.xbk, h.q, h.p, h.hy, h.hx, fun i hi => by have := h.lo i hi.symm; omega, fun i j hi hj e => h.dis j i hj hi e.symm⟩
theorem stepx (h : Two W xb yb g1 b1 h1 c1 g2 b2 h2 c2 m1 k1 bits1 pl1 m2 k2 bits2 pl2 w) (s : Stepped w g1 b1 h1 c1 m1 bits1 w') :
    ∃ b1' c1' k1' pl1', Two W xb yb g1 b1' h1 c1' g2 b2 h2 c2 m1 k1' bits1 pl1' m2 k2 bits2 pl2 w' := by
  obtain ⟨b1', c1', k1', pl1', hp, hb, hc, hf⟩ := s
  obtain ⟨q1, q2, q3, q4⟩ := h.q.lt
  have hxl := blk_lt h.xbk
  have hyl := blk_lt h.ybk
  have hws := h.bel.size
  refine ⟨b1', c1', k1', pl1', ⟨?_, hf.blk h.xbk (fun e => (h.lo xb (.inl e)).2.1 rfl), hf.blk h.ybk (fun e => (h.lo yb (.inl e)).2.2 rfl), hp, h.q.fr hf (fun e => h.dis _ _ e (.inl rfl) rfl) (fun e => h.dis _ _ e (.inr (.inl rfl)) rfl) (fun e => h.dis _ _ e (.inr (.inr (.inl rfl))) rfl) (fun e => h.dis _ _ e (.inr (.inr (.inr rfl))) rfl), h.hx, h.hy, ?_, ?_⟩⟩
  · exact ((Fr.refl (fun i => i = g1 ∨ i = b1 ∨ i = h1 ∨ i = c1) W).below h.bel).trans hf (fun i hi => .inl hi) |>.toBelow (fun i hi => (h.lo i (.inl hi)).1)
  · rintro i ((rfl | rfl | rfl | rfl) | hi)
    · exact h.lo _ (.inl (.inl rfl))
    · rcases hb with rfl | hb
      · exact h.lo _ (.inl (.inr (.inl rfl)))
      · omega
    · exact h.lo _ (.inl (.inr (.inr (.inl rfl))))
    · rcases hc with rfl | hc
      · exact h.lo _ (.inl (.inr (.inr (.inr rfl))))
      · omega
    · exact h.lo _ (.inr hi)
  · rintro i j (rfl | rfl | rfl | rfl) hj
    · exact h.dis _ _ (.inl rfl) hj
    · rcases hb with rfl | hb
      · exact h.dis _ _ (.inr (.inl rfl)) hj
      · omega
    · exact h.dis _ _ (.inr (.inr (.inl rfl))) hj
    · rcases hc with rfl | hc
      · exact h.dis _ _ (.inr (.inr (.inr rfl))) hj
      · omega
theorem stepy (h : Two W xb yb g1 b1 h1 c1 g2 b2 h2 c2 m1 k1 bits1 pl1 m2 k2 bits2 pl2 w) (s : Stepped w g2 b2 h2 c2 m2 bits2 w') :
    ∃ b2' c2' k2' pl2', Two W xb yb g1 b1 h1 c1 g2 b2' h2 c2' m1 k1 bits1 pl1 m2 k2' bits2 pl2' w' := by
  obtain ⟨b2', c2', k2', pl2', h'⟩ := h.swap.stepx s
  exact ⟨b2', c2', k2', pl2', h'.swap⟩
theorem drewN (h : Two W xb yb g1 b1 h1 c1 g2 b2 h2 c2 m1 k1 bits1 pl1 m2 k2 bits2 pl2 w) (n : Nat) : Two W xb yb g1 b1 h1 c1 g2 b2 h2 c2 m1 k1 bits1 pl1 m2 k2 bits2 pl2 (w.drewN n) := h.below ⟨rfl, rfl, rfl, Nat.le_refl _, fun _ _ => rfl⟩
end Two
end Go.Proofs.Ytmcaoecmjibegaa.PIx
