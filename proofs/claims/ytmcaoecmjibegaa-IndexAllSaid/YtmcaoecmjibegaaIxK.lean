/- The index's Drop. -/
import Derived.Test.YtmcaoecmjibegaaIxI
import Derived.BigRegion
namespace Go.Proofs.Ytmcaoecmjibegaa.PIx
open Go.RowKit Go.Proofs.YtmcaoecmjibegaaW.PrintWords Go.Proofs.YtmcaoecmjibegaaW.PrintLast Go.Proofs.YtmcaoecmjibegaaW.PrintMore
set_option linter.unusedVariables false
set_option linter.unusedSimpArgs false

theorem Ix.set3 {W : World} {g b : Nat} {room keys : Int} {bits : Nat} {pl : List S72} (h : Ix W g b room keys bits pl) (i : Nat) (x' : S72) (hi : i < pl.length) :
    Ix (((W.setCell ⟨b, i * 3, none⟩ (.bool x'.f0.f0)).setCell ⟨b, i * 3 + 1, none⟩ (.int .u64 x'.f0.f1)).setCell ⟨b, i * 3 + 2, none⟩ (.int .i64 x'.f1)) g b room keys bits (pl.set i x') := by
  have hne := h.ne
  obtain ⟨c, hh, hr⟩ := h
  obtain ⟨cs, hl, hM, hc, hf⟩ := Kd.R_elem hr z72 (i : Int) (by omega) (by omega)
  simp only [Int.toNat_natCast] at hc
  have hs3 : k72.sz = 3 := rfl
  have h6 : cs.drop 3 = [] := List.drop_eq_nil_of_le (by rw [hl, hs3]; exact Nat.le_refl _)
  have h5 := k72_mkM W 0 (fun _ => False) x'
  obtain ⟨h1, h3⟩ := Kd.R_seg hr (i : Int) (by omega) (by omega) (c := cs) (seg := [.bool x'.f0.f0, .int .u64 x'.f0.f1, .int .i64 x'.f1]) (j := 0) (x' := x') (okp := fun _ => False) hl (by simpa using hc) (by simp [hs3]) (by simpa [h6] using h5) (fun _ hk => hk.elim)
  have h7 : W.setCells b ((i : Int).toNat * k72.sz + 0) [.bool x'.f0.f0, .int .u64 x'.f0.f1, .int .i64 x'.f1] = (((W.setCell ⟨b, i * 3, none⟩ (.bool x'.f0.f0)).setCell ⟨b, i * 3 + 1, none⟩ (.int .u64 x'.f0.f1)).setCell ⟨b, i * 3 + 2, none⟩ (.int .i64 x'.f1)) := rfl
  rw [h7] at h1 h3
  refine ⟨c, (h3.block g (blk_lt hh) (fun e => hne (Option.some.inj e))).trans ?_, ?_⟩
  · rw [List.length_set]; exact hh
  · rw [List.length_set]; simpa using h1

theorem Ix.drew {W : World} {g b : Nat} {room keys : Int} {bits : Nat} {pl : List S72} (h : Ix W g b room keys bits pl) : Ix W.drew g b room keys bits pl := h.keep rfl rfl

theorem Ix.moved {w2 : World} {g b : Nat} {room keys : Int} {bits : Nat} {cur : List S72} (h' : Ix w2 g b room keys bits cur) (h j : Nat) (hh : h < cur.length) (hj : j < cur.length) (y1 y2 : Int) (hy : pa cur j = ⟨⟨true, y1⟩, y2⟩) :
    Ix (World.drew ((((((w2.setCell ⟨b, h * 3, none⟩ (.bool true)).setCell ⟨b, h * 3 + 1, none⟩ (.int .u64 y1)).setCell ⟨b, h * 3 + 2, none⟩ (.int .i64 y2)).setCell ⟨b, j * 3, none⟩ (.bool false)).setCell ⟨b, j * 3 + 1, none⟩ (.int .u64 0)).setCell ⟨b, j * 3 + 2, none⟩ (.int .i64 0))) g b room keys bits (mv cur h j) ∧ Fr (fun k => k = b) w2 (World.drew ((((((w2.setCell ⟨b, h * 3, none⟩ (.bool true)).setCell ⟨b, h * 3 + 1, none⟩ (.int .u64 y1)).setCell ⟨b, h * 3 + 2, none⟩ (.int .i64 y2)).setCell ⟨b, j * 3, none⟩ (.bool false)).setCell ⟨b, j * 3 + 1, none⟩ (.int .u64 0)).setCell ⟨b, j * 3 + 2, none⟩ (.int .i64 0))) := by
  refine ⟨?_, ?_⟩
  · have h1 : mv cur h j = (cur.set h ⟨⟨true, y1⟩, y2⟩).set j z72 := by unfold mv; rw [hy]
    rw [h1]
    refine Ix.drew ?_
    exact (h'.set3 h ⟨⟨true, y1⟩, y2⟩ hh).set3 j z72 (by rw [List.length_set]; exact hj)
  · have h2 := Fr.refl (fun k => k = b) w2
    have h3 := h2.setCell (p := ⟨b, h * 3, none⟩) (.inl rfl) (.bool true)
    have h4 := h3.setCell (p := ⟨b, h * 3 + 1, none⟩) (.inl rfl) (.int .u64 y1)
    have h5 := h4.setCell (p := ⟨b, h * 3 + 2, none⟩) (.inl rfl) (.int .i64 y2)
    have h6 := h5.setCell (p := ⟨b, j * 3, none⟩) (.inl rfl) (.bool false)
    have h7 := h6.setCell (p := ⟨b, j * 3 + 1, none⟩) (.inl rfl) (.int .u64 0)
    have h8 := h7.setCell (p := ⟨b, j * 3 + 2, none⟩) (.inl rfl) (.int .i64 0)
    exact h8.drew

set_option maxHeartbeats 8000000 in
set_option maxRecDepth 100000 in
theorem drop_none {W : World} {g b : Nat} {room keys : Int} {bits : Nat} {pl : List S72} (key : Int) (p : Nat) (h : Ix W g b room keys bits pl) (hf : Fit room keys bits pl) (he : Ends bits pl key p) (hu : us pl p = false) :
    Calls Try.prog 18 #[.pointer (some ⟨g, 0, none⟩), .int .u64 key] W fun e w' => e = .returned (.tuple #[.int .i64 0, .bool false]) ∧ Below W.heap.size W w' := by
  obtain ⟨c, ⟨hc0, hc1, _, hc3⟩, hfz, _⟩ := h.cells
  have hn : pl.length ≤ 131072 := by rw [hf.len]; exact Nat.le_trans (Nat.pow_le_pow_right (by decide) hf.hb) (by decide)
  have hp := he.1
  obtain ⟨⟨p0, p1, p2⟩, pf⟩ := h.elem p hp
  have hmd := md_dist (hf.wf.home key) hp
  have X := find_calls key (dist pl.length (homeN bits key) p) h hf.hb hf.len (by rw [hmd]; exact he.2.1) he.2.2
  rw [hmd] at X
  have XX := Aside0.mk X
  obtain ⟨n, hN⟩ : ∃ n, n = pl.length := ⟨_, rfl⟩
  rw [← hN] at hc3 hn hp
  rw [show (pa pl p).f0.f0 = us pl p from rfl, hu] at p0
  rw [show (pa pl p).f1 = vl pl p from rfl, hf.zer p hu] at p2
  obtain ⟨x1, h1⟩ : ∃ x, x = (pa pl p).f0.f1 := ⟨_, rfl⟩
  rw [← h1] at p1
  clear X h hf he hmd hN hfz pf h1 hu
  go_enter Try.func18, Try.ntmps18
  go_wp2_with (first | ((with_reducible refine gate_callee (f := 27) rfl ?_); refine goesL_ (some 11) rfl rfl Try.func27 (by kernel_rfl) rfl #[.pointer (some ⟨g, 0, none⟩), .int .u64 key] rfl (by (try simp only [List.map_toArray, List.map_cons, List.map_nil]); first | done | rfl) ?_; (with_reducible refine (XX.out).mono ?_); rintro e w4 ⟨rfl, h4⟩; subst w4; refine ⟨_, rfl, ?_⟩))
  go_ret2
  exact ⟨rfl, (Below.refl W.heap.size W).alloc (Nat.le_refl _) _⟩

theorem Fit.pos {room keys : Int} {bits : Nat} {pl : List S72} (h : Fit room keys bits pl) {p : Nat} (hp : p < pl.length) (hu : us pl p = true) : 1 ≤ keys := by
  have : 0 < cnt pl := List.countP_pos_iff.mpr ⟨pl[p], List.getElem_mem hp, by rw [← us_get hp]; exact hu⟩
  have := h.num
  omega

set_option maxHeartbeats 8000000 in
set_option maxRecDepth 100000 in
theorem drop_done {W : World} {g b : Nat} {room keys : Int} {bits : Nat} {pl : List S72} (key : Int) (p : Nat) (h : Ix W g b room keys bits pl) (hf : Fit room keys bits pl) (he : Ends bits pl key p) (hr : room ≤ 65536) (hu : us pl p = true) :
    Calls Try.prog 18 #[.pointer (some ⟨g, 0, none⟩), .int .u64 key] W fun e w' => e = .returned (.tuple #[.int .i64 (vl pl p), .bool true]) ∧ Ix w' g b room (keys - 1) bits (dropP bits pl p) ∧ Fr (fun k => k = g ∨ k = b) W w' := by
  obtain ⟨c, ⟨hc0, hc1, _, hc3⟩, hfz, _⟩ := h.cells
  have hn : pl.length ≤ 131072 := by rw [hf.len]; exact Nat.le_trans (Nat.pow_le_pow_right (by decide) hf.hb) (by decide)
  have hp := he.1
  have hk1 := hf.pos hp hu
  have hk2 : keys ≤ 65536 := by have := hf.most; omega
  obtain ⟨⟨p0, p1, p2⟩, pf⟩ := h.elem p hp
  have hmd := md_dist (hf.wf.home key) hp
  have X := find_calls key (dist pl.length (homeN bits key) p) h hf.hb hf.len (by rw [hmd]; exact he.2.1) he.2.2
  rw [hmd] at X
  have XX := Aside0.mk X
  have hg := h.lt
  have hb := h.ltb
  have HG := Aside0.mk hg
  have HB := Aside0.mk hb
  have HI := Aside0.mk h
  have HNE := Aside0.mk h.ne
  have HW : Aside0 (∀ o, Ix ((W.setCell ⟨g, 1, none⟩ (.int .i64 (keys - 1))).alloc o) g b room (keys - 1) bits pl ∧ Fr (fun k => k = g ∨ k = b) W ((W.setCell ⟨g, 1, none⟩ (.int .i64 (keys - 1))).alloc o) ∧ ((W.setCell ⟨g, 1, none⟩ (.int .i64 (keys - 1))).alloc o).heap[W.heap.size]? = some o) := ⟨fun o => by
    have hs : (W.setCell ⟨g, 1, none⟩ (.int .i64 (keys - 1))).heap.size = W.heap.size := by simp [World.setCell]
    refine ⟨(h.keysSet (keys - 1)).keep (Below.heap_alloc _ _ _ (by rw [hs]; exact hg)) (Below.heap_alloc _ _ _ (by rw [hs]; exact hb)), ((Fr.refl (fun k => k = g ∨ k = b) W).setCell (p := ⟨g, 1, none⟩) (.inl (.inl rfl)) _).alloc o, ?_⟩
    have h8 := heap_alloc_new (W.setCell ⟨g, 1, none⟩ (.int .i64 (keys - 1))) o
    rwa [hs] at h8⟩
  have HF := Aside0.mk hf
  have hf1 := hfz 1
  obtain ⟨u, hsh⟩ := hf.sh hp hu
  have HSH := Aside0.mk hsh
  have HU := Aside0.mk hu
  obtain ⟨n, hN⟩ : ∃ n, n = pl.length := ⟨_, rfl⟩
  have HN := Aside0.mk hN
  rw [← hN] at hc3 hn hp
  rw [show (pa pl p).f0.f0 = us pl p from rfl, hu] at p0
  rw [show (pa pl p).f1 = vl pl p from rfl] at p2
  obtain ⟨x1, h1⟩ : ∃ x, x = (pa pl p).f0.f1 := ⟨_, rfl⟩
  rw [← h1] at p1
  obtain ⟨x2, h2⟩ : ∃ x, x = vl pl p := ⟨_, rfl⟩
  rw [← h2] at p2 ⊢
  obtain ⟨tgt, ht⟩ : ∃ t, t = dropP bits pl p := ⟨_, rfl⟩
  have HT := Aside0.mk ht
  rw [← ht]
  clear X h hf he hmd hN hfz pf h1 hu hsh h2 ht
  go_enter Try.func18, Try.ntmps18
  go_wp2_with (first
    | ((with_reducible refine gate_callee (f := 27) rfl ?_); refine goesL_ (some 11) rfl rfl Try.func27 (by kernel_rfl) rfl #[.pointer (some ⟨g, 0, none⟩), .int .u64 key] rfl (by (try simp only [List.map_toArray, List.map_cons, List.map_nil]); first | done | rfl) ?_; (with_reducible refine (XX.out).mono ?_); rintro e w4 ⟨rfl, h4⟩; subst w4; refine ⟨_, rfl, ?_⟩)
    | ((with_reducible refine gate_ (.store 72 (.tmp 38) (.tmp 37)) rfl ?_); refine Ix.store (HW.out _).1 (.tmp 38) (.tmp 37) rfl rfl rfl p z72 _ rfl rfl rfl (by kernel_rfl) (by rw [← HN.out]; exact hp) ?_; intro w1 A1 A2; have A3 := (A2.blk (HW.out (.cells #[.bool true, .int .u64 x1, .int .i64 x2] 72 (0, 0))).2.2 (fun e => absurd HB.out (by rw [e]; exact Nat.lt_irrefl _))); have A4 := (HW.out (.cells #[.bool true, .int .u64 x1, .int .i64 x2] 72 (0, 0))).2.1.trans A2 (fun i hi => .inl (.inr hi)); have B1 := Aside0.mk A1; have B3 := Aside0.mk A3; have B4 := Aside0.mk A4; clear A1 A2 A3 A4)
    | ((with_reducible refine gate_callee (f := 28) rfl ?_); refine goesL_ (some 41) rfl rfl Try.func28 (by kernel_rfl) rfl #[.pointer (some ⟨g, 0, none⟩), .int .i64 (p : Int)] rfl (by (try simp only [List.map_toArray, List.map_cons, List.map_nil]); first | done | rfl) ?_; (with_reducible refine (next_calls p B1.out (by rw [List.length_set, ← HN.out]; assumption) (by rw [List.length_set, ← HN.out]; assumption)).mono ?_); rintro e5 w5 ⟨rfl, h5⟩; subst w5; refine ⟨_, rfl, ?_⟩; rw [List.length_set, ← HN.out]))
  have hsz := HG.out
  go_loopg [6, 8] (dist n ((p + 1) % n) u) (fun kq v6 v8 w' => ∃ (h j f : Nat) (cur : List S72), v6 = .int .i64 (h : Int) ∧ v8 = .int .i64 (j : Int) ∧ h < n ∧ j < n ∧ Aside0 (cur.length = n) ∧ Aside0 (Sh bits cur h j u) ∧ Aside0 (kq = dist n j u ∧ kq ≤ f) ∧ Aside0 (shift bits f cur h j = tgt) ∧ Aside0 (Ix w' g b room (keys - 1) bits cur) ∧ Aside0 (Fr (fun k => k = g ∨ k = b) W w') ∧ Aside0 (w'.heap[W.heap.size]? = some (.cells #[.bool true, .int .u64 x1, .int .i64 x2] 72 (0, 0))))
  case atStart =>
    refine ⟨p, (p + 1) % n, n, pl.set p z72, rfl, rfl, hp, Nat.mod_lt _ (by omega), ⟨by rw [List.length_set, HN.out]⟩, ⟨by rw [HN.out]; exact HSH.out⟩, ⟨rfl, ?_⟩, ⟨by rw [HT.out, HN.out]; rfl⟩, B1, B4, B3⟩
    have h1 := HSH.out.hu
    rw [List.length_set, ← HN.out] at h1
    exact Nat.le_of_lt (dist_lt (Nat.mod_lt _ (by omega)) h1)
  case round =>
    clear B1 B3 B4 hc0 hc1 hc3 p0 p1 p2 hf1
    obtain ⟨h, j, f, cur, rfl, rfl, hh, hj, HCL, HS, HK, HSF, HIX, HFR, HNB⟩ := hrel
    have hsg : W.heap.size ≠ g := by omega
    have hsb : W.heap.size ≠ b := by omega
    obtain ⟨c2, ⟨_, _, _, hd3⟩, _, _⟩ := HIX.out.cells
    rw [HCL.out] at hd3
    have hw2 : wr.cell? ⟨W.heap.size, 2, none⟩ = some (.int .i64 x2) := (blk_cell HNB.out 2).trans rfl
    obtain ⟨⟨q0, q1, q2⟩, qf⟩ := HIX.out.elem j (by rw [HCL.out]; exact hj)
    obtain ⟨⟨r0, r1, r2⟩, qh⟩ := HIX.out.elem h (by rw [HCL.out]; exact hh)
    rw [show (pa cur j).f0.f0 = us cur j from rfl] at q0
    rw [show (pa cur j).f0.f1 = ky cur j from rfl] at q1
    rw [show (pa cur j).f1 = vl cur j from rfl] at q2
    have qf0 := qf 0
    have qf1 := qf 1
    have qf2 := qf 2
    have qh0 := qh 0
    have qh1 := qh 1
    have qh2 := qh 2
    clear qf qh hsz hr
    obtain ⟨z0, hz0⟩ : ∃ y, y = (pa cur h).f0.f0 := ⟨_, rfl⟩
    obtain ⟨z1, hz1⟩ : ∃ y, y = (pa cur h).f0.f1 := ⟨_, rfl⟩
    obtain ⟨z2, hz2⟩ : ∃ y, y = (pa cur h).f1 := ⟨_, rfl⟩
    rw [← hz0] at r0
    rw [← hz1] at r1
    rw [← hz2] at r2
    clear hz0 hz1 hz2
    obtain ⟨y0, hy0⟩ : ∃ y, y = us cur j := ⟨_, rfl⟩
    obtain ⟨y1, hy1⟩ : ∃ y, y = ky cur j := ⟨_, rfl⟩
    obtain ⟨y2, hy2⟩ : ∃ y, y = vl cur j := ⟨_, rfl⟩
    rw [← hy0] at q0
    rw [← hy1] at q1
    rw [← hy2] at q2
    have HY0 := Aside0.mk hy0
    have HY1 := Aside0.mk hy1
    have HY2 := Aside0.mk hy2
    clear hy0 hy1 hy2
    cases y0 with
    | false =>
      go_wp2
      go_ret2
      refine ⟨rfl, ?_, HFR.out⟩
      have h1 : tgt = cur := by
        rw [← HSF.out]
        cases f with
        | zero => rfl
        | succ f => simp [shift, ← HY0.out]
      rw [h1]
      exact HIX.out
    | true =>
      have hnx := HS.out.dist_next HY0.out.symm
      rw [HCL.out] at hnx
      have HNX := Aside0.mk hnx
      obtain ⟨f1, rfl⟩ : ∃ f1, f = f1 + 1 := ⟨f - 1, by have := HK.out; omega⟩
      have hgk : gk = dist n ((j + 1) % n) u + 1 := by have := HK.out.1; omega
      obtain ⟨k1, hk1⟩ : ∃ k1, k1 = dist n ((j + 1) % n) u := ⟨_, rfl⟩
      have HK1 := Aside0.mk hk1
      rw [← hk1] at hgk
      subst hgk
      clear hk1 hnx
      have hhm : homeN bits y1 < n := by have := HS.out.home y1; rwa [HCL.out] at this
      obtain ⟨o, ho⟩ : ∃ o, o = homeN bits y1 := ⟨_, rfl⟩
      rw [← ho] at hhm
      have HO := Aside0.mk ho
      clear ho
      have X11 : Aside0 (Calls Try.prog 11 #[.pointer (some ⟨g, 0, none⟩), .int .u64 y1] wr fun e w' => e = .returned (.int .i64 (o : Int)) ∧ w' = wr) := ⟨by rw [HO.out]; exact home_calls y1 HIX.out HS.out.hb⟩
      have X29 : Aside0 (Calls Try.prog 29 #[.pointer (some ⟨g, 0, none⟩), .int .i64 (h : Int), .int .i64 (o : Int), .int .i64 (j : Int)] wr fun e w' => e = .returned (.bool (decide (Stays bits cur h j))) ∧ ∃ m, w' = wr.drewN m) := ⟨by
        have h2 := between_calls h o j HIX.out (by rw [HCL.out]; exact hn) (by rw [HCL.out]; exact hh) (by rw [HCL.out]; exact hhm) (by rw [HCL.out]; exact hj)
        have h3 : Stays bits cur h j = (0 < dist cur.length h o ∧ dist cur.length h o ≤ dist cur.length h j) := by unfold Stays; rw [← HY1.out, ← HO.out]
        simp only [h3]
        exact h2⟩
      by_cases cs : Stays bits cur h j
      · have CS := Aside0.mk cs
        have X29' : Aside0 (Calls Try.prog 29 #[.pointer (some ⟨g, 0, none⟩), .int .i64 (h : Int), .int .i64 (o : Int), .int .i64 (j : Int)] wr fun e w' => e = .returned (.bool true) ∧ ∃ m, w' = wr.drewN m) := ⟨by have := X29.out; rwa [decide_eq_true cs] at this⟩
        clear cs X29
        go_wp2_with (first
          | ((with_reducible refine gate_callee (f := 11) rfl ?_); refine goesL_ (some 66) rfl rfl Try.func11 (by kernel_rfl) rfl #[.pointer (some ⟨g, 0, none⟩), .int .u64 y1] rfl (by (try simp only [List.map_toArray, List.map_cons, List.map_nil]); first | done | rfl) ?_; (with_reducible refine (X11.out).mono ?_); rintro e w4 ⟨rfl, h4⟩; subst w4; refine ⟨_, rfl, ?_⟩)
          | ((with_reducible refine gate_callee (f := 29) rfl ?_); refine goesL_ (some 68) rfl rfl Try.func29 (by kernel_rfl) rfl #[.pointer (some ⟨g, 0, none⟩), .int .i64 (h : Int), .int .i64 (o : Int), .int .i64 (j : Int)] rfl (by (try simp only [List.map_toArray, List.map_cons, List.map_nil]); first | done | rfl) ?_; (with_reducible refine (X29'.out).mono ?_); rintro e w4 ⟨rfl, m, h4⟩; subst w4; refine ⟨_, rfl, ?_⟩)
          | ((with_reducible refine gate_callee (f := 28) rfl ?_); refine goesL_ (some 53) rfl rfl Try.func28 (by kernel_rfl) rfl #[.pointer (some ⟨g, 0, none⟩), .int .i64 (j : Int)] rfl (by (try simp only [List.map_toArray, List.map_cons, List.map_nil]); first | done | rfl) ?_; (with_reducible refine (next_calls (W := wr.drewN m) j (HIX.out.keep rfl rfl) (by rw [HCL.out]; assumption) (by rw [HCL.out]; assumption)).mono ?_); rintro e5 w5 ⟨rfl, h5⟩; subst w5; refine ⟨_, rfl, ?_⟩; rw [HCL.out]))
        go_roundg k1
        case measure => omega
        case rel =>
          refine ⟨h, (j + 1) % n, f1, cur, rfl, rfl, hh, Nat.mod_lt _ (by omega), HCL, ⟨?_⟩, ⟨HK1.out, by have := HK.out.2; omega⟩, ⟨?_⟩, ⟨HIX.out.keep rfl rfl⟩, ⟨HFR.out.drewN _⟩, HNB⟩
          · have := HS.out.keep HY0.out.symm CS.out
            rwa [HCL.out] at this
          · have := HSF.out
            simp only [shift, ← HY0.out, CS.out, if_true, HCL.out] at this
            exact this
      · have CS := Aside0.mk cs
        have X29' : Aside0 (Calls Try.prog 29 #[.pointer (some ⟨g, 0, none⟩), .int .i64 (h : Int), .int .i64 (o : Int), .int .i64 (j : Int)] wr fun e w' => e = .returned (.bool false) ∧ ∃ m, w' = wr.drewN m) := ⟨by have := X29.out; rwa [decide_eq_false cs] at this⟩
        clear cs X29
        go_wp2_with (first
          | ((with_reducible refine gate_callee (f := 11) rfl ?_); refine goesL_ (some 66) rfl rfl Try.func11 (by kernel_rfl) rfl #[.pointer (some ⟨g, 0, none⟩), .int .u64 y1] rfl (by (try simp only [List.map_toArray, List.map_cons, List.map_nil]); first | done | rfl) ?_; (with_reducible refine (X11.out).mono ?_); rintro e w4 ⟨rfl, h4⟩; subst w4; refine ⟨_, rfl, ?_⟩)
          | ((with_reducible refine gate_callee (f := 29) rfl ?_); refine goesL_ (some 68) rfl rfl Try.func29 (by kernel_rfl) rfl #[.pointer (some ⟨g, 0, none⟩), .int .i64 (h : Int), .int .i64 (o : Int), .int .i64 (j : Int)] rfl (by (try simp only [List.map_toArray, List.map_cons, List.map_nil]); first | done | rfl) ?_; (with_reducible refine (X29'.out).mono ?_); rintro e w4 ⟨rfl, m, h4⟩; subst w4; refine ⟨_, rfl, ?_⟩))
        obtain ⟨w2, hw2'⟩ : ∃ w2, w2 = wr.drewN m := ⟨_, rfl⟩
        have hd3' : w2.cell? ⟨g, 3, none⟩ = some (.slice (some ⟨b, 0, none⟩) n c2) := by rw [hw2']; exact hd3
        have q0' : w2.cell? ⟨b, j * 3, none⟩ = some (.bool true) := by rw [hw2']; exact q0
        have q1' : w2.cell? ⟨b, j * 3 + 1, none⟩ = some (.int .u64 y1) := by rw [hw2']; exact q1
        have q2' : w2.cell? ⟨b, j * 3 + 2, none⟩ = some (.int .i64 y2) := by rw [hw2']; exact q2
        have r0' : w2.cell? ⟨b, h * 3, none⟩ = some (.bool z0) := by rw [hw2']; exact r0
        have r1' : w2.cell? ⟨b, h * 3 + 1, none⟩ = some (.int .u64 z1) := by rw [hw2']; exact r1
        have r2' : w2.cell? ⟨b, h * 3 + 2, none⟩ = some (.int .i64 z2) := by rw [hw2']; exact r2
        have hhj : h ≠ j := fun e => by have h7 := HS.out.hole; rw [e, ← HY0.out] at h7; simp at h7
        have f0' : w2.frozen? ⟨b, j * 3, none⟩ = false := by rw [hw2']; exact qf0
        have f1' : w2.frozen? ⟨b, j * 3 + 1, none⟩ = false := by rw [hw2']; exact qf1
        have f2' : w2.frozen? ⟨b, j * 3 + 2, none⟩ = false := by rw [hw2']; exact qf2
        have g0' : w2.frozen? ⟨b, h * 3, none⟩ = false := by rw [hw2']; exact qh0
        have g1' : w2.frozen? ⟨b, h * 3 + 1, none⟩ = false := by rw [hw2']; exact qh1
        have g2' : w2.frozen? ⟨b, h * 3 + 2, none⟩ = false := by rw [hw2']; exact qh2
        have hbg : b ≠ g := fun e => HNE.out e.symm
        rw [← hw2']
        have HW2 := Aside0.mk hw2'
        clear hw2' hd3 r0 r1 r2 q0 q1 q2 qf0 qf1 qf2 qh0 qh1 qh2 hw2
        have K3 : Aside0 (∃ w3, w3 = World.drew ((((((w2.setCell ⟨b, h * 3, none⟩ (.bool true)).setCell ⟨b, h * 3 + 1, none⟩ (.int .u64 y1)).setCell ⟨b, h * 3 + 2, none⟩ (.int .i64 y2)).setCell ⟨b, j * 3, none⟩ (.bool false)).setCell ⟨b, j * 3 + 1, none⟩ (.int .u64 0)).setCell ⟨b, j * 3 + 2, none⟩ (.int .i64 0)) ∧ Ix w3 g b room (keys - 1) bits (mv cur h j) ∧ Fr (fun k => k = g ∨ k = b) W w3 ∧ w3.heap[W.heap.size]? = some (.cells #[.bool true, .int .u64 x1, .int .i64 x2] 72 (0, 0))) := ⟨by
          have hi2 : Ix w2 g b room (keys - 1) bits cur := by rw [HW2.out]; exact HIX.out.keep rfl rfl
          have hy : pa cur j = ⟨⟨true, y1⟩, y2⟩ := by
            have e0 := HY0.out; have e1 := HY1.out; have e2 := HY2.out
            unfold us at e0; unfold ky at e1; unfold vl at e2
            rw [e0, e1, e2]
          obtain ⟨m1, m2⟩ := hi2.moved h j (by rw [HCL.out]; exact hh) (by rw [HCL.out]; exact hj) y1 y2 hy
          have hf2 : Fr (fun k => k = g ∨ k = b) W w2 := by rw [HW2.out]; exact HFR.out.drewN _
          have hnb : w2.heap[W.heap.size]? = some (.cells #[.bool true, .int .u64 x1, .int .i64 x2] 72 (0, 0)) := by rw [HW2.out]; exact HNB.out
          exact ⟨_, rfl, m1, hf2.trans m2 (fun k hk => .inl (.inr hk)), m2.blk hnb hsb⟩⟩
        go_region
        all_goals (obtain ⟨w3, hw3, A1, A2, A3⟩ := K3.out; rw [← hw3]; have B1 := Aside0.mk A1; have B2 := Aside0.mk A2; have B3 := Aside0.mk A3; clear hw3 A1 A2 A3 K3)
        all_goals (obtain ⟨c3, ⟨_, _, _, hd4⟩, _, _⟩ := B1.out.cells; rw [mv_len, HCL.out] at hd4)
        all_goals go_wp2_with (first
          | ((with_reducible refine gate_callee (f := 28) rfl ?_); refine goesL_ (some 53) rfl rfl Try.func28 (by kernel_rfl) rfl #[.pointer (some ⟨g, 0, none⟩), .int .i64 (j : Int)] rfl (by (try simp only [List.map_toArray, List.map_cons, List.map_nil]); first | done | rfl) ?_; (with_reducible refine (next_calls (W := w3) j B1.out (by rw [mv_len, HCL.out]; assumption) (by rw [mv_len, HCL.out]; assumption)).mono ?_); rintro e5 w5 ⟨rfl, h5⟩; subst w5; refine ⟨_, rfl, ?_⟩; rw [mv_len, HCL.out]))
        all_goals go_roundg k1
        case measure => omega
        case rel =>
          refine ⟨j, (j + 1) % n, f1, mv cur h j, rfl, rfl, hj, Nat.mod_lt _ (by omega), ⟨by rw [mv_len]; exact HCL.out⟩, ⟨?_⟩, ⟨HK1.out, by have := HK.out.2; omega⟩, ⟨?_⟩, B1, B2, B3⟩
          · have := HS.out.move HY0.out.symm CS.out
            rwa [HCL.out] at this
          · have := HSF.out
            simp only [shift, ← HY0.out, CS.out, if_true, if_false, HCL.out] at this
            exact this
end Go.Proofs.Ytmcaoecmjibegaa.PIx
