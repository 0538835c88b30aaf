/- The index's Put, Get. -/
import Derived.Test.YtmcaoecmjibegaaIxH
namespace Go.Proofs.Ytmcaoecmjibegaa.PIx
open Go.RowKit Go.Proofs.YtmcaoecmjibegaaW.PrintWords Go.Proofs.YtmcaoecmjibegaaW.PrintLast Go.Proofs.YtmcaoecmjibegaaW.PrintMore
set_option linter.unusedVariables false
set_option linter.unusedSimpArgs false

/-- A place is written. -/
theorem Ix.store {P : Program} {ops : Array Oper} {rest : List Oper} {o : Oper} {a : Act} {Q : Exit → Act → World → Prop} {W : World} {g b : Nat} {room keys : Int} {bits : Nat} {pl : List S72} (h : Ix W g b room keys bits pl)
    (p x : Operand) (hN : o.dst = none) (hgd : o.guard = none) (ho : o.op = .store 72 p x) (i : Nat) (x' : S72) (u : Value) (haddr : a.eval p = .pointer (some ⟨b, i * 3, none⟩)) (hx : a.eval x = u)
    (hu : u.cells.toList = [.bool x'.f0.f0, .int .u64 x'.f0.f1, .int .i64 x'.f1]) (ht : (P.info? 72).map (·.size) = some 3) (hi : i < pl.length)
    (hk : ∀ w1, Ix w1 g b room keys bits (pl.set i x') → Fr (fun k => k = b) W w1 → wpList P ops Q rest a w1) : wpList P ops Q (o :: rest) a W := by
  have hne := h.ne
  obtain ⟨c, hh, hr⟩ := h
  obtain ⟨cs, hl, hM, hc, hf⟩ := Kd.R_elem hr z72 (i : Int) (by omega) (by omega)
  simp only [Int.toNat_natCast] at hc
  have hs3 : k72.sz = 3 := rfl
  refine Kd.R_store k72 (w0 := W) 0 hN hgd 72 p x ho 72 (i : Int) 0 pl x' u [.bool x'.f0.f0, .int .u64 x'.f0.f1, .int .i64 x'.f1] cs (fun k => k = b) (fun _ => False) haddr (by simp [hs3]) hx hu ht (by simp [Value.oneCell']) hr (by omega) (by omega) hl (by simpa using hc) (by simp [hs3]) ?_ (fun _ hk => hk.elim) (Below.refl _ _) ?_
  · have h5 := k72_mkM W 0 (fun _ => False) x'
    have h6 : cs.drop 3 = [] := List.drop_eq_nil_of_le (by rw [hl, hs3]; exact Nat.le_refl _)
    simpa [h6] using h5
  · intro w1 h1 h2 h3
    refine hk w1 ⟨c, (h3.block g (blk_lt hh) (fun e => hne (Option.some.inj e))).trans ?_, ?_⟩ ⟨h3.os, h3.tape, h3.output, h3.size, fun k hk hn => h3.block k hk (fun e => hn (Option.some.inj e))⟩
    · rw [List.length_set]; exact hh
    · rw [List.length_set]; simpa using h1

/-- The number of keys is written. -/
theorem Ix.keysSet {W : World} {g b : Nat} {room keys : Int} {bits : Nat} {pl : List S72} (h : Ix W g b room keys bits pl) (m : Int) : Ix (W.setCell ⟨g, 1, none⟩ (.int .i64 m)) g b room m bits pl := by
  have hne := h.ne
  obtain ⟨c, hh, hr⟩ := h
  refine ⟨c, by simpa using blk_set hh 1 (.int .i64 m), Kd.R_far hr (fun k hk => by rw [hk]; exact fun e => hne e.symm) _⟩

set_option maxHeartbeats 8000000 in
set_option maxRecDepth 100000 in
theorem put_there {W : World} {g b : Nat} {room keys : Int} {bits : Nat} {pl : List S72} (key v : Int) (p : Nat) (h : Ix W g b room keys bits pl) (hf : Fit room keys bits pl) (he : Ends bits pl key p) (hr : room ≤ 65536) (hu : us pl p = true) :
    Calls Try.prog 19 #[.pointer (some ⟨g, 0, none⟩), .int .u64 key, .int .i64 v] W fun e w' => e = .returned (.int .i64 81) ∧ w' = W := by
  obtain ⟨c, ⟨hc0, hc1, _, hc3⟩, hfz, _⟩ := h.cells
  have hn : pl.length ≤ 131072 := by rw [hf.len]; exact Nat.le_trans (Nat.pow_le_pow_right (by decide) hf.hb) (by decide)
  have hp := he.1
  obtain ⟨⟨p0, _, _⟩, pf⟩ := h.elem p hp
  have hk0 : 0 ≤ keys := by rw [hf.num]; omega
  have hk1 : keys ≤ 65536 := by have := hf.most; omega
  have hhome := hf.wf.home key
  have hmd := md_dist hhome hp
  have HI := Aside0.mk h
  have HF := Aside0.mk hf
  have HE := Aside0.mk he
  have HMD := Aside0.mk hmd
  have hf1 := hfz 1
  have X := find_calls key (dist pl.length (homeN bits key) p) h hf.hb hf.len (by rw [hmd]; exact he.2.1) he.2.2
  rw [hmd] at X
  have XX := Aside0.mk X
  obtain ⟨n, hN⟩ : ∃ n, n = pl.length := ⟨_, rfl⟩
  have HN := Aside0.mk hN
  rw [← hN] at hc3 hn hp
  rw [show (pa pl p).f0.f0 = us pl p from rfl, hu] at p0
  clear X h hf he hhome hmd hN hr hfz pf
  go_enter Try.func19, Try.ntmps19
  go_wp2_with (first | ((with_reducible refine gate_callee (f := 27) rfl ?_); refine goesL_ (some 10) rfl rfl Try.func27 (by kernel_rfl) rfl #[.pointer (some ⟨g, 0, none⟩), .int .u64 key] rfl (by (try simp only [List.map_toArray, List.map_cons, List.map_nil]); first | done | rfl) ?_; (with_reducible refine (XX.out).mono ?_); rintro e w4 ⟨rfl, h4⟩; subst w4; refine ⟨_, rfl, ?_⟩))
  go_ret
  exact ⟨rfl, rfl⟩

set_option maxHeartbeats 8000000 in
set_option maxRecDepth 100000 in
theorem put_full {W : World} {g b : Nat} {room keys : Int} {bits : Nat} {pl : List S72} (key v : Int) (p : Nat) (h : Ix W g b room keys bits pl) (hf : Fit room keys bits pl) (he : Ends bits pl key p) (hr : room ≤ 65536) (hu : us pl p = false) (hk : keys = room) :
    Calls Try.prog 19 #[.pointer (some ⟨g, 0, none⟩), .int .u64 key, .int .i64 v] W fun e w' => e = .returned (.int .i64 80) ∧ ∃ m, w' = W.drewN m := by
  obtain ⟨c, ⟨hc0, hc1, _, hc3⟩, hfz, _⟩ := h.cells
  have hn : pl.length ≤ 131072 := by rw [hf.len]; exact Nat.le_trans (Nat.pow_le_pow_right (by decide) hf.hb) (by decide)
  have hp := he.1
  obtain ⟨⟨p0, _, _⟩, pf⟩ := h.elem p hp
  have hk0 : 0 ≤ keys := by rw [hf.num]; omega
  have hk1 : keys ≤ 65536 := by have := hf.most; omega
  have hhome := hf.wf.home key
  have hmd := md_dist hhome hp
  have HI := Aside0.mk h
  have HF := Aside0.mk hf
  have HE := Aside0.mk he
  have HMD := Aside0.mk hmd
  have hf1 := hfz 1
  have X := find_calls key (dist pl.length (homeN bits key) p) h hf.hb hf.len (by rw [hmd]; exact he.2.1) he.2.2
  rw [hmd] at X
  have XX := Aside0.mk X
  obtain ⟨n, hN⟩ : ∃ n, n = pl.length := ⟨_, rfl⟩
  have HN := Aside0.mk hN
  rw [← hN] at hc3 hn hp
  rw [show (pa pl p).f0.f0 = us pl p from rfl, hu] at p0
  clear X h hf he hhome hmd hN hr hfz pf
  have ck1 : (keys == room) = true := beq_iff_eq.mpr hk
  go_enter Try.func19, Try.ntmps19
  go_wp2_with (first | ((with_reducible refine gate_callee (f := 27) rfl ?_); refine goesL_ (some 10) rfl rfl Try.func27 (by kernel_rfl) rfl #[.pointer (some ⟨g, 0, none⟩), .int .u64 key] rfl (by (try simp only [List.map_toArray, List.map_cons, List.map_nil]); first | done | rfl) ?_; (with_reducible refine (XX.out).mono ?_); rintro e w4 ⟨rfl, h4⟩; subst w4; refine ⟨_, rfl, ?_⟩))
  go_quiet (fail)
  go_wp2
  go_ret
  exact ⟨rfl, _, rfl⟩

set_option maxHeartbeats 8000000 in
set_option maxRecDepth 100000 in
theorem put_done {W : World} {g b : Nat} {room keys : Int} {bits : Nat} {pl : List S72} (key v : Int) (p : Nat) (h : Ix W g b room keys bits pl) (hf : Fit room keys bits pl) (he : Ends bits pl key p) (hr : room ≤ 65536) (hu : us pl p = false) (hk : keys ≠ room) :
    Calls Try.prog 19 #[.pointer (some ⟨g, 0, none⟩), .int .u64 key, .int .i64 v] W fun e w' => e = .returned (.int .i64 0) ∧ Ix w' g b room (keys + 1) bits (pl.set p ⟨⟨true, key⟩, v⟩) ∧ Fr (fun k => k = g ∨ k = b) W w' := by
  obtain ⟨c, ⟨hc0, hc1, _, hc3⟩, hfz, _⟩ := h.cells
  have hn : pl.length ≤ 131072 := by rw [hf.len]; exact Nat.le_trans (Nat.pow_le_pow_right (by decide) hf.hb) (by decide)
  have hp := he.1
  obtain ⟨⟨p0, _, _⟩, pf⟩ := h.elem p hp
  have hk0 : 0 ≤ keys := by rw [hf.num]; omega
  have hk1 : keys ≤ 65536 := by have := hf.most; omega
  have hhome := hf.wf.home key
  have hmd := md_dist hhome hp
  have HI := Aside0.mk h
  have HF := Aside0.mk hf
  have HE := Aside0.mk he
  have HMD := Aside0.mk hmd
  have hf1 := hfz 1
  have X := find_calls key (dist pl.length (homeN bits key) p) h hf.hb hf.len (by rw [hmd]; exact he.2.1) he.2.2
  rw [hmd] at X
  have XX := Aside0.mk X
  obtain ⟨n, hN⟩ : ∃ n, n = pl.length := ⟨_, rfl⟩
  have HN := Aside0.mk hN
  rw [← hN] at hc3 hn hp
  rw [show (pa pl p).f0.f0 = us pl p from rfl, hu] at p0
  clear X h hf he hhome hmd hN hr hfz pf
  have ck1 : (keys == room) = false := beq_eq_false_iff_ne.mpr hk
  go_enter Try.func19, Try.ntmps19
  go_wp2_with (first | ((with_reducible refine gate_callee (f := 27) rfl ?_); refine goesL_ (some 10) rfl rfl Try.func27 (by kernel_rfl) rfl #[.pointer (some ⟨g, 0, none⟩), .int .u64 key] rfl (by (try simp only [List.map_toArray, List.map_cons, List.map_nil]); first | done | rfl) ?_; (with_reducible refine (XX.out).mono ?_); rintro e w4 ⟨rfl, h4⟩; subst w4; refine ⟨_, rfl, ?_⟩))
  go_quiet (fail)
  go_wp2_with (first | ((with_reducible refine gate_ (.store 72 (.tmp 38) (.tmp 37)) rfl ?_); refine Ix.store (W := W.drewN nq) (HI.out.keep rfl rfl) (.tmp 38) (.tmp 37) rfl rfl rfl p ⟨⟨true, key⟩, v⟩ _ rfl rfl rfl (by kernel_rfl) (by rw [← HN.out]; exact hp) ?_; intro w1 A1 A2; (obtain ⟨c7, ⟨hd0, hd1, hd2, hd3⟩, hfz7, _⟩ := A1.cells); have hf7 := hfz7 1; have B1 := Aside0.mk A1; have B2 := Aside0.mk A2; clear A1 A2 hd0 hd2 hd3 hfz7))
  go_ret
  refine ⟨rfl, B1.out.keysSet _, ?_⟩
  exact (((Fr.refl (fun k => k = g ∨ k = b) W).drewN nq).trans B2.out (fun k hk => .inl (.inr hk))).setCell (p := ⟨g, 1, none⟩) (.inl (.inl rfl)) _

end Go.Proofs.Ytmcaoecmjibegaa.PIx
