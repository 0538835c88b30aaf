/- The index behind a pointer: its block and its table's; Clear and New. -/
import Derived.Test.YtmcaoecmjibegaaPIxx1
namespace Go.Proofs.Ytmcaoecmjibegaa.PIx
open Go.RowKit Go.Proofs.YtmcaoecmjibegaaW.PrintWords Go.Proofs.YtmcaoecmjibegaaW.PrintLast Go.Proofs.YtmcaoecmjibegaaW.PrintMore
set_option linter.unusedVariables false
set_option linter.unusedSimpArgs false

/-- What a call keeps: the streams, and every elder block but those of S. -/
structure Fr (S : Nat → Prop) (w w' : World) : Prop where
  os : w'.os = w.os
  tape : w'.tape = w.tape
  output : w'.output = w.output
  size : w.heap.size ≤ w'.heap.size
  block : ∀ k, k < w.heap.size → ¬ S k → w'.heap[k]? = w.heap[k]?

namespace Fr
variable {S S' S2 : Nat → Prop} {w w' w2 : World}
theorem refl (S : Nat → Prop) (w : World) : Fr S w w := ⟨rfl, rfl, rfl, Nat.le_refl _, fun _ _ _ => rfl⟩
theorem trans (h : Fr S w w') (k : Fr S2 w' w2) (hs : ∀ i, S2 i → S i ∨ w.heap.size ≤ i) : Fr S w w2 :=
  ⟨k.os.trans h.os, k.tape.trans h.tape, k.output.trans h.output, Nat.le_trans h.size k.size, fun i hi hn =>
    (k.block i (Nat.lt_of_lt_of_le hi h.size) (fun h2 => (hs i h2).elim hn (fun h3 => by omega))).trans (h.block i hi hn)⟩
theorem mono (h : Fr S w w') (hs : ∀ i, S i → S' i ∨ w.heap.size ≤ i) : Fr S' w w' :=
  ⟨h.os, h.tape, h.output, h.size, fun i hi hn => h.block i hi (fun h2 => (hs i h2).elim hn (fun h3 => by omega))⟩
theorem alloc (h : Fr S w w') (o : Obj) : Fr S w (w'.alloc o) :=
  h.trans (S2 := fun _ => False) ⟨rfl, rfl, rfl, by simp, fun i hi _ => Below.heap_alloc _ _ _ hi⟩ (fun _ h => h.elim)
theorem setCell (h : Fr S w w') {p : Addr} (hp : S p.block ∨ w.heap.size ≤ p.block) (u : Value) : Fr S w (w'.setCell p u) :=
  h.trans (S2 := fun i => i = p.block) ⟨rfl, rfl, rfl, by simp [World.setCell], fun i _ hn => Below.heap_setCell w' p u i hn⟩ (fun i hi => by rw [hi]; exact hp)
theorem drew (h : Fr S w w') : Fr S w w'.drew := ⟨h.os, h.tape, h.output, h.size, h.block⟩
theorem drewN (h : Fr S w w') (m : Nat) : Fr S w (w'.drewN m) := ⟨h.os, h.tape, h.output, h.size, h.block⟩
theorem below (h : Fr S w w') (k : Below w'.heap.size w' w2) : Fr S w w2 :=
  h.trans (S2 := fun _ => False) ⟨k.os, k.tape, k.output, k.size, fun i hi _ => k.block i hi⟩ (fun _ h => h.elim)
theorem grown (h : Fr S w w') {row : Option Nat} (k : w'.grownBy w2 row) (hr : ∀ i, row = some i → S i ∨ w.heap.size ≤ i) : Fr S w w2 :=
  h.trans (S2 := fun i => row = some i) ⟨k.os, k.tape, k.output, k.size, fun i hi hn => k.block i hi (fun e => hn e.symm)⟩ hr
theorem toBelow (h : Fr S w w') (hs : ∀ i, S i → w.heap.size ≤ i) : Below w.heap.size w w' :=
  ⟨h.os, h.tape, h.output, h.size, fun i hi => h.block i hi (fun h2 => by have := hs i h2; omega)⟩
theorem blk (h : Fr S w w') {g : Nat} {o : Obj} (hb : w.heap[g]? = some o) (hn : ¬ S g) : w'.heap[g]? = some o :=
  (h.block g (blk_lt hb) hn).trans hb
end Fr

/-- The index at block g, its table at block b. -/
def Ix (W : World) (g b : Nat) (room keys : Int) (bits : Nat) (pl : List S72) : Prop :=
  ∃ c, W.heap[g]? = some (.cells #[.int .i64 room, .int .i64 keys, .int .i64 (bits : Int), .slice (some ⟨b, 0, none⟩) pl.length c] 70 (0, 0)) ∧
    Kd.R k72 72 W 0 (fun k => k = b) (.slice (some ⟨b, 0, none⟩) pl.length c) pl

theorem k72_E : k72.E = [] := rfl

namespace Ix
variable {W W' : World} {g b : Nat} {room keys : Int} {bits : Nat} {pl : List S72}
theorem is (h : Ix W g b room keys bits pl) : IsS70 W W g room keys bits pl := by
  obtain ⟨c, hb, hr⟩ := h
  exact ⟨_, _, hb, trivial, (Kd.R_reads' hr).2.2⟩
theorem lt (h : Ix W g b room keys bits pl) : g < W.heap.size := by obtain ⟨c, hb, hr⟩ := h; exact blk_lt hb
theorem ltb (h : Ix W g b room keys bits pl) : b < W.heap.size := by
  obtain ⟨c, hb, hr⟩ := h
  exact Kd.R_lt hr b (by simp [Value.ownBlock])
theorem ne (h : Ix W g b room keys bits pl) : g ≠ b := by
  obtain ⟨c, hb, hr⟩ := h
  have := Kd.R_ne hr hb (by decide)
  simpa [Value.ownBlock] using this
theorem keep (h : Ix W g b room keys bits pl) (hg : W'.heap[g]? = W.heap[g]?) (hb : W'.heap[b]? = W.heap[b]?) : Ix W' g b room keys bits pl := by
  obtain ⟨c, hc, hr⟩ := h
  exact ⟨c, hg.trans hc, Kd.R_move hr (fun k hk => by rw [hk]; exact hb)⟩
theorem fr {S : Nat → Prop} (h : Ix W g b room keys bits pl) (k : Fr S W W') (hg : ¬ S g) (hb : ¬ S b) : Ix W' g b room keys bits pl :=
  h.keep (k.block g h.lt hg) (k.block b h.ltb hb)
end Ix

theorem info72 : (Try.prog.info? 72).map (fun i => (i.zero, i.size, i.bytes)) = some (some (.agg #[(.bool false), (.int .u64 0), (.int .i64 0)]), 3, 24) := by kernel_rfl

set_option maxHeartbeats 8000000 in
set_option maxRecDepth 100000 in
theorem clear_calls (g : Nat) (room keys : Int) (bits : Nat) (v : Value) (W : World) (hb : bits ≤ 17) (h : W.heap[g]? = some (.cells #[.int .i64 room, .int .i64 keys, .int .i64 (bits : Int), v] 70 (0, 0))) :
    Calls Try.prog 26 #[.pointer (some ⟨g, 0, none⟩)] W fun e W' => e = .returned (.tuple #[]) ∧ ∃ b, W.heap.size ≤ b ∧ Ix W' g b room 0 bits (List.replicate (2 ^ bits) z72) ∧ Fr (fun k => k = g) W W' := by
  have hp : (2 : Nat) ^ bits ≤ 131072 := Nat.le_trans (Nat.pow_le_pow_right (by decide) hb) (by decide)
  have hp0 : 0 < (2 : Nat) ^ bits := Nat.pow_pos (by decide)
  have hg := blk_lt h
  have hc2 : W.cell? ⟨g, 2, none⟩ = some (.int .i64 (bits : Int)) := (blk_cell h 2).trans rfl
  obtain ⟨N, hN⟩ : ∃ N : Nat, N = 2 ^ bits := ⟨_, rfl⟩
  rw [← hN] at hp hp0
  have hw : wrap64 (2 ^ bits) = (N : Int) := by
    have : ((2 : Int) ^ bits) = (N : Int) := by rw [hN]; simp
    rw [this]; unfold wrap64; omega
  rw [← hN]
  have HN := Aside0.mk hN
  have HH := Aside0.mk h
  clear hN h
  go_enter Try.func26, Try.ntmps26
  go_wp2_with (first | ((with_reducible refine gate_dst (N := 8) rfl ?_); refine Kd.R_make k72 _ 72 rfl (N := 8) rfl 68 _ _ rfl (wrap64 (2 ^ bits)) rfl rfl Try.underlying68 (.agg #[(.bool false), (.int .u64 0), (.int .i64 0)]) 24 info72 rfl (by decide) (by omega) z72 (ok := fun _ => True) (okp := fun _ => True) (k72_mkM _ _ _ z72) (fun _ hk => hk) trivial (by rw [hw]; omega) (by rw [hw]; omega) (Below.refl W.heap.size W) (Nat.le_refl _) ?_; intro v1 w1 ho hbel hgr hnew; obtain ⟨b, cap, rfl, hb0, hb1, cells, hcell⟩ := Kd.R_form ho (by rw [hw, Int.toNat_natCast, List.length_replicate]; exact hp0); have HH1 := Aside0.mk ((hbel.block g hg).trans HH.out); have hf3 := blk_frozen HH1.out 3; have hf1 := blk_frozen HH1.out 1; have hc1 : w1.cell? ⟨g, 1, none⟩ = some (.int .i64 keys) := (blk_cell HH1.out 1).trans rfl; have hc3 : w1.cell? ⟨g, 3, none⟩ = some v := (blk_cell HH1.out 3).trans rfl; rw [hw, Int.toNat_natCast, List.length_replicate] at ho; rw [hw, Int.toNat_natCast, List.length_replicate]; have HO := Aside0.mk ho; have HB := Aside0.mk hbel; have HNW := Aside0.mk hnew; have HB0 := Aside0.mk hb0; clear ho hbel hgr hnew hb0 hb1 hcell))
  go_end0
  have hne : b ≠ g := by have := HB0.out; omega
  have h1 := blk_set HH1.out 3 (.slice (some ⟨b, 0, none⟩) N cap)
  have h2 := blk_set h1 1 (.int .i64 0)
  refine ⟨rfl, b, HB0.out, ⟨cap, ?_, ?_⟩, ?_⟩
  · rw [List.length_replicate]
    simpa using h2
  · rw [List.length_replicate]
    have hr := Kd.R_mono (ok' := fun k => k = b) (Kd.R_tight k72_E (Kd.R_lower HO.out (Nat.zero_le _))) (fun k hk => by simpa [Value.ownBlock] using hk)
    exact Kd.R_far (Kd.R_far hr (fun k hk => by rw [hk]; exact hne) _) (fun k hk => by rw [hk]; exact hne) _
  · exact (((Fr.refl (fun k => k = g) W).below HB.out).setCell (p := ⟨g, 3, none⟩) (.inl rfl) _).setCell (p := ⟨g, 1, none⟩) (.inl rfl) _

/-- The least number of bits whose places hold twice the room. -/
def Least (room : Int) (bits : Nat) : Prop := 2 * room ≤ ((2 ^ bits : Nat) : Int) ∧ bits ≤ 17 ∧ (bits = 0 ∨ ((2 ^ (bits - 1) : Nat) : Int) < 2 * room)

set_option maxHeartbeats 8000000 in
set_option maxRecDepth 100000 in
theorem new_bad (room : Int) (W : World) (h : room < 1 ∨ 65536 < room) :
    Calls Try.prog 16 #[.int .i64 room] W fun e W' => e = .returned (.tuple #[.pointer none, .int .i64 1]) ∧ Below W.heap.size W W' := by
  go_enter Try.func16, Try.ntmps16
  by_cases h1 : room < 1
  · go_wp2
    go_ret2
    exact ⟨rfl, Below.refl _ _⟩
  · have h2 : 65536 < room := by omega
    go_wp2
    go_ret2
    exact ⟨rfl, Below.refl _ _⟩

set_option maxHeartbeats 8000000 in
set_option maxRecDepth 100000 in
theorem new_good (room : Int) (W : World) (h1 : 1 ≤ room) (h2 : room ≤ 65536) :
    Calls Try.prog 16 #[.int .i64 room] W fun e W' => ∃ g b bits, e = .returned (.tuple #[.pointer (some ⟨g, 0, none⟩), .int .i64 0]) ∧ W.heap.size ≤ g ∧ W.heap.size ≤ b ∧ Least room bits ∧ Ix W' g b room 0 bits (List.replicate (2 ^ bits) z72) ∧ Below W.heap.size W W' := by
  have h3 : ¬ (room < 1) := by omega
  have h4 : ¬ (65536 < room) := by omega
  go_enter Try.func16, Try.ntmps16
  go_wp2
  go_loopg [] 17 (fun kq w' => ∃ bits : Nat, Aside0 (kq + bits = 17) ∧ Aside0 (bits = 0 ∨ ((2 ^ (bits - 1) : Nat) : Int) < 2 * room) ∧ Aside0 (w'.heap[W.heap.size]? = some (.cells #[.int .i64 room, .int .i64 0, .int .i64 (bits : Int), .slice none 0 0] 70 (0, 0))) ∧ Aside0 (Below W.heap.size W w'))
  case atStart => exact ⟨0, ⟨rfl⟩, ⟨.inl rfl⟩, ⟨by simpa using heap_alloc_new W _⟩, ⟨(Below.refl _ W).alloc (Nat.le_refl _) _⟩⟩
  case round =>
    obtain ⟨bits, HK, HL, HH, HB⟩ := hrel
    have hc2 := (blk_cell HH.out 2)
    have hf2 := blk_frozen HH.out 2
    replace hc2 : wr.cell? ⟨W.heap.size, 2, none⟩ = some (.int .i64 (bits : Int)) := hc2
    obtain ⟨N, hN⟩ : ∃ N : Nat, N = 2 ^ bits := ⟨_, rfl⟩
    have hp : N ≤ 131072 := by rw [hN]; exact Nat.le_trans (Nat.pow_le_pow_right (by decide) (show bits ≤ 17 by have := HK.out; omega)) (by decide)
    have hw : wrap64 (2 ^ bits) = (N : Int) := by
      have : ((2 : Int) ^ bits) = (N : Int) := by rw [hN]; simp
      rw [this]; unfold wrap64; omega
    have HN := Aside0.mk hN
    clear hN
    have h17 : bits ≤ 17 := by have := HK.out; omega
    by_cases c : (N : Int) < 2 * room
    · obtain ⟨k1, rfl⟩ : ∃ k1, gk = k1 + 1 := by
        refine ⟨gk - 1, ?_⟩
        have h5 := HK.out
        have h6 := HN.out
        rcases Nat.eq_or_lt_of_le h17 with h7 | h7
        · rw [h7] at h6
          omega
        · omega
      go_wp2
      go_roundg k1
      case measure => omega
      case rel =>
        refine ⟨bits + 1, ⟨by have := HK.out; omega⟩, ⟨.inr ?_⟩, ⟨?_⟩, ⟨?_⟩⟩
        · rw [Nat.add_sub_cancel, ← HN.out]
          exact c
        · simpa using blk_set HH.out 2 (.int .i64 ((bits : Int) + 1))
        · exact HB.out.setCell (p := ⟨W.heap.size, 2, none⟩) (Nat.le_refl _) _
    · go_wp2_with (first | ((with_reducible refine gate_callee (f := 26) rfl ?_); refine goesL_ (some 30) rfl rfl Try.func26 (by kernel_rfl) rfl #[.pointer (some ⟨W.heap.size, 0, none⟩)] rfl (by (try simp only [List.map_toArray, List.map_cons, List.map_nil]); first | done | rfl) ?_; (with_reducible refine (clear_calls W.heap.size room 0 bits (.slice none 0 0) wr h17 HH.out).mono ?_); rintro e w4 ⟨rfl, b, hgb, hix, hfr⟩; refine ⟨_, rfl, ?_⟩; have R1 := Aside0.mk hgb; have R2 := Aside0.mk hix; have R3 := Aside0.mk hfr; clear hgb hix hfr))
      go_ret2
      refine ⟨W.heap.size, rfl, Nat.le_refl _, b, Nat.le_trans HB.out.size R1.out, bits, ⟨?_, h17, HL.out⟩, R2.out, ?_⟩
      · rw [← HN.out]
        omega
      · have h8 := R3.out
        exact HB.out.trans ⟨h8.os, h8.tape, h8.output, h8.size, fun k hk => h8.block k (Nat.lt_of_lt_of_le hk HB.out.size) (fun e => by omega)⟩
end Go.Proofs.Ytmcaoecmjibegaa.PIx
