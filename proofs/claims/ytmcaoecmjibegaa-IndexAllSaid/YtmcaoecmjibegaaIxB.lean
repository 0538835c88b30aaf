/- The document's index behind a pointer; its New. -/
import Derived.Test.YtmcaoecmjibegaaPIxx2
import Derived.Test.YtmcaoecmjibegaaIxA
namespace Go.Proofs.Ytmcaoecmjibegaa.PIx
open Go.RowKit Go.Proofs.YtmcaoecmjibegaaW.PrintWords Go.Proofs.YtmcaoecmjibegaaW.PrintLast Go.Proofs.YtmcaoecmjibegaaW.PrintMore
set_option linter.unusedVariables false
set_option linter.unusedSimpArgs false

/-- The document's index at block g, its table at block b. -/
def Rx (W : World) (g b : Nat) (room count : Int) (pl : List S79) : Prop :=
  ∃ c, W.heap[g]? = some (.cells #[.int .i64 room, .int .i64 count, .slice (some ⟨b, 0, none⟩) pl.length c] 36 (0, 0)) ∧
    Kd.R k79 79 W 0 (fun k => k = b) (.slice (some ⟨b, 0, none⟩) pl.length c) pl

theorem k79_E : k79.E = [] := rfl

namespace Rx
variable {W W' : World} {g b : Nat} {room count : Int} {pl : List S79}
theorem is (h : Rx W g b room count pl) : IsS36 W W g room count pl := by
  obtain ⟨c, hb, hr⟩ := h
  exact ⟨_, _, hb, trivial, (Kd.R_reads' hr).2.2⟩
theorem lt (h : Rx W g b room count pl) : g < W.heap.size := by obtain ⟨c, hb, hr⟩ := h; exact blk_lt hb
theorem ltb (h : Rx W g b room count pl) : b < W.heap.size := by
  obtain ⟨c, hb, hr⟩ := h
  exact Kd.R_lt hr b (by simp [Value.ownBlock])
theorem ne (h : Rx W g b room count pl) : g ≠ b := by
  obtain ⟨c, hb, hr⟩ := h
  have := Kd.R_ne hr hb (by decide)
  simpa [Value.ownBlock] using this
theorem keep (h : Rx W g b room count pl) (hg : W'.heap[g]? = W.heap[g]?) (hb : W'.heap[b]? = W.heap[b]?) : Rx W' g b room count pl := by
  obtain ⟨c, hc, hr⟩ := h
  exact ⟨c, hg.trans hc, Kd.R_move hr (fun k hk => by rw [hk]; exact hb)⟩
theorem fr {S : Nat → Prop} (h : Rx W g b room count pl) (k : Fr S W W') (hg : ¬ S g) (hb : ¬ S b) : Rx W' g b room count pl :=
  h.keep (k.block g h.lt hg) (k.block b h.ltb hb)
theorem below (h : Rx W g b room count pl) (k : Below W.heap.size W W') : Rx W' g b room count pl :=
  h.keep (k.block g h.lt) (k.block b h.ltb)
end Rx
theorem Ix.below {W W' : World} {g b : Nat} {room keys : Int} {bits : Nat} {pl : List S72} (h : Ix W g b room keys bits pl) (k : Below W.heap.size W W') : Ix W' g b room keys bits pl :=
  h.keep (k.block g h.lt) (k.block b h.ltb)

set_option maxHeartbeats 8000000 in
set_option maxRecDepth 100000 in
theorem rnew_bad (room : Int) (W : World) (h : room < 1 ∨ 65536 < room) :
    Calls Try.prog 25 #[.int .i64 room] W fun e W' => e = .returned (.tuple #[.pointer none, .int .i64 1]) ∧ Below W.heap.size W W' := by
  go_enter Try.func25, Try.ntmps25
  by_cases h1 : room < 1
  · go_wp2
    go_ret2
    exact ⟨rfl, Below.refl _ _⟩
  · have h2 : 65536 < room := by omega
    go_wp2
    go_ret2
    exact ⟨rfl, Below.refl _ _⟩

set_option maxHeartbeats 8000000 in
set_option maxRecDepth 100000 in
theorem rnew_good (room : Int) (W : World) (h1 : 1 ≤ room) (h2 : room ≤ 65536) :
    Calls Try.prog 25 #[.int .i64 room] W fun e W' => ∃ g b bits, e = .returned (.tuple #[.pointer (some ⟨g, 0, none⟩), .int .i64 0]) ∧ W.heap.size ≤ g ∧ W.heap.size ≤ b ∧ Least room bits ∧ Rx W' g b room 0 (List.replicate (2 ^ bits) z79) ∧ Below W.heap.size W W' := by
  have h3 : ¬ (room < 1) := by omega
  have h4 : ¬ (65536 < room) := by omega
  go_enter Try.func25, Try.ntmps25
  go_wp2
  go_loopg [4] 17 (fun kq v4 w' => ∃ bits N : Nat, v4 = .int .i64 (N : Int) ∧ Aside0 (N = 2 ^ bits) ∧ Aside0 (kq + bits = 17) ∧ Aside0 (bits = 0 ∨ ((2 ^ (bits - 1) : Nat) : Int) < 2 * room) ∧ Aside0 (w' = W))
  case atStart => exact ⟨0, 1, rfl, ⟨rfl⟩, ⟨rfl⟩, ⟨.inl rfl⟩, ⟨rfl⟩⟩
  case round =>
    obtain ⟨bits, N, rfl, HN, HK, HL, HW⟩ := hrel
    obtain rfl := HW.out
    have h17 : bits ≤ 17 := by have := HK.out; omega
    have hp : N ≤ 131072 := by rw [HN.out]; exact Nat.le_trans (Nat.pow_le_pow_right (by decide) h17) (by decide)
    have hp0 : 0 < N := by rw [HN.out]; exact Nat.pow_pos (by decide)
    by_cases c : (N : Int) < 2 * room
    · obtain ⟨k1, rfl⟩ : ∃ k1, gk = k1 + 1 := by
        refine ⟨gk - 1, ?_⟩
        have h5 := HK.out
        have h6 := HN.out
        rcases Nat.eq_or_lt_of_le h17 with h7 | h7
        · rw [h7] at h6
          omega
        · omega
      go_wp2
      go_roundg k1
      case measure => omega
      case rel =>
        refine ⟨bits + 1, 2 * N, ?_, ⟨?_⟩, ⟨by have := HK.out; omega⟩, ⟨.inr ?_⟩, ⟨rfl⟩⟩
        · simp
        · rw [HN.out, Nat.pow_succ]; omega
        · rw [Nat.add_sub_cancel, ← HN.out]
          exact c
    · go_wp2_with (first | ((with_reducible refine gate_dst (N := 19) rfl ?_); refine Kd.R_make k79 _ 79 rfl (N := 19) rfl 34 _ _ rfl (N : Int) rfl rfl Try.underlying34 (.agg #[(.bool false), (.int .u64 0), (.int .i64 0)]) 24 info79 rfl (by decide) (by omega) z79 (ok := fun _ => True) (okp := fun _ => True) (k79_mkM _ _ _ z79) (fun _ hk => hk) trivial (by omega) (by omega) (Below.refl wr.heap.size wr) (Nat.le_refl _) ?_; intro v1 w1 ho hbel hgr hnew; rw [Int.toNat_natCast] at ho; obtain ⟨b, cap, rfl, hb0, hb1, cells, hcell⟩ := Kd.R_form ho (by rw [List.length_replicate]; exact hp0); rw [List.length_replicate] at ho; rw [List.length_replicate]; have HO := Aside0.mk ho; have HB := Aside0.mk hbel; have HB0 := Aside0.mk hb0; have HB1 := Aside0.mk hb1; clear ho hbel hgr hnew hb0 hb1 hcell))
      go_ret2
      refine ⟨w1.heap.size, rfl, HB.out.size, b, HB0.out, bits, ⟨?_, h17, HL.out⟩, ⟨cap, ?_, ?_⟩, ?_⟩
      · rw [← HN.out]; omega
      · rw [← HN.out, List.length_replicate]
        exact heap_alloc_new w1 _
      · rw [← HN.out, List.length_replicate]
        have hr := Kd.R_mono (ok' := fun k => k = b) (Kd.R_tight k79_E (Kd.R_lower HO.out (Nat.zero_le _))) (fun k hk => by simpa [Value.ownBlock] using hk)
        exact Kd.R_alloc hr _
      · exact HB.out.alloc HB.out.size _

theorem Least.uniq {room : Int} {a b : Nat} (ha : Least room a) (hb : Least room b) : a = b := by
  obtain ⟨a1, a2, a3⟩ := ha
  obtain ⟨b1, b2, b3⟩ := hb
  have key : ∀ x y : Nat, 2 * room ≤ ((2 ^ x : Nat) : Int) → (y = 0 ∨ ((2 ^ (y - 1) : Nat) : Int) < 2 * room) → y ≤ x := by
    intro x y hx hy
    rcases hy with rfl | hy
    · omega
    · rcases Nat.lt_or_ge x y with h | h
      · have : (2 : Nat) ^ x ≤ 2 ^ (y - 1) := Nat.pow_le_pow_right (by decide) (by omega)
        omega
      · exact h
  exact Nat.le_antisymm (key b a b1 a3) (key a b a1 b3)

/-- The home of a key: the highest bits of its product. -/
def homeN (bits : Nat) (key : Int) : Nat := (key * 11400714819323198485 % 18446744073709551616).toNat / 2 ^ (64 - bits)

theorem homeN_lt (bits : Nat) (key : Int) (hb : bits ≤ 64) : homeN bits key < 2 ^ bits := by
  unfold homeN
  have h1 : (key * 11400714819323198485 % 18446744073709551616).toNat < 18446744073709551616 := by omega
  apply Nat.div_lt_of_lt_mul
  rw [← Nat.pow_add, Nat.sub_add_cancel hb]
  exact h1

theorem homeV (bits : Nat) (key : Int) (hb : bits ≤ 17) : wrap64 (IntKind.u64.wrap (key * 11400714819323198485) / 2 ^ (64 - bits)) = (homeN bits key : Int) := by
  have h2 := homeN_lt bits key (by omega)
  have h3 : (2 : Nat) ^ bits ≤ 131072 := Nat.le_trans (Nat.pow_le_pow_right (by decide) hb) (by decide)
  have h4 : IntKind.u64.wrap (key * 11400714819323198485) / 2 ^ (64 - bits) = (homeN bits key : Int) := by
    rw [IntKind.wrap_u64]
    unfold homeN
    have h0 : 0 ≤ key * 11400714819323198485 % 18446744073709551616 := Int.emod_nonneg _ (by decide)
    rw [Int.natCast_ediv, Int.toNat_of_nonneg h0]
    simp
  rw [h4]
  unfold wrap64
  omega

set_option maxHeartbeats 8000000 in
set_option maxRecDepth 100000 in
theorem home_calls {W : World} {g b : Nat} {room keys : Int} {bits : Nat} {pl : List S72} (key : Int) (h : Ix W g b room keys bits pl) (hb : bits ≤ 17) :
    Calls Try.prog 11 #[.pointer (some ⟨g, 0, none⟩), .int .u64 key] W fun e w' => e = .returned (.int .i64 (homeN bits key : Int)) ∧ w' = W := by
  obtain ⟨c, hh, _⟩ := h
  have hc2 : W.cell? ⟨g, 2, none⟩ = some (.int .i64 (bits : Int)) := (blk_cell hh 2).trans rfl
  clear hh
  have hn0 : (0 : Int) ≤ (bits : Int) := by omega
  have hn1 : (bits : Int) ≤ 17 := by omega
  have HV := Aside0.mk (homeV bits key hb)
  go_enter Try.func11, Try.ntmps11
  go_wp2
  go_ret
  exact ⟨by rw [← HV.out]; rfl, rfl⟩

theorem home_step (N0 h m p E Q : Nat) (hN : N0 = h * (2 * p * E) + m) (hm : m < 2 * p * E) (hQ : 2 * p * E * Q = 18446744073709551616) :
    N0 = (2 * h + m * Q / 9223372036854775808) * (p * E) + m % (p * E) ∧ m % (p * E) < p * E ∧ m * Q * 2 % 18446744073709551616 = m % (p * E) * (2 * Q) ∧ m * Q / 9223372036854775808 ≤ 1 := by
  obtain ⟨X, hX⟩ : ∃ X, X = p * E := ⟨_, rfl⟩
  have e1 : 2 * p * E = 2 * X := by rw [hX, Nat.mul_assoc]
  rw [e1] at hN hm hQ
  rw [← hX]
  have hX0 : 0 < X := by omega
  have hQ0 : 0 < Q := Nat.pos_of_ne_zero (fun h => by rw [h] at hQ; simp at hQ)
  have hXQ : X * Q = 9223372036854775808 := by
    have : 2 * (X * Q) = 18446744073709551616 := by rw [← Nat.mul_assoc]; exact hQ
    omega
  have hd : m * Q / 9223372036854775808 = m / X := by rw [← hXQ]; exact Nat.mul_div_mul_right _ _ hQ0
  have hm2 : m * Q * 2 % 18446744073709551616 = m % X * (2 * Q) := by
    have e2 : m * Q * 2 = m * (2 * Q) := by rw [Nat.mul_assoc, Nat.mul_comm Q 2]
    have e3 : 18446744073709551616 = X * (2 * Q) := by rw [← hQ, Nat.mul_comm 2 X, Nat.mul_assoc]
    rw [e2, e3, Nat.mul_mod_mul_right]
  have hlt : m / X < 2 := Nat.div_lt_of_lt_mul (by omega)
  refine ⟨?_, Nat.mod_lt _ hX0, hm2, by rw [hd]; omega⟩
  rw [hd, hN, Nat.add_mul, Nat.add_assoc]
  have := Nat.div_add_mod m X
  rw [Nat.mul_comm] at this
  rw [this]
  have e4 : h * (2 * X) = 2 * h * X := by rw [Nat.mul_comm 2 h, Nat.mul_assoc]
  rw [e4]

set_option maxHeartbeats 8000000 in
set_option maxRecDepth 100000 in
theorem rhome_calls {W : World} {g b : Nat} {room count : Int} {bits : Nat} {pl : List S79} (key : Int) (h : Rx W g b room count pl) (hl : pl.length = 2 ^ bits) (hb : bits ≤ 17) :
    Calls Try.prog 12 #[.pointer (some ⟨g, 0, none⟩), .int .u64 key] W fun e w' => e = .returned (.int .i64 (homeN bits key : Int)) ∧ w' = W := by
  obtain ⟨c, hh, _⟩ := h
  have hc2 : W.cell? ⟨g, 2, none⟩ = some (.slice (some ⟨b, 0, none⟩) pl.length c) := (blk_cell hh 2).trans rfl
  clear hh
  obtain ⟨N0, hN0⟩ : ∃ N0, N0 = (key * 11400714819323198485 % 18446744073709551616).toNat := ⟨_, rfl⟩
  obtain ⟨E, hE⟩ : ∃ E : Nat, E = 2 ^ (64 - bits) := ⟨_, rfl⟩
  have e47 : (2 : Nat) ^ 47 = 140737488355328 := by simp
  have e64 : (2 : Nat) ^ 64 = 18446744073709551616 := by simp
  have hE0 : 140737488355328 ≤ E := by
    rw [hE, ← e47]
    exact Nat.pow_le_pow_right (by decide) (by omega)
  have hpE : pl.length * E = 18446744073709551616 := by rw [hl, hE, ← Nat.pow_add, show bits + (64 - bits) = 64 by omega]
  have hlt : N0 < 18446744073709551616 := by rw [hN0]; omega
  clear e47 e64
  have hwu : IntKind.u64.wrap (key * 11400714819323198485) = (N0 : Int) := by rw [IntKind.wrap_u64, hN0, Int.toNat_of_nonneg (Int.emod_nonneg _ (by decide))]
  have HV := Aside0.mk (show homeN bits key = N0 / E by rw [hN0, hE]; rfl)
  have HL := Aside0.mk hl
  have HP := Aside0.mk hpE
  have HE0 := Aside0.mk hE0
  have HLT := Aside0.mk hlt
  clear hN0 hE hpE hl hE0 hlt
  go_enter Try.func12, Try.ntmps12
  go_wp2
  go_loopg [5, 6, 7] bits (fun kq v5 v6 v7 w' => ∃ n h p m Q : Nat, v5 = .int .u64 (n : Int) ∧ v6 = .int .i64 (h : Int) ∧ v7 = .int .i64 (p : Int) ∧ Aside0 (w' = W) ∧ Aside0 (p = 2 ^ kq) ∧ Aside0 (kq ≤ bits) ∧ Aside0 (n = m * Q) ∧ Aside0 (N0 = h * (p * E) + m) ∧ Aside0 (m < p * E) ∧ Aside0 (p * E * Q = 18446744073709551616))
  case atStart =>
    exact ⟨N0, 0, pl.length, N0, 1, by simp [hwu], rfl, rfl, ⟨rfl⟩, HL, ⟨Nat.le_refl _⟩, ⟨by simp⟩, ⟨by simp⟩, ⟨by rw [HP.out]; exact HLT.out⟩, ⟨by rw [HP.out]⟩⟩
  case round =>
    obtain ⟨n, h, p, m, Q, rfl, rfl, rfl, HW, H1, H2, H3, H4, H5, H6⟩ := hrel
    obtain rfl := HW.out
    by_cases c : (1 : Int) < (p : Int)
    · obtain ⟨k1, rfl⟩ : ∃ k1, gk = k1 + 1 := by
        refine ⟨gk - 1, ?_⟩
        rcases Nat.eq_zero_or_pos gk with h7 | h7
        · have h8 := H1.out
          rw [h7] at h8
          simp at h8
          omega
        · omega
      obtain ⟨q, hq⟩ : ∃ q : Nat, p = 2 * q := ⟨2 ^ k1, by rw [H1.out, Nat.pow_succ, Nat.mul_comm]⟩
      have hqb : p ≤ 131072 := by
        rw [H1.out]
        exact Nat.le_trans (Nat.pow_le_pow_right (by decide) (Nat.le_trans H2.out hb)) (by decide)
      subst hq
      have hst := home_step N0 h m q E Q H4.out H5.out H6.out
      have hX : 140737488355328 ≤ 2 * q * E := Nat.le_trans HE0.out (Nat.le_mul_of_pos_left _ (by omega))
      have hh : h ≤ 131072 := by
        have h8 := H4.out
        have h9 := HLT.out
        have h10 : h * 140737488355328 ≤ h * (2 * q * E) := Nat.mul_le_mul_left _ hX
        clear hX
        omega
      have hn : n < 18446744073709551616 := by
        rw [H3.out, ← H6.out]
        exact (Nat.mul_lt_mul_right (Nat.pos_of_ne_zero (fun h0 => by have h6 := H6.out; rw [h0] at h6; simp at h6))).2 H5.out
      rw [← H3.out] at hst
      have HS := Aside0.mk hst
      clear hst hX
      go_wp2
      go_roundg k1
      case measure => omega
      case rel =>
        refine ⟨m % (q * E) * (2 * Q), 2 * h + n / 9223372036854775808, q, m % (q * E), 2 * Q, ?_, ?_, ?_, ⟨rfl⟩, ⟨?_⟩, ⟨by have := H2.out; omega⟩, ⟨rfl⟩, ⟨HS.out.1⟩, ⟨HS.out.2.1⟩, ⟨?_⟩⟩
        · rw [← HS.out.2.2.1, IntKind.wrap_u64]
          simp
        · simp
        · first | rfl | (congr 1; unfold wrap64; omega)
        · have h8 := H1.out
          rw [Nat.pow_succ] at h8
          omega
        · have h8 := H6.out
          rw [← h8, ← Nat.mul_assoc, Nat.mul_comm (q * E) 2, ← Nat.mul_assoc]
    · go_wp2
      go_ret
      have hp1 : p = 1 := by
        have h8 := H1.out
        have : 0 < p := by rw [h8]; exact Nat.pow_pos (by decide)
        omega
      refine ⟨?_, rfl⟩
      have hE1 : E * 1 = E := Nat.mul_one E
      have h8 : N0 / E = h := by
        have h9 := H4.out
        have h10 := H5.out
        rw [hp1, Nat.one_mul] at h9 h10
        rw [h9, Nat.mul_comm, Nat.mul_add_div (by omega), Nat.div_eq_of_lt h10, Nat.add_zero]
      rw [HV.out, h8]
      rfl
end Go.Proofs.Ytmcaoecmjibegaa.PIx
