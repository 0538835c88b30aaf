/- The index behind any calls; the document's example. -/
import Derived.Test.YtmcaoecmjibegaaIxD
import Derived.Test.YtmcaoecmjibegaaIxJ
import Derived.Test.YtmcaoecmjibegaaIxK
import Derived.Test.YtmcaoecmjibegaaWGuard
namespace Go.Proofs.Ytmcaoecmjibegaa.PIx
open Go.RowKit Go.Proofs.YtmcaoecmjibegaaW.PrintWords Go.Proofs.YtmcaoecmjibegaaW.PrintLast Go.Proofs.YtmcaoecmjibegaaW.PrintMore
set_option linter.unusedVariables false
set_option linter.unusedSimpArgs false

/-- A told table. -/
def Tab (W : World) (c : Nat) (pl : List S72) : Prop := ∃ cap, Kd.R k59 59 W 0 (fun k => k = c) (.slice (some ⟨c, 0, none⟩) pl.length cap) (pl.map (·.f0))

theorem k59_E : k59.E = [] := rfl

theorem Tab.at_ {W : World} {c : Nat} {pl : List S72} (h : Tab W c pl) (i : Nat) (hi : i < pl.length) : W.cell? ⟨c, i * 2, none⟩ = some (.bool (us pl i)) ∧ W.cell? ⟨c, i * 2 + 1, none⟩ = some (.int .u64 (ky pl i)) := by
  obtain ⟨cap, hr⟩ := h
  obtain ⟨cs, hl, hM, hc, hf⟩ := Kd.R_elem hr z59 (i : Int) (by omega) (by omega)
  have hcs := k59_openM hM
  subst hcs
  simp only [Int.toNat_natCast] at hc
  have e : (pl.map (·.f0)).getD i z59 = (pa pl i).f0 := by
    unfold pa
    simp only [List.getD_eq_getElem?_getD, List.getElem?_map, List.getElem?_eq_getElem hi, Option.map_some, Option.getD_some]
  have h0 := hc 0 _ rfl
  have h1 := hc 1 _ rfl
  rw [e] at h0 h1
  exact ⟨h0, h1⟩
theorem Tab.keep {W W' : World} {c : Nat} {pl : List S72} (h : Tab W c pl) (hc : W'.heap[c]? = W.heap[c]?) : Tab W' c pl := by
  obtain ⟨cap, hr⟩ := h
  exact ⟨cap, Kd.R_move hr (fun k hk => by rw [hk]; exact hc)⟩
theorem Tab.lt {W : World} {c : Nat} {pl : List S72} (h : Tab W c pl) : c < W.heap.size := by
  obtain ⟨cap, hr⟩ := h
  exact Kd.R_lt hr c (by simp [Value.ownBlock])

theorem slots_tab {W : World} {g b : Nat} {room keys : Int} {bits : Nat} {pl : List S72} (h : Ix W g b room keys bits pl) (hn : 0 < pl.length ∧ pl.length ≤ 131072) :
    Calls Try.prog 15 #[.pointer (some ⟨g, 0, none⟩)] W fun e W' => ∃ c cap, e = .returned (.slice (some ⟨c, 0, none⟩) pl.length cap) ∧ W.heap.size ≤ c ∧ Tab W' c pl ∧ Below W.heap.size W W' := by
  refine (slots_calls h hn.2).mono ?_
  rintro e W' ⟨v, rfl, hr, hb⟩
  obtain ⟨c, cap, rfl, h0, h1, cells, hcell⟩ := Kd.R_form hr (by rw [List.length_map]; exact hn.1)
  rw [List.length_map] at hr ⊢
  exact ⟨c, cap, rfl, h0, ⟨cap, Kd.R_mono (ok' := fun k => k = c) (Kd.R_tight k59_E (Kd.R_lower hr (Nat.zero_le _))) (fun k hk => by simpa [Value.ownBlock] using hk)⟩, hb⟩

def P0 : List S72 := List.replicate (2 ^ 2) z72
def P1 : List S72 := P0.set 0 ⟨⟨true, 0⟩, 7⟩
def P2 : List S72 := P1.set 1 ⟨⟨true, 2⟩, 8⟩
theorem least2 : Least 2 2 := ⟨by decide, by decide, .inr (by decide)⟩
theorem lives_bits {bits : Nat} (h : Least 2 bits) : bits = 2 := h.uniq least2
theorem fit0 : Fit 2 0 2 P0 := fit_zero 2 2 (by decide) least2
theorem ends0 : Ends 2 P0 0 0 := by unfold Ends Stops; decide
theorem us0 : us P0 0 = false := by decide
theorem fit1 : Fit 2 1 2 P1 := fit0.put ends0 us0 (by decide)
theorem ends1 : Ends 2 P1 2 1 := by unfold Ends Stops; decide
theorem us1 : us P1 1 = false := by decide
theorem fit2 : Fit 2 2 2 P2 := fit1.put ends1 us1 (by decide)
theorem ends2 : Ends 2 P2 2 1 := by unfold Ends Stops; decide
theorem us2 : us P2 1 = true := by decide
theorem ends3 : Ends 2 P2 5 2 := by unfold Ends Stops; decide
theorem us3 : us P2 2 = false := by decide
theorem ends4 : Ends 2 P2 0 0 := by unfold Ends Stops; decide
theorem us4 : us P2 0 = true := by decide

theorem lput1 {W : World} {g b : Nat} (h : Ix W g b 2 0 2 P0) : Calls Try.prog 19 #[.pointer (some ⟨g, 0, none⟩), .int .u64 0, .int .i64 7] W fun e w' => e = .returned (.int .i64 0) ∧ Ix w' g b 2 1 2 P1 ∧ Fr (fun k => k = g ∨ k = b) W w' := put_done 0 7 0 h fit0 ends0 (by decide) us0 (by decide)
theorem lput2 {W : World} {g b : Nat} (h : Ix W g b 2 1 2 P1) : Calls Try.prog 19 #[.pointer (some ⟨g, 0, none⟩), .int .u64 2, .int .i64 8] W fun e w' => e = .returned (.int .i64 0) ∧ Ix w' g b 2 2 2 P2 ∧ Fr (fun k => k = g ∨ k = b) W w' := put_done 2 8 1 h fit1 ends1 (by decide) us1 (by decide)
theorem lput3 {W : World} {g b : Nat} (h : Ix W g b 2 2 2 P2) : Calls Try.prog 19 #[.pointer (some ⟨g, 0, none⟩), .int .u64 2, .int .i64 9] W fun e w' => e = .returned (.int .i64 81) ∧ w' = W := put_there 2 9 1 h fit2 ends2 (by decide) us2
theorem lput4 {W : World} {g b : Nat} (h : Ix W g b 2 2 2 P2) : Calls Try.prog 19 #[.pointer (some ⟨g, 0, none⟩), .int .u64 5, .int .i64 9] W fun e w' => e = .returned (.int .i64 80) ∧ ∃ m, w' = W.drewN m := put_full 5 9 2 h fit2 ends3 (by decide) us3 rfl
theorem ldrop {W : World} {g b : Nat} (h : Ix W g b 2 2 2 P2) : Calls Try.prog 18 #[.pointer (some ⟨g, 0, none⟩), .int .u64 0] W fun e w' => e = .returned (.tuple #[.int .i64 7, .bool true]) ∧ Ix w' g b 2 1 2 (dropP 2 P2 0) ∧ Fr (fun k => k = g ∨ k = b) W w' := drop_done 0 0 h fit2 ends4 (by decide) us4
theorem lslots {W : World} {g b : Nat} (h : Ix W g b 2 1 2 (dropP 2 P2 0)) : Calls Try.prog 15 #[.pointer (some ⟨g, 0, none⟩)] W fun e w' => ∃ c cap, e = .returned (.slice (some ⟨c, 0, none⟩) 4 cap) ∧ W.heap.size ≤ c ∧ Tab w' c (dropP 2 P2 0) ∧ Below W.heap.size W w' := slots_tab h (by decide)

set_option maxHeartbeats 8000000 in
set_option maxRecDepth 100000 in
theorem lives_calls (W : World) : Calls Try.prog 17 #[] W fun e W' => e = .returned (.bool true) ∧ Below W.heap.size W W' := by
  go_enter Try.func17, Try.ntmps17
  go_wp2_with (first
    | ((with_reducible refine gate_callee (f := 16) rfl ?_); (try (refine gate_guard (by rfl) ?_; dsimp only)); refine goesL_ (some 7) rfl rfl Try.func16 (by kernel_rfl) rfl #[.int .i64 2] rfl (by (try simp only [List.map_toArray, List.map_cons, List.map_nil]); first | done | rfl) ?_; (with_reducible refine (new_good 2 W (by decide) (by decide)).mono ?_); rintro e w1 ⟨g, b, bits, rfl, hg, hb, hl, hix, hbel⟩; (obtain rfl := lives_bits hl); refine ⟨_, rfl, ?_⟩; have X1 : Aside0 (Ix w1 g b 2 0 2 P0) := ⟨hix⟩; have XB := Aside0.mk hbel; have XG := Aside0.mk hg; have XH := Aside0.mk hb; clear hix hbel hl hg hb)
    | ((with_reducible refine gate_callee (f := 19) rfl ?_); (try (refine gate_guard (by rfl) ?_; dsimp only)); refine goesL_ (some 18) rfl rfl Try.func19 (by kernel_rfl) rfl #[.pointer (some ⟨g, 0, none⟩), .int .u64 0, .int .i64 7] rfl (by (try simp only [List.map_toArray, List.map_cons, List.map_nil]); first | done | rfl) ?_; (with_reducible refine (lput1 X1.out).mono ?_); rintro e w2 ⟨rfl, hix, hfr⟩; refine ⟨_, rfl, ?_⟩; have X2 : Aside0 (Ix w2 g b 2 1 2 P1) := ⟨hix⟩; have F2 := Aside0.mk hfr; clear hix hfr)
    | ((with_reducible refine gate_callee (f := 19) rfl ?_); (try (refine gate_guard (by rfl) ?_; dsimp only)); refine goesL_ (some 23) rfl rfl Try.func19 (by kernel_rfl) rfl #[.pointer (some ⟨g, 0, none⟩), .int .u64 2, .int .i64 8] rfl (by (try simp only [List.map_toArray, List.map_cons, List.map_nil]); first | done | rfl) ?_; (with_reducible refine (lput2 X2.out).mono ?_); rintro e w3 ⟨rfl, hix, hfr⟩; refine ⟨_, rfl, ?_⟩; have X3 : Aside0 (Ix w3 g b 2 2 2 P2) := ⟨hix⟩; have F3 := Aside0.mk hfr; clear hix hfr)
    | ((with_reducible refine gate_callee (f := 19) rfl ?_); (try (refine gate_guard (by rfl) ?_; dsimp only)); refine goesL_ (some 28) rfl rfl Try.func19 (by kernel_rfl) rfl #[.pointer (some ⟨g, 0, none⟩), .int .u64 2, .int .i64 9] rfl (by (try simp only [List.map_toArray, List.map_cons, List.map_nil]); first | done | rfl) ?_; (with_reducible refine (lput3 X3.out).mono ?_); rintro e w4 ⟨rfl, h4⟩; subst w4; refine ⟨_, rfl, ?_⟩)
    | ((with_reducible refine gate_callee (f := 19) rfl ?_); (try (refine gate_guard (by rfl) ?_; dsimp only)); refine goesL_ (some 33) rfl rfl Try.func19 (by kernel_rfl) rfl #[.pointer (some ⟨g, 0, none⟩), .int .u64 5, .int .i64 9] rfl (by (try simp only [List.map_toArray, List.map_cons, List.map_nil]); first | done | rfl) ?_; (with_reducible refine (lput4 X3.out).mono ?_); rintro e w5 ⟨rfl, m, h5⟩; refine ⟨_, rfl, ?_⟩; have X5 : Aside0 (Ix w5 g b 2 2 2 P2) := ⟨by rw [h5]; exact X3.out.keep rfl rfl⟩; have F5 : Aside0 (Fr (fun _ => False) w3 w5) := ⟨by rw [h5]; exact (Fr.refl _ _).drewN m⟩; clear h5)
    | ((with_reducible refine gate_callee (f := 18) rfl ?_); (try (refine gate_guard (by rfl) ?_; dsimp only)); refine goesL_ (some 38) rfl rfl Try.func18 (by kernel_rfl) rfl #[.pointer (some ⟨g, 0, none⟩), .int .u64 0] rfl (by (try simp only [List.map_toArray, List.map_cons, List.map_nil]); first | done | rfl) ?_; (with_reducible refine (ldrop X5.out).mono ?_); rintro e w6 ⟨rfl, hix, hfr⟩; refine ⟨_, rfl, ?_⟩; have X6 : Aside0 (Ix w6 g b 2 1 2 (dropP 2 P2 0)) := ⟨hix⟩; have F6 := Aside0.mk hfr; clear hix hfr)
    | ((with_reducible refine gate_callee (f := 15) rfl ?_); (try (refine gate_guard (by rfl) ?_; dsimp only)); refine goesL_ (some 42) rfl rfl Try.func15 (by kernel_rfl) rfl #[.pointer (some ⟨g, 0, none⟩)] rfl (by (try simp only [List.map_toArray, List.map_cons, List.map_nil]); first | done | rfl) ?_; (with_reducible refine (lslots X6.out).mono ?_); rintro e w7 ⟨c, cap, rfl, hc, htab, hbel⟩; refine ⟨_, rfl, ?_⟩; (obtain ⟨t0, t1⟩ := htab.at_ 0 (by decide)); (obtain ⟨t2, _⟩ := htab.at_ 1 (by decide)); rw [show us (dropP 2 P2 0) 0 = true from by decide] at t0; rw [show ky (dropP 2 P2 0) 0 = 2 from by decide] at t1; rw [show us (dropP 2 P2 0) 1 = false from by decide] at t2; (replace t0 : w7.cell? ⟨c, 0, none⟩ = some (.bool true) := t0); (replace t1 : w7.cell? ⟨c, 1, none⟩ = some (.int .u64 2) := t1); (replace t2 : w7.cell? ⟨c, 2, none⟩ = some (.bool false) := t2); have B7 := Aside0.mk hbel; clear htab hbel hc))
  go_ret
  refine ⟨rfl, ?_⟩
  have h1 := ((((((Fr.refl (fun k => k = g ∨ k = b) W).below XB.out).trans F2.out (fun i hi => .inl hi)).trans F3.out (fun i hi => .inl hi)).trans F5.out (fun i hi => hi.elim)).trans F6.out (fun i hi => .inl hi)).below B7.out
  exact h1.toBelow (fun i hi => hi.elim (fun e => by rw [e]; exact XG.out) (fun e => by rw [e]; exact XH.out))

/-- A living index. -/
def Live (W : World) (g b : Nat) (room keys : Int) (bits : Nat) (pl : List S72) : Prop := Ix W g b room keys bits pl ∧ Fit room keys bits pl ∧ room ≤ 65536

theorem Live.keep {W W' : World} {g b : Nat} {room keys : Int} {bits : Nat} {pl : List S72} (h : Live W g b room keys bits pl) (hg : W'.heap[g]? = W.heap[g]?) (hb : W'.heap[b]? = W.heap[b]?) : Live W' g b room keys bits pl := ⟨h.1.keep hg hb, h.2⟩
theorem Live.fr {S : Nat → Prop} {W W' : World} {g b : Nat} {room keys : Int} {bits : Nat} {pl : List S72} (h : Live W g b room keys bits pl) (k : Fr S W W') (hg : ¬ S g) (hb : ¬ S b) : Live W' g b room keys bits pl := ⟨h.1.fr k hg hb, h.2⟩
theorem Live.below {W W' : World} {g b : Nat} {room keys : Int} {bits : Nat} {pl : List S72} (h : Live W g b room keys bits pl) (k : Below W.heap.size W W') : Live W' g b room keys bits pl := h.keep (k.block g h.1.lt) (k.block b h.1.ltb)

theorem put_any {W : World} {g b : Nat} {room keys : Int} {bits : Nat} {pl : List S72} (h : Live W g b room keys bits pl) (key v : Int) :
    Calls Try.prog 19 #[.pointer (some ⟨g, 0, none⟩), .int .u64 key, .int .i64 v] W fun e w' => ∃ (r keys' : Int) (pl' : List S72), e = .returned (.int .i64 r) ∧ Live w' g b room keys' bits pl' ∧ Fr (fun k => k = g ∨ k = b) W w' ∧
      ((r = 81 ∧ (∃ x, Has pl key x) ∧ keys' = keys ∧ pl' = pl) ∨ (r = 80 ∧ ¬ (∃ x, Has pl key x) ∧ keys = room ∧ keys' = keys ∧ pl' = pl) ∨ (r = 0 ∧ ¬ (∃ x, Has pl key x) ∧ keys < room ∧ keys' = keys + 1 ∧ ∀ k x, Has pl' k x ↔ Has pl k x ∨ (k = key ∧ x = v))) := by
  obtain ⟨hix, hf, hr⟩ := h
  obtain ⟨p, hp⟩ := hf.wf.ends key
  cases hu : us pl p with
  | true =>
    refine (put_there key v p hix hf hp hr hu).mono ?_
    rintro e w' ⟨rfl, rfl⟩
    exact ⟨81, keys, pl, rfl, ⟨hix, hf, hr⟩, Fr.refl _ _, .inl ⟨rfl, ⟨_, (hp.has hf.wf _).mpr ⟨hu, rfl⟩⟩, rfl, rfl⟩⟩
  | false =>
    have hno : ¬ ∃ x, Has pl key x := by
      rintro ⟨x, hx⟩
      have := ((hp.has hf.wf x).mp hx).1
      rw [hu] at this
      simp at this
    by_cases hk : keys = room
    · refine (put_full key v p hix hf hp hr hu hk).mono ?_
      rintro e w' ⟨rfl, m, rfl⟩
      exact ⟨80, keys, pl, rfl, ⟨hix.keep rfl rfl, hf, hr⟩, (Fr.refl _ _).drewN m, .inr (.inl ⟨rfl, hno, hk, rfl, rfl⟩)⟩
    · refine (put_done key v p hix hf hp hr hu hk).mono ?_
      rintro e w' ⟨rfl, h1, h2⟩
      have hk2 : keys < room := by have := hf.most; omega
      exact ⟨0, keys + 1, _, rfl, ⟨h1, hf.put hp hu hk2, hr⟩, h2, .inr (.inr ⟨rfl, hno, hk2, rfl, fun k x => has_put hf hp hu k x⟩)⟩

theorem drop_any {W : World} {g b : Nat} {room keys : Int} {bits : Nat} {pl : List S72} (h : Live W g b room keys bits pl) (key : Int) :
    Calls Try.prog 18 #[.pointer (some ⟨g, 0, none⟩), .int .u64 key] W fun e w' => ∃ (v : Int) (is : Bool) (keys' : Int) (pl' : List S72), e = .returned (.tuple #[.int .i64 v, .bool is]) ∧ Live w' g b room keys' bits pl' ∧ Fr (fun k => k = g ∨ k = b) W w' ∧
      ((is = false ∧ v = 0 ∧ ¬ (∃ x, Has pl key x) ∧ keys' = keys ∧ pl' = pl) ∨ (is = true ∧ Has pl key v ∧ keys' = keys - 1 ∧ ∀ k x, Has pl' k x ↔ Has pl k x ∧ k ≠ key)) := by
  obtain ⟨hix, hf, hr⟩ := h
  obtain ⟨p, hp⟩ := hf.wf.ends key
  cases hu : us pl p with
  | true =>
    refine (drop_done key p hix hf hp hr hu).mono ?_
    rintro e w' ⟨rfl, h1, h2⟩
    obtain ⟨f1, f2⟩ := hf.drop hp.1 hu
    rw [hp.used hu] at f2
    exact ⟨vl pl p, true, keys - 1, _, rfl, ⟨h1, f1, hr⟩, h2, .inr ⟨rfl, (hp.has hf.wf _).mpr ⟨hu, rfl⟩, rfl, f2⟩⟩
  | false =>
    have hno : ¬ ∃ x, Has pl key x := by
      rintro ⟨x, hx⟩
      have := ((hp.has hf.wf x).mp hx).1
      rw [hu] at this
      simp at this
    refine (drop_none key p hix hf hp hu).mono ?_
    rintro e w' ⟨rfl, hbel⟩
    exact ⟨0, false, keys, pl, rfl, ⟨hix.keep (hbel.block g hix.lt) (hbel.block b hix.ltb), hf, hr⟩, (Fr.refl _ _).below hbel, .inl ⟨rfl, rfl, hno, rfl, rfl⟩⟩

theorem get_any {W : World} {g b : Nat} {room keys : Int} {bits : Nat} {pl : List S72} (h : Live W g b room keys bits pl) (key : Int) :
    Calls Try.prog 20 #[.pointer (some ⟨g, 0, none⟩), .int .u64 key] W fun e w' => ∃ (v : Int) (is : Bool), e = .returned (.tuple #[.int .i64 v, .bool is]) ∧ Below W.heap.size W w' ∧ ((is = false ∧ ¬ ∃ x, Has pl key x) ∨ (is = true ∧ Has pl key v)) := by
  obtain ⟨hix, hf, hr⟩ := h
  obtain ⟨p, hp⟩ := hf.wf.ends key
  refine (get_calls key p hix hf hp).mono ?_
  rintro e w' ⟨rfl, hbel⟩
  refine ⟨_, _, rfl, hbel, ?_⟩
  cases hu : us pl p with
  | true => exact .inr ⟨rfl, (hp.has hf.wf _).mpr ⟨hu, rfl⟩⟩
  | false =>
    refine .inl ⟨rfl, ?_⟩
    rintro ⟨x, hx⟩
    have := ((hp.has hf.wf x).mp hx).1
    rw [hu] at this
    simp at this

theorem new_live (room : Int) (W : World) (h1 : 1 ≤ room) (h2 : room ≤ 65536) :
    Calls Try.prog 16 #[.int .i64 room] W fun e W' => ∃ g b bits pl, e = .returned (.tuple #[.pointer (some ⟨g, 0, none⟩), .int .i64 0]) ∧ W.heap.size ≤ g ∧ W.heap.size ≤ b ∧ Live W' g b room 0 bits pl ∧ (∀ k v, ¬ Has pl k v) ∧ Below W.heap.size W W' := by
  refine (new_good room W h1 h2).mono ?_
  rintro e W' ⟨g, b, bits, rfl, hg, hb, hl, hix, hbel⟩
  exact ⟨g, b, bits, _, rfl, hg, hb, ⟨hix, fit_zero room bits h1 hl, h2⟩, has_zero _, hbel⟩
end Go.Proofs.Ytmcaoecmjibegaa.PIx
