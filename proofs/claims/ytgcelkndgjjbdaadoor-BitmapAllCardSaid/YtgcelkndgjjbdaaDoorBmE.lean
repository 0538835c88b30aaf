/- Len; Set, Clear, Has at any number; the empty map; filled. -/
import Derived.Test.YtgcelkndgjjbdaaDoorBmD
namespace Go.Proofs.YtgcelkndgjjbdaaDoor.PBm
open Go.RowKit Go.Proofs.YtgcelkndgjjbdaaDoorW.PrintWords Go.Proofs.YtgcelkndgjjbdaaDoorW.PrintLast Go.Proofs.YtgcelkndgjjbdaaDoorW.PrintMore
set_option linter.unusedVariables false
set_option linter.unusedSimpArgs false

set_option maxHeartbeats 8000000 in
set_option maxRecDepth 100000 in
theorem len_calls {W : World} {g : Nat} {S : St} (h : Bm W g S) :
    Calls Tryd.prog 9 #[.pointer (some ⟨g, 0, none⟩)] W fun e w' => e = .returned (.int .i64 ((count S 0 262144 : Nat) : Int)) ∧ w' = W := by
  have HM := Aside0.mk h
  clear h
  go_enter Tryd.func9, Tryd.ntmps9
  go_wp2_with (go_at_call 8; refine (count_calls HM.out 0 262144).mono ?_; rintro e w4 ⟨rfl, h4⟩; subst w4)
  go_ret
  exact ⟨rfl, rfl⟩

/-- A set with a number put in, taken out. -/
def put (S : St) (t : Int) : St := if tickB t then up S t.toNat true else S
def del (S : St) (t : Int) : St := if tickB t then up S t.toNat false else S

theorem up_same {S : St} {t : Nat} {v : Bool} (h : S t = v) (x : Nat) : up S t v x = S x := by
  unfold up
  split
  · rename_i e; rw [e, h]
  · rfl

theorem set_any (S : St) {W : World} {g : Nat} (h : Bm W g S) (t : Int) :
    Calls Tryd.prog 15 #[.pointer (some ⟨g, 0, none⟩), .int .i64 t] W fun e w' => e = .returned (.bool (tickB t && !hasB S t)) ∧ Bm w' g (put S t) ∧ Fr (fun k => k = g) W w' := by
  by_cases h1 : tickB t = false ∨ hasB S t = true
  · refine (set_no S h t h1).mono ?_
    rintro e w' ⟨rfl, rfl⟩
    refine ⟨?_, ?_, Fr.refl _ _⟩
    · rcases h1 with h1 | h1
      · rw [h1]; rfl
      · rw [h1]; simp
    · rcases h1 with h1 | h1
      · unfold put; rw [h1]; exact h
      · unfold hasB at h1
        simp only [Bool.and_eq_true] at h1
        unfold put
        rw [if_pos h1.1]
        exact h.ext fun x _ => (up_same h1.2 x).symm
  · have h2 : tickB t = true := by cases e : tickB t; exact absurd (.inl e) h1; rfl
    have h3 : hasB S t = false := by cases e : hasB S t; rfl; exact absurd (.inr e) h1
    have h4 : 0 ≤ t ∧ t < 262144 := of_decide_eq_true h2
    obtain ⟨n, rfl⟩ : ∃ n : Nat, t = n := ⟨t.toNat, by omega⟩
    have h5 := h3
    unfold hasB at h5
    rw [h2, Bool.true_and, Int.toNat_natCast] at h5
    refine (set_yes S h n (by omega) h5).mono ?_
    rintro e w' ⟨rfl, h6, h7⟩
    refine ⟨by rw [h2, h3]; rfl, ?_, h7⟩
    unfold put
    rw [if_pos h2, Int.toNat_natCast]
    exact h6

theorem clear_any (S : St) {W : World} {g : Nat} (h : Bm W g S) (t : Int) :
    Calls Tryd.prog 20 #[.pointer (some ⟨g, 0, none⟩), .int .i64 t] W fun e w' => e = .returned (.bool (hasB S t)) ∧ Bm w' g (del S t) ∧ Fr (fun k => k = g) W w' := by
  cases h1 : hasB S t with
  | false =>
    refine (clear_no S h t h1).mono ?_
    rintro e w' ⟨rfl, rfl⟩
    refine ⟨rfl, ?_, Fr.refl _ _⟩
    unfold del
    split
    · rename_i h2
      unfold hasB at h1
      rw [h2, Bool.true_and] at h1
      exact h.ext fun x _ => (up_same h1 x).symm
    · exact h
  | true =>
    have h2 := h1
    unfold hasB at h2
    simp only [Bool.and_eq_true] at h2
    have h4 : 0 ≤ t ∧ t < 262144 := of_decide_eq_true h2.1
    obtain ⟨n, rfl⟩ : ∃ n : Nat, t = n := ⟨t.toNat, by omega⟩
    rw [Int.toNat_natCast] at h2
    refine (clear_yes S h n (by omega) h2.2).mono ?_
    rintro e w' ⟨rfl, h6, h7⟩
    refine ⟨rfl, ?_, h7⟩
    unfold del
    rw [if_pos h2.1, Int.toNat_natCast]
    exact h6

theorem has_any (S : St) {W : World} {g : Nat} (h : Bm W g S) (t : Int) :
    Calls Tryd.prog 13 #[.pointer (some ⟨g, 0, none⟩), .int .i64 t] W fun e w' => e = .returned (.bool (hasB S t)) ∧ w' = W := by
  cases h1 : tickB t with
  | false => exact has_out S W _ t h1
  | true =>
    have h4 : 0 ≤ t ∧ t < 262144 := of_decide_eq_true h1
    obtain ⟨n, rfl⟩ : ∃ n : Nat, t = n := ⟨t.toNat, by omega⟩
    have := has_in h n (by omega)
    unfold hasB
    rw [h1, Bool.true_and, Int.toNat_natCast]
    exact this

/-- The empty set. -/
def E0 : St := fun _ => false
theorem lowW_E0 (i : Nat) : lowW E0 i = 0 := wd_none
theorem midW_E0 (i : Nat) : midW E0 i = 0 := by
  unfold midW
  rw [← wd_none]
  exact wd_ext fun b _ => by rw [lowW_E0]; rfl
theorem topW_E0 : topW E0 = 0 := by
  unfold topW
  rw [← wd_none]
  exact wd_ext fun b _ => by rw [midW_E0]; rfl
theorem cells_E0 : cells E0 = Array.replicate 4161 (.int .u64 0) := by
  apply Array.ext_getElem?
  intro k
  by_cases hk : k < 4161
  · rw [cells_at _ k hk, Array.getElem?_replicate, if_pos hk]
    unfold cv cw
    split
    · rw [topW_E0]; rfl
    · split
      · rw [midW_E0]; rfl
      · rw [lowW_E0]; rfl
  · rw [Array.getElem?_eq_none (by rw [cells_size]; omega), Array.getElem?_replicate, if_neg hk]

theorem zero30 (W : World) : (zeroValue 37).run Tryd.prog W = .ok (.agg (cells E0)) W := by
  rw [cells_E0]
  kernel_rfl

theorem Fr.onto {X : Nat → Prop} {w w' w2 : World} (h : Below w.heap.size w w') (k : Fr X w' w2) (hs : ∀ i, X i → w.heap.size ≤ i) : Below w.heap.size w w2 :=
  ⟨k.os.trans h.os, k.tape.trans h.tape, k.output.trans h.output, Nat.le_trans h.size k.size, fun i hi => (k.block i (Nat.lt_of_lt_of_le hi h.size) (fun h2 => by have := hs i h2; omega)).trans (h.block i hi)⟩

/-- How many there are. -/
def len (S : St) : Nat := cnt S 262144
theorem count_len (S : St) : count S 0 262144 = len S := by
  unfold count len
  refine cnt_ext fun x hx => ?_
  unfold inR
  have h2 : (x : Int) < 262144 := by omega
  simp [h2]
theorem len_ext {S T : St} (h : ∀ t, t < 262144 → S t = T t) : len S = len T := cnt_ext h
theorem cnt_up {S : St} {t : Nat} (hs : S t = false) : ∀ n, cnt (up S t true) n = cnt S n + (if t < n then 1 else 0)
  | 0 => by simp [cnt]
  | n + 1 => by
    have ih := cnt_up hs n
    simp only [cnt]
    by_cases e : n = t
    · subst e
      rw [up_self, hs, ih]
      simp
    · rw [up_ne _ _ e, ih]
      by_cases h : t < n
      · have h2 : t < n + 1 := by omega
        simp only [h, h2, if_true]
        omega
      · have h2 : ¬ t < n + 1 := by omega
        simp only [h, h2, if_false]
        omega
theorem len_E0 : len E0 = 0 := cnt_zero fun _ _ => rfl

/-- Whole numbers in a slice. -/
def Ints (W : World) (A : Option Addr) (n : Nat) (f : Nat → Int) : Prop := ∀ i, i < n → ∃ ab ao, A = some ⟨ab, ao, none⟩ ∧ W.cell? ⟨ab, ao + i, none⟩ = some (.int .i64 (f i))
theorem Ints.below {W W' : World} {A : Option Addr} {n : Nat} {f : Nat → Int} (h : Ints W A n f) (k : Below W.heap.size W W') : Ints W' A n f := fun i hi => by
  obtain ⟨ab, ao, e, hc⟩ := h i hi
  exact ⟨ab, ao, e, (k.cell (p := ⟨ab, ao + i, none⟩) (block_lt_of_cell hc)).trans hc⟩

/-- The set of the first numbers. -/
def fillN (f : Nat → Int) : Nat → St
  | 0 => E0
  | k + 1 => put (fillN f k) (f k)

def F1 : St := up E0 3 true
def F2 : St := up F1 262143 true
def F3 : St := up F2 3 false
def F4 : St := up F3 262143 false
theorem F4_E0 (x : Nat) : F4 x = E0 x := by
  unfold F4 F3 F2 F1 up
  by_cases h1 : x = 262143
  · simp [h1]; rfl
  · by_cases h2 : x = 3
    · simp [h2]; rfl
    · simp [h1, h2]
theorem topW_F2 : topW F2 = 9223372036854775809 := by
  unfold F2 F1
  rw [topW_set _ _ (by decide), topW_set _ _ (by decide), topW_E0]
  decide
theorem len_F2 : count F2 0 262144 = 2 := by
  rw [count_len]
  unfold len F2 F1
  rw [cnt_up (by rfl), cnt_up (by rfl)]
  have := len_E0
  unfold len at this
  rw [this]
  rfl

set_option maxHeartbeats 8000000 in
set_option maxRecDepth 100000 in
theorem filled_calls {W : World} {A : Option Addr} {n cap : Nat} {f : Nat → Int} (hl : Ints W A n f) (hn : n ≤ 9223372036854775807) :
    Calls Tryd.prog 7 #[.slice A n cap] W fun e w' => e = .returned (.tuple #[.pointer (some ⟨W.heap.size, 0, none⟩), .bool true]) ∧ Bm w' W.heap.size (fillN f n) ∧ Below W.heap.size W w' := by
  have HL := Aside0.mk hl
  obtain ⟨Z, hZ⟩ : ∃ Z, Z = cells E0 := ⟨_, rfl⟩
  have hz : ∀ w, (zeroValue 37).run Tryd.prog w = .ok (.agg Z) w := fun w => by rw [hZ]; exact zero30 w
  have B0 : Aside0 (Bm (W.alloc (.cells Z 37)) W.heap.size E0) := ⟨by rw [hZ]; exact heap_alloc_new W _⟩
  have Z0 := Aside0.mk hZ
  clear hZ hl
  have c1 : ∀ w, Bm w W.heap.size E0 → Calls Tryd.prog 15 #[.pointer (some ⟨W.heap.size, 0, none⟩), .int .i64 3] w fun e w' => e = .returned (.bool true) ∧ Bm w' W.heap.size F1 ∧ Fr (fun k => k = W.heap.size) w w' := fun w h => set_yes E0 h 3 (by decide) rfl
  have c2 : ∀ w, Bm w W.heap.size F1 → Calls Tryd.prog 15 #[.pointer (some ⟨W.heap.size, 0, none⟩), .int .i64 262143] w fun e w' => e = .returned (.bool true) ∧ Bm w' W.heap.size F2 ∧ Fr (fun k => k = W.heap.size) w w' := fun w h => set_yes F1 h 262143 (by decide) rfl
  have c3 : ∀ w, Bm w W.heap.size F2 → Calls Tryd.prog 15 #[.pointer (some ⟨W.heap.size, 0, none⟩), .int .i64 3] w fun e w' => e = .returned (.bool false) ∧ w' = w := fun w h => set_no F2 h 3 (.inr rfl)
  have c4 : ∀ w, Bm w W.heap.size F2 → Calls Tryd.prog 24 #[.pointer (some ⟨W.heap.size, 0, none⟩)] w fun e w' => e = .returned (.int .u64 9223372036854775809) ∧ w' = w := fun w h => by
    have := top_calls h
    rw [topW_F2] at this
    exact this
  have c5 : ∀ w, Bm w W.heap.size F2 → Calls Tryd.prog 9 #[.pointer (some ⟨W.heap.size, 0, none⟩)] w fun e w' => e = .returned (.int .i64 2) ∧ w' = w := fun w h => by
    have := len_calls h
    rw [len_F2] at this
    exact this
  have c6 : ∀ w, Bm w W.heap.size F2 → Calls Tryd.prog 20 #[.pointer (some ⟨W.heap.size, 0, none⟩), .int .i64 3] w fun e w' => e = .returned (.bool true) ∧ Bm w' W.heap.size F3 ∧ Fr (fun k => k = W.heap.size) w w' := fun w h => clear_yes F2 h 3 (by decide) rfl
  have c7 : ∀ w, Bm w W.heap.size F3 → Calls Tryd.prog 20 #[.pointer (some ⟨W.heap.size, 0, none⟩), .int .i64 262143] w fun e w' => e = .returned (.bool true) ∧ Bm w' W.heap.size E0 ∧ Fr (fun k => k = W.heap.size) w w' := fun w h => (clear_yes F3 h 262143 (by decide) rfl).mono fun e w' ⟨a, b, c⟩ => ⟨a, b.ext fun x _ => F4_E0 x, c⟩
  have c8 : ∀ w, Bm w W.heap.size E0 → Calls Tryd.prog 24 #[.pointer (some ⟨W.heap.size, 0, none⟩)] w fun e w' => e = .returned (.int .u64 0) ∧ w' = w := fun w h => by
    have := top_calls h
    rw [topW_E0] at this
    exact this
  have C1 := Aside0.mk c1
  have C2 := Aside0.mk c2
  have C3 := Aside0.mk c3
  have C4 := Aside0.mk c4
  have C5 := Aside0.mk c5
  have C6 := Aside0.mk c6
  have C7 := Aside0.mk c7
  have C8 := Aside0.mk c8
  clear c1 c2 c3 c4 c5 c6 c7 c8
  go_enter Tryd.func7, Tryd.ntmps7
  go_wp2_with (first
    | (go_at_call 15; (with_reducible refine (C1.out _ B0.out).mono ?_); rintro e w1 ⟨rfl, h1, f1⟩; have H1 := Aside0.mk h1; have G1 := Aside0.mk f1; clear h1 f1)
    | (go_at_call 15; (with_reducible refine (C2.out _ H1.out).mono ?_); rintro e w2 ⟨rfl, h2, f2⟩; have H2 := Aside0.mk h2; have G2 := Aside0.mk f2; clear h2 f2)
    | (go_at_call 15; (with_reducible refine (C3.out _ H2.out).mono ?_); rintro e w3 ⟨rfl, h3⟩; subst w3)
    | (go_at_call 24; (with_reducible refine (C4.out _ H2.out).mono ?_); rintro e w3 ⟨rfl, h3⟩; subst w3)
    | (go_at_call 9; (with_reducible refine (C5.out _ H2.out).mono ?_); rintro e w3 ⟨rfl, h3⟩; subst w3)
    | (go_at_call 20; (with_reducible refine (C6.out _ H2.out).mono ?_); rintro e w3 ⟨rfl, h3, f3⟩; have H3 := Aside0.mk h3; have G3 := Aside0.mk f3; clear h3 f3)
    | (go_at_call 20; (with_reducible refine (C7.out _ H3.out).mono ?_); rintro e w4 ⟨rfl, h4, f4⟩; have H4 := Aside0.mk h4; have G4 := Aside0.mk f4; clear h4 f4)
    | (go_at_call 24; (with_reducible refine (C8.out _ H4.out).mono ?_); rintro e w5 ⟨rfl, h5⟩; subst w5))
  have F0 : Below W.heap.size W w4 := by
    have f0 : Fr (fun k => k = W.heap.size) W w4 := (((((Fr.refl (fun k => k = W.heap.size) W).alloc (.cells Z 37)).trans G1.out (fun i hi => .inl hi)).trans G2.out (fun i hi => .inl hi)).trans G3.out (fun i hi => .inl hi)).trans G4.out (fun i hi => .inl hi)
    exact f0.toBelow fun i hi => by omega
  have HF0 := Aside0.mk F0
  clear F0 H1 H2 H3 G1 G2 G3 G4 C1 C2 C3 C4 C5 C6 C7 C8 B0 Z0 hz
  go_loopg [5] n (fun kq v w' => ∃ i : Nat, v = .int .i64 (i : Int) ∧ Aside0 (kq + i = n) ∧ Aside0 (Bm w' W.heap.size (fillN f i)) ∧ Aside0 (Below W.heap.size W w'))
  case atStart => exact ⟨0, rfl, ⟨rfl⟩, H4, HF0⟩
  case round =>
    obtain ⟨i, rfl, HK, HM, HB⟩ := hrel
    have hin : i ≤ n := by have := HK.out; omega
    by_cases hi : i < n
    · obtain ⟨k1, rfl⟩ : ∃ k1, gk = k1 + 1 := ⟨gk - 1, by have := HK.out; omega⟩
      obtain ⟨ab, ao, rfl, hc⟩ := (HL.out.below HB.out) i hi
      go_wp2_with (go_at_call 15; (with_reducible refine (set_any _ HM.out _).mono ?_); rintro e w5 ⟨rfl, h5, f5⟩; have H5 := Aside0.mk h5; have G5 := Aside0.mk f5; clear h5 f5)
      go_roundg k1
      case measure => omega
      case rel =>
        exact ⟨i + 1, by simp, ⟨by have := HK.out; omega⟩, H5, ⟨Fr.onto HB.out G5.out (fun i hi => by omega)⟩⟩
    · obtain rfl : i = n := by omega
      go_wp2
      go_ret2
      exact ⟨rfl, HM.out, HB.out⟩
end Go.Proofs.YtgcelkndgjjbdaaDoor.PBm
