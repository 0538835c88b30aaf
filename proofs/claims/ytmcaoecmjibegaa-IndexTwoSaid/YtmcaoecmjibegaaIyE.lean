/- IndexTwo: the calls on two indexes that keep the same. -/
import Derived.Test.YtmcaoecmjibegaaIyB
namespace Go.Proofs.Ytmcaoecmjibegaa.PIx
open Go.RowKit Go.Proofs.YtmcaoecmjibegaaW.PrintWords Go.Proofs.YtmcaoecmjibegaaW.PrintLast Go.Proofs.YtmcaoecmjibegaaW.PrintMore
open Go.Shelf
set_option linter.unusedVariables false
set_option linter.unusedSimpArgs false

theorem Has.one {room keys : Int} {bits : Nat} {pl : List S72} (hf : Fit room keys bits pl) {k v v' : Int} (h : Has pl k v) (h' : Has pl k v') : v = v' := by
  obtain ⟨i, hi, hu, hk, rfl⟩ := h
  obtain ⟨j, hj, hu', hk', rfl⟩ := h'
  rw [hf.dis i j hi hj hu hu' (hk.trans hk'.symm)]

section
variable {W : World} {g b : Nat} {room keys : Int} {bits : Nat} {pl : List S72}
theorem drop_was (h : Live W g b room keys bits pl) (key v : Int) (hv : Has pl key v) :
    Calls Try.prog 18 #[.pointer (some ⟨g, 0, none⟩), .int .u64 key] W fun e w' => e = .returned (.tuple #[.int .i64 v, .bool true]) ∧ ∃ pl', Live w' g b room (keys - 1) bits pl' ∧ Fr (fun k => k = g ∨ k = b) W w' ∧ ∀ k x, Has pl' k x ↔ Has pl k x ∧ k ≠ key := by
  refine (drop_any h key).mono ?_
  rintro e w' ⟨v', is, keys', pl', rfl, hl', hf, ⟨rfl, rfl, hno, _⟩ | ⟨rfl, hx, rfl, hh⟩⟩
  · exact absurd ⟨v, hv⟩ hno
  · exact ⟨by rw [hx.one h.2.1 hv], pl', hl', hf, hh⟩
theorem drop_not (h : Live W g b room keys bits pl) (key : Int) (hv : ¬ ∃ v, Has pl key v) :
    Calls Try.prog 18 #[.pointer (some ⟨g, 0, none⟩), .int .u64 key] W fun e w' => e = .returned (.tuple #[.int .i64 0, .bool false]) ∧ Live w' g b room keys bits pl ∧ Fr (fun k => k = g ∨ k = b) W w' := by
  refine (drop_any h key).mono ?_
  rintro e w' ⟨v', is, keys', pl', rfl, hl', hf, ⟨rfl, rfl, hno, rfl, rfl⟩ | ⟨rfl, hx, rfl, hh⟩⟩
  · exact ⟨rfl, hl', hf⟩
  · exact absurd ⟨_, hx⟩ hv
theorem put_was (h : Live W g b room keys bits pl) (key x : Int) (hv : ∃ v, Has pl key v) :
    Calls Try.prog 19 #[.pointer (some ⟨g, 0, none⟩), .int .u64 key, .int .i64 x] W fun e w' => e = .returned (.int .i64 81) ∧ Live w' g b room keys bits pl ∧ Fr (fun k => k = g ∨ k = b) W w' := by
  refine (put_any h key x).mono ?_
  rintro e w' ⟨r, keys', pl', rfl, hl', hf, ⟨rfl, _, rfl, rfl⟩ | ⟨rfl, hno, _⟩ | ⟨rfl, hno, _⟩⟩
  · exact ⟨rfl, hl', hf⟩
  · exact absurd hv hno
  · exact absurd hv hno
theorem put_not (h : Live W g b room keys bits pl) (key x : Int) (hv : ¬ ∃ v, Has pl key v) (hk : keys < room) :
    Calls Try.prog 19 #[.pointer (some ⟨g, 0, none⟩), .int .u64 key, .int .i64 x] W fun e w' => e = .returned (.int .i64 0) ∧ ∃ pl', Live w' g b room (keys + 1) bits pl' ∧ Fr (fun k => k = g ∨ k = b) W w' ∧ ∀ k y, Has pl' k y ↔ Has pl k y ∨ (k = key ∧ y = x) := by
  refine (put_any h key x).mono ?_
  rintro e w' ⟨r, keys', pl', rfl, hl', hf, ⟨rfl, hx, _⟩ | ⟨rfl, hno, he, _⟩ | ⟨rfl, hno, hlt, rfl, hh⟩⟩
  · exact absurd hx hv
  · omega
  · exact ⟨rfl, pl', hl', hf, hh⟩
theorem get_was (h : Live W g b room keys bits pl) (key v : Int) (hv : Has pl key v) :
    Calls Try.prog 20 #[.pointer (some ⟨g, 0, none⟩), .int .u64 key] W fun e w' => e = .returned (.tuple #[.int .i64 v, .bool true]) ∧ Below W.heap.size W w' := by
  refine (get_any h key).mono ?_
  rintro e w' ⟨v', is, rfl, hb, ⟨rfl, hno⟩ | ⟨rfl, hx⟩⟩
  · exact absurd ⟨v, hv⟩ hno
  · exact ⟨by rw [hx.one h.2.1 hv], hb⟩
theorem get_not (h : Live W g b room keys bits pl) (key : Int) (hv : ¬ ∃ v, Has pl key v) :
    Calls Try.prog 20 #[.pointer (some ⟨g, 0, none⟩), .int .u64 key] W fun e w' => e = .returned (.tuple #[.int .i64 0, .bool false]) ∧ Below W.heap.size W w' := by
  obtain ⟨hix, hf, hr⟩ := h
  obtain ⟨p, hp⟩ := hf.wf.ends key
  have hu : us pl p = false := by
    cases hu : us pl p with
    | false => rfl
    | true => exact absurd ⟨_, (hp.has hf.wf _).mpr ⟨hu, rfl⟩⟩ hv
  refine (get_calls key p hix hf hp).mono ?_
  rintro e w' ⟨rfl, hbel⟩
  exact ⟨by rw [hu, hf.zer p hu], hbel⟩
/-- Whatever key: what both tell. -/
theorem get_both {w : World} {g2 b2 : Nat} {room2 keys2 : Int} {bits2 : Nat} {pl2 : List S72} (hf : Fit room keys bits pl) (hs : ∀ k v, Has pl k v ↔ Has pl2 k v) (key : Int) :
    ∃ (v : Int) (is : Bool), (∀ W, Live W g b room keys bits pl → Calls Try.prog 20 #[.pointer (some ⟨g, 0, none⟩), .int .u64 key] W fun e w' => e = .returned (.tuple #[.int .i64 v, .bool is]) ∧ Below W.heap.size W w') ∧
      (∀ W, Live W g2 b2 room2 keys2 bits2 pl2 → Calls Try.prog 20 #[.pointer (some ⟨g2, 0, none⟩), .int .u64 key] W fun e w' => e = .returned (.tuple #[.int .i64 v, .bool is]) ∧ Below W.heap.size W w') := by
  by_cases h : ∃ v, Has pl key v
  · obtain ⟨v, hv⟩ := h
    exact ⟨v, true, fun W hl => get_was hl key v hv, fun W hl => get_was hl key v ((hs _ _).mp hv)⟩
  · exact ⟨0, false, fun W hl => get_not hl key h, fun W hl => get_not hl key (fun ⟨v, hv⟩ => h ⟨v, (hs _ _).mpr hv⟩)⟩
/-- Whatever key is dropped: what both tell, and they keep the same. -/
theorem drop_both {g2 b2 : Nat} {room2 keys2 : Int} {bits2 : Nat} {pl2 : List S72} (hs : ∀ k v, Has pl k v ↔ Has pl2 k v) (key : Int) :
    ∃ (v d : Int) (is : Bool), (∀ W, Live W g b room keys bits pl → Calls Try.prog 18 #[.pointer (some ⟨g, 0, none⟩), .int .u64 key] W fun e w' => e = .returned (.tuple #[.int .i64 v, .bool is]) ∧ ∃ pl', Live w' g b room (keys - d) bits pl' ∧ Fr (fun k => k = g ∨ k = b) W w' ∧ ∀ k x, Has pl' k x ↔ Has pl k x ∧ k ≠ key) ∧
      (∀ W, Live W g2 b2 room2 keys2 bits2 pl2 → Calls Try.prog 18 #[.pointer (some ⟨g2, 0, none⟩), .int .u64 key] W fun e w' => e = .returned (.tuple #[.int .i64 v, .bool is]) ∧ ∃ pl', Live w' g2 b2 room2 (keys2 - d) bits2 pl' ∧ Fr (fun k => k = g2 ∨ k = b2) W w' ∧ ∀ k x, Has pl' k x ↔ Has pl2 k x ∧ k ≠ key) := by
  by_cases h : ∃ v, Has pl key v
  · obtain ⟨v, hv⟩ := h
    exact ⟨v, 1, true, fun W hl => drop_was hl key v hv, fun W hl => drop_was hl key v ((hs _ _).mp hv)⟩
  · have h2 : ¬ ∃ v, Has pl2 key v := fun ⟨v, hv⟩ => h ⟨v, (hs _ _).mpr hv⟩
    refine ⟨0, 0, false, fun W hl => (drop_not hl key h).mono ?_, fun W hl => (drop_not hl key h2).mono ?_⟩
    · rintro e w' ⟨rfl, hl', hf⟩
      exact ⟨rfl, pl, by rw [Int.sub_zero]; exact hl', hf, fun k x => ⟨fun hh => ⟨hh, fun e => h ⟨x, e ▸ hh⟩⟩, fun hh => hh.1⟩⟩
    · rintro e w' ⟨rfl, hl', hf⟩
      exact ⟨rfl, pl2, by rw [Int.sub_zero]; exact hl', hf, fun k x => ⟨fun hh => ⟨hh, fun e => h2 ⟨x, e ▸ hh⟩⟩, fun hh => hh.1⟩⟩
/-- Whatever is put, there being room: what both tell, and they keep the same. -/
theorem put_both {g2 b2 : Nat} {room2 keys2 : Int} {bits2 : Nat} {pl2 : List S72} (hs : ∀ k v, Has pl k v ↔ Has pl2 k v) (h1 : keys < room) (h2 : keys2 < room2) (key x : Int) :
    ∃ (r d : Int), (∀ W, Live W g b room keys bits pl → Calls Try.prog 19 #[.pointer (some ⟨g, 0, none⟩), .int .u64 key, .int .i64 x] W fun e w' => e = .returned (.int .i64 r) ∧ ∃ pl', Live w' g b room (keys + d) bits pl' ∧ Fr (fun k => k = g ∨ k = b) W w' ∧ ∀ k y, Has pl' k y ↔ Has pl k y ∨ (r = 0 ∧ k = key ∧ y = x)) ∧
      (∀ W, Live W g2 b2 room2 keys2 bits2 pl2 → Calls Try.prog 19 #[.pointer (some ⟨g2, 0, none⟩), .int .u64 key, .int .i64 x] W fun e w' => e = .returned (.int .i64 r) ∧ ∃ pl', Live w' g2 b2 room2 (keys2 + d) bits2 pl' ∧ Fr (fun k => k = g2 ∨ k = b2) W w' ∧ ∀ k y, Has pl' k y ↔ Has pl2 k y ∨ (r = 0 ∧ k = key ∧ y = x)) := by
  by_cases h : ∃ v, Has pl key v
  · have h3 : ∃ v, Has pl2 key v := h.imp fun v hv => (hs _ _).mp hv
    refine ⟨81, 0, fun W hl => (put_was hl key x h).mono ?_, fun W hl => (put_was hl key x h3).mono ?_⟩
    · rintro e w' ⟨rfl, hl', hf⟩
      exact ⟨rfl, pl, by rw [Int.add_zero]; exact hl', hf, fun k y => ⟨.inl, fun hh => hh.elim id (fun c => by omega)⟩⟩
    · rintro e w' ⟨rfl, hl', hf⟩
      exact ⟨rfl, pl2, by rw [Int.add_zero]; exact hl', hf, fun k y => ⟨.inl, fun hh => hh.elim id (fun c => by omega)⟩⟩
  · have h3 : ¬ ∃ v, Has pl2 key v := fun ⟨v, hv⟩ => h ⟨v, (hs _ _).mpr hv⟩
    refine ⟨0, 1, fun W hl => (put_not hl key x h h1).mono ?_, fun W hl => (put_not hl key x h3 h2).mono ?_⟩
    · rintro e w' ⟨rfl, pl', hl', hf, hh⟩
      exact ⟨rfl, pl', hl', hf, fun k y => (hh k y).trans ⟨fun c => c.imp id (fun c => ⟨rfl, c⟩), fun c => c.imp id (fun c => c.2)⟩⟩
    · rintro e w' ⟨rfl, pl', hl', hf, hh⟩
      exact ⟨rfl, pl', hl', hf, fun k y => (hh k y).trans ⟨fun c => c.imp id (fun c => ⟨rfl, c⟩), fun c => c.imp id (fun c => c.2)⟩⟩
end
end Go.Proofs.Ytmcaoecmjibegaa.PIx
