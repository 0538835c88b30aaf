/- The index's calls, told by what is known. -/
import Derived.Test.YtmcaoecmjibegaaIxR
namespace Go.Proofs.Ytmcaoecmjibegaa.PIx
open Go.RowKit Go.Proofs.YtmcaoecmjibegaaW.PrintWords Go.Proofs.YtmcaoecmjibegaaW.PrintLast Go.Proofs.YtmcaoecmjibegaaW.PrintMore
set_option linter.unusedVariables false
set_option linter.unusedSimpArgs false

/-- What IndexMap has in memory: the index, the list. -/
structure MapW (W : World) (B g b : Nat) (room keys : Int) (bits : Nat) (pl : List S72) (v : Value) (now : List S46) (w : World) : Prop where
  live : Live w g b room keys bits pl
  nw : Nw w B v now
  bel : Below W.heap.size W w
  size : B ≤ w.heap.size
  gB : g < B
  bB : b < B
  gW : W.heap.size ≤ g
  bW : W.heap.size ≤ b
  sem : Sem keys pl now

namespace MapW
variable {W w w' : World} {B g b : Nat} {room keys : Int} {bits : Nat} {pl : List S72} {v : Value} {now : List S46}
theorem ix (h : MapW W B g b room keys bits pl v now w) : Ix w g b room keys bits pl := h.live.1
theorem drewN (h : MapW W B g b room keys bits pl v now w) (m : Nat) : MapW W B g b room keys bits pl v now (w.drewN m) :=
  ⟨h.live.keep rfl rfl, h.nw.keep (fun _ _ _ => rfl), ⟨h.bel.os, h.bel.tape, h.bel.output, h.bel.size, h.bel.block⟩, h.size, h.gB, h.bB, h.gW, h.bW, h.sem⟩
theorem drew (h : MapW W B g b room keys bits pl v now w) : MapW W B g b room keys bits pl v now w.drew :=
  ⟨h.live.keep rfl rfl, h.nw.keep (fun _ _ _ => rfl), ⟨h.bel.os, h.bel.tape, h.bel.output, h.bel.size, h.bel.block⟩, h.size, h.gB, h.bB, h.gW, h.bW, h.sem⟩
theorem below (h : MapW W B g b room keys bits pl v now w) (k : Below w.heap.size w w') : MapW W B g b room keys bits pl v now w' :=
  ⟨h.live.below k, h.nw.below k, below_then h.bel h.bel.size k, Nat.le_trans h.size k.size, h.gB, h.bB, h.gW, h.bW, h.sem⟩
theorem call {keys' : Int} {pl' : List S72} (h : MapW W B g b room keys bits pl v now w) (hl : Live w' g b room keys' bits pl') (k : Fr (fun i => i = g ∨ i = b) w w') (hs : Sem keys' pl' now) : MapW W B g b room keys' bits pl' v now w' :=
  ⟨hl, h.nw.fr k (fun i hi => hi.elim (fun e => by rw [e]; exact h.gB) (fun e => by rw [e]; exact h.bB)), keptOf h.gW h.bW h.bel k, Nat.le_trans h.size k.size, h.gB, h.bB, h.gW, h.bW, hs⟩
theorem len_le (h : MapW W B g b room keys bits pl v now w) : now.length ≤ 65536 := by
  have h1 := h.sem.len
  have h2 := h.live.2.1.most
  have h3 := h.live.2.2
  omega

theorem drop_there (h : MapW W B g b room keys bits pl v now w) (key : Int) (hl : idx now key < now.length) :
    Calls Try.prog 18 #[.pointer (some ⟨g, 0, none⟩), .int .u64 key] w fun e w' => e = .returned (.tuple #[.int .i64 (kn now (idx now key)).f1, .bool true]) ∧ ∃ pl', Live w' g b room (keys - 1) bits pl' ∧ Fr (fun i => i = g ∨ i = b) w w' ∧ ∀ k x, Has pl' k x ↔ Has pl k x ∧ k ≠ key := by
  refine (drop_any h.live key).mono ?_
  rintro e w' ⟨x, is, keys', pl', rfl, hl', hf, ⟨rfl, rfl, hno, _⟩ | ⟨rfl, hx, rfl, hh⟩⟩
  · exact absurd ((h.sem.there key).mpr hl) hno
  · exact ⟨by rw [h.sem.val hx], pl', hl', hf, hh⟩
theorem drop_not (h : MapW W B g b room keys bits pl v now w) (key : Int) (hl : ¬ idx now key < now.length) :
    Calls Try.prog 18 #[.pointer (some ⟨g, 0, none⟩), .int .u64 key] w fun e w' => e = .returned (.tuple #[.int .i64 0, .bool false]) ∧ MapW W B g b room keys bits pl v now w' := by
  refine (drop_any h.live key).mono ?_
  rintro e w' ⟨x, is, keys', pl', rfl, hl', hf, ⟨rfl, rfl, hno, rfl, rfl⟩ | ⟨rfl, hx, rfl, hh⟩⟩
  · exact ⟨rfl, h.call hl' hf h.sem⟩
  · exact absurd ((h.sem.there key).mp ⟨_, hx⟩) hl
theorem put_there (h : MapW W B g b room keys bits pl v now w) (key x : Int) (hl : idx now key < now.length) :
    Calls Try.prog 19 #[.pointer (some ⟨g, 0, none⟩), .int .u64 key, .int .i64 x] w fun e w' => e = .returned (.int .i64 81) ∧ MapW W B g b room keys bits pl v now w' := by
  refine (put_any h.live key x).mono ?_
  rintro e w' ⟨r, keys', pl', rfl, hl', hf, ⟨rfl, hx, rfl, rfl⟩ | ⟨rfl, hno, _⟩ | ⟨rfl, hno, _⟩⟩
  · exact ⟨rfl, h.call hl' hf h.sem⟩
  · exact absurd ((h.sem.there key).mpr hl) hno
  · exact absurd ((h.sem.there key).mpr hl) hno
theorem put_full (h : MapW W B g b room keys bits pl v now w) (key x : Int) (hl : ¬ idx now key < now.length) (hk : (now.length : Int) = room) :
    Calls Try.prog 19 #[.pointer (some ⟨g, 0, none⟩), .int .u64 key, .int .i64 x] w fun e w' => e = .returned (.int .i64 80) ∧ MapW W B g b room keys bits pl v now w' := by
  refine (put_any h.live key x).mono ?_
  rintro e w' ⟨r, keys', pl', rfl, hl', hf, ⟨rfl, hx, _⟩ | ⟨rfl, hno, _, rfl, rfl⟩ | ⟨rfl, hno, hlt, _⟩⟩
  · exact absurd ((h.sem.there key).mp hx) hl
  · exact ⟨rfl, h.call hl' hf h.sem⟩
  · have := h.sem.len; omega
theorem put_new (h : MapW W B g b room keys bits pl v now w) (key x : Int) (hl : ¬ idx now key < now.length) (hk : (now.length : Int) ≠ room) :
    Calls Try.prog 19 #[.pointer (some ⟨g, 0, none⟩), .int .u64 key, .int .i64 x] w fun e w' => e = .returned (.int .i64 0) ∧ ∃ pl', Live w' g b room (keys + 1) bits pl' ∧ Fr (fun i => i = g ∨ i = b) w w' ∧ ∀ k y, Has pl' k y ↔ Has pl k y ∨ (k = key ∧ y = x) := by
  refine (put_any h.live key x).mono ?_
  rintro e w' ⟨r, keys', pl', rfl, hl', hf, ⟨rfl, hx, _⟩ | ⟨rfl, hno, hlt, _⟩ | ⟨rfl, hno, hlt, rfl, hh⟩⟩
  · exact absurd ((h.sem.there key).mp hx) hl
  · have := h.sem.len; omega
  · exact ⟨rfl, pl', hl', hf, hh⟩
theorem get_there (h : MapW W B g b room keys bits pl v now w) (key : Int) (hl : idx now key < now.length) :
    Calls Try.prog 20 #[.pointer (some ⟨g, 0, none⟩), .int .u64 key] w fun e w' => e = .returned (.tuple #[.int .i64 (kn now (idx now key)).f1, .bool true]) ∧ MapW W B g b room keys bits pl v now w' := by
  refine (get_any h.live key).mono ?_
  rintro e w' ⟨x, is, rfl, hb, ⟨rfl, hno⟩ | ⟨rfl, hx⟩⟩
  · exact absurd ((h.sem.there key).mpr hl) hno
  · exact ⟨by rw [h.sem.val hx], h.below hb⟩
theorem get_ask (h : MapW W B g b room keys bits pl v now w) (key : Int) :
    Calls Try.prog 20 #[.pointer (some ⟨g, 0, none⟩), .int .u64 key] w fun e w' => ∃ x, e = .returned (.tuple #[.int .i64 x, .bool (decide (idx now key < now.length))]) ∧ MapW W B g b room keys bits pl v now w' := by
  refine (get_any h.live key).mono ?_
  rintro e w' ⟨x, is, rfl, hb, ⟨rfl, hno⟩ | ⟨rfl, hx⟩⟩
  · exact ⟨x, by rw [decide_eq_false (fun hl => hno ((h.sem.there key).mpr hl))], h.below hb⟩
  · exact ⟨x, by rw [decide_eq_true ((h.sem.there key).mp ⟨_, hx⟩)], h.below hb⟩
theorem idx_self (h : MapW W B g b room keys bits pl v now w) {i : Nat} (hi : i < now.length) : idx now (kn now i).f0 = i := by
  have hl : idx now (kn now i).f0 < now.length := (h.sem.there _).mp ⟨_, (h.sem.has _ _).mpr ⟨_, kn_mem hi, rfl, rfl⟩⟩
  exact h.sem.nod _ i hl hi (idx_key hl)
/-- The list, another one. -/
theorem turn {v' : Value} {now' : List S46} {pl' : List S72} {keys' : Int} (h : MapW W B g b room keys bits pl v now w) (hl : Live w' g b room keys' bits pl') (hn : Nw w' B v' now') (hb : Below W.heap.size W w') (hs : B ≤ w'.heap.size) (hsem : Sem keys' pl' now') :
    MapW W B g b room keys' bits pl' v' now' w' := ⟨hl, hn, hb, hs, h.gB, h.bB, h.gW, h.bW, hsem⟩
end MapW

/-- The keys that are asked. -/
def Ask (W : World) (A : Option Addr) (n : Nat) (f : Nat → Int) : Prop :=
  ∀ i, i < n → ∃ ab ao, A = some ⟨ab, ao, none⟩ ∧ W.cell? ⟨ab, ao + i, none⟩ = some (.int .u64 (f i))
theorem Ask.below {W W' : World} {A : Option Addr} {n : Nat} {f : Nat → Int} (h : Ask W A n f) (k : Below W.heap.size W W') : Ask W' A n f := by
  intro i hi
  obtain ⟨ab, ao, ha, h0⟩ := h i hi
  exact ⟨ab, ao, ha, pw_cell_below k h0⟩
end Go.Proofs.Ytmcaoecmjibegaa.PIx
