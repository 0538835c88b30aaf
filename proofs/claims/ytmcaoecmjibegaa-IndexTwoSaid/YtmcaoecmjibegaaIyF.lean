/- IndexTwo: between two rounds. -/
import Derived.Test.YtmcaoecmjibegaaIyE
namespace Go.Proofs.Ytmcaoecmjibegaa.PIx
open Go.RowKit Go.Proofs.YtmcaoecmjibegaaW.PrintWords Go.Proofs.YtmcaoecmjibegaaW.PrintLast Go.Proofs.YtmcaoecmjibegaaW.PrintMore
open Go.Shelf
set_option linter.unusedVariables false
set_option linter.unusedSimpArgs false

/-- Between two rounds: so many keys have come. -/
structure TwI (W : World) (r g1 b1 g2 b2 yb nb B : Nat) (m1 k1 : Int) (bits1 : Nat) (pl1 : List S72) (m2 k2 : Int) (bits2 : Nat) (pl2 : List S72) (pre : List (Int × Int)) (w : World) : Prop where
  tr : TrW W r g1 b1 g2 b2 yb m1 k1 bits1 pl1 m2 k2 bits2 pl2 w
  n : w.heap[nb]? = some (.cells #[.int .i64 (pre.length : Int)] 3 (0, 0))
  h1 : yb < nb
  h2 : nb < B

theorem TwI.own (W : World) (r g1 b1 g2 b2 yb nb B : Nat) (m1 k1 : Int) (bits1 : Nat) (pl1 : List S72) (m2 k2 : Int) (bits2 : Nat) (pl2 : List S72) : OwnFrom B (TwI W r g1 b1 g2 b2 yb nb B m1 k1 bits1 pl1 m2 k2 bits2 pl2) := by
  rintro pre A A' row ⟨h, hn, h1, h2⟩ hg hr
  exact ⟨h.grown (B := B) hg (by omega) (fun i hi => (hr i hi).1), (hg.block nb (blk_lt hn) (fun e => by have := (hr nb e.symm).1; omega)).trans hn, h1, h2⟩

/-- The body has said no: what came is not in y. -/
def TwX (pl2 : List S72) (c : Code) (pre : List (Int × Int)) (_ : World) : Prop := c = .ret ∧ ∃ pre0 x, pre = pre0 ++ [x] ∧ ¬ Has pl2 x.1 x.2
theorem TwX.own (B : Nat) (pl2 : List S72) (c : Code) : OwnFrom B (TwX pl2 c) := fun _ _ _ _ h _ _ => h
theorem TwX.no {bits : Nat} {room keys : Int} {pl pl2 : List S72} {c : Code} {pre : List (Int × Int)} {w : World} (h : TwX pl2 c pre w) (hf : Fit room keys bits pl) (hh : ∀ k v, Has pl k v ↔ Has pl2 k v) (hs : ∃ l, Srt pl l ∧ pre <+: l.map kv) : False := by
  obtain ⟨_, pre0, x, rfl, hx⟩ := h
  obtain ⟨l, hl, hp⟩ := hs
  obtain ⟨_, _, h3⟩ := hl.next hf.wf hp
  exact hx ((hh _ _).mp ((hl.has _ _).mpr h3))

section
variable {W : World} {r g1 b1 g2 b2 yb nb B : Nat} {m1 k1 : Int} {bits1 : Nat} {pl1 : List S72} {m2 k2 : Int} {bits2 : Nat} {pl2 : List S72} {pre : List (Int × Int)} {w : World}
theorem TwI.get_none (h : TwI W r g1 b1 g2 b2 yb nb B m1 k1 bits1 pl1 m2 k2 bits2 pl2 pre w) (key : Int) (hv : ¬ ∃ v, Has pl2 key v) :
    Calls Try.prog 20 #[.pointer (some ⟨g2, 0, none⟩), .int .u64 key] w fun e w' => e = .returned (.tuple #[.int .i64 0, .bool false]) ∧ Below w.heap.size w w' ∧ w'.cell? ⟨r, 0, none⟩ = some (.bool false) ∧ w'.frozen? ⟨r, 0, none⟩ = false := by
  refine (get_not h.tr.y key hv).mono ?_
  rintro e w' ⟨rfl, hb⟩
  have hr := blk_below h.tr.rbk hb
  exact ⟨rfl, hb, (blk_cell hr 0).trans rfl, blk_frozen hr 0⟩
theorem TwI.get_some (h : TwI W r g1 b1 g2 b2 yb nb B m1 k1 bits1 pl1 m2 k2 bits2 pl2 pre w) (key v : Int) (hv : Has pl2 key v) :
    Calls Try.prog 20 #[.pointer (some ⟨g2, 0, none⟩), .int .u64 key] w fun e w' => e = .returned (.tuple #[.int .i64 v, .bool true]) ∧ Below w.heap.size w w' ∧ w'.cell? ⟨r, 0, none⟩ = some (.bool false) ∧ w'.frozen? ⟨r, 0, none⟩ = false ∧
      w'.cell? ⟨nb, 0, none⟩ = some (.int .i64 (pre.length : Int)) ∧ w'.frozen? ⟨nb, 0, none⟩ = false ∧
      ∀ x, TwI W r g1 b1 g2 b2 yb nb B m1 k1 bits1 pl1 m2 k2 bits2 pl2 (pre ++ [x]) (w'.setCell ⟨nb, 0, none⟩ (.int .i64 ((pre.length : Int) + 1))) := by
  refine (get_was h.tr.y key v hv).mono ?_
  rintro e w' ⟨rfl, hb⟩
  have hr := blk_below h.tr.rbk hb
  have hn := blk_below h.n hb
  refine ⟨rfl, hb, (blk_cell hr 0).trans rfl, blk_frozen hr 0, (blk_cell hn 0).trans rfl, blk_frozen hn 0, fun x => ⟨?_, ?_, h.h1, h.h2⟩⟩
  · exact (h.tr.below hb).fr (S := fun i => i = nb) ((Fr.refl (fun i => i = nb) w').setCell (p := ⟨nb, 0, none⟩) (.inl rfl) _) (fun i hi => by have := h.h1; omega)
  · have hlen : ((pre ++ [x]).length : Int) = (pre.length : Int) + 1 := by rw [List.length_append, List.length_singleton]; omega
    rw [hlen]
    exact blk_set hn 0 _
theorem fr_below {S : Nat → Prop} {w w' : World} (h : Below w.heap.size w w') : Fr S w w' := (Fr.refl S w).below h
end

/-- So much more room. -/
def moreOf (room more : Int) : Int := if more < 0 ∨ 100 < more ∨ 65536 < room + more then 0 else more
theorem moreOf_ok {room more : Int} (h1 : 1 ≤ room) (h2 : room ≤ 65536) : 1 ≤ room + moreOf room more ∧ room + moreOf room more ≤ 65536 ∧ 0 ≤ moreOf room more ∧ moreOf room more ≤ 100 := by
  unfold moreOf
  split
  · omega
  · omega
/-- The steps, behind a call. -/
theorem stp_at {W w : World} {ab ao n : Nat} {f : Nat → Bool × Int × Int} {i : Nat} (h : Stp W (some ⟨ab, ao, none⟩) n f) (k : Below W.heap.size W w) (hi : i < n) : w.cell? ⟨ab, ao + i * 3 + 1, none⟩ = some (.int .u64 (f i).2.1) := by
  obtain ⟨ab', ao', he, _, h1, _⟩ := h.below k i hi
  injection he with he
  injection he with e1 e2
  subst e1 e2
  exact h1
theorem stp_at2 {W w : World} {ab ao n : Nat} {f : Nat → Bool × Int × Int} {i : Nat} (h : Stp W (some ⟨ab, ao, none⟩) n f) (k : Below W.heap.size W w) (hi : i < n) : w.cell? ⟨ab, ao + i * 3 + 2, none⟩ = some (.int .i64 (f i).2.2) := by
  obtain ⟨ab', ao', he, _, _, h2⟩ := h.below k i hi
  injection he with he
  injection he with e1 e2
  subst e1 e2
  exact h2
theorem ask_at {W w : World} {ab ao n : Nat} {f : Nat → Int} {i : Nat} (h : Ask W (some ⟨ab, ao, none⟩) n f) (k : Below W.heap.size W w) (hi : i < n) : w.cell? ⟨ab, ao + i, none⟩ = some (.int .u64 (f i)) := by
  obtain ⟨ab', ao', he, h1⟩ := h.below k i hi
  injection he with he
  injection he with e1 e2
  subst e1 e2
  exact h1
/-- What the two Puts' region reads. -/
theorem twS {W w : World} {r g1 b1 g2 b2 yb : Nat} {m1 k1 : Int} {bits1 : Nat} {pl1 : List S72} {m2 k2 : Int} {bits2 : Nat} {pl2 : List S72} {ab ao n : Nat} {f : Nat → Bool × Int × Int} {i : Nat} {sd : Bool} {sk sv : Int}
    (hf : (f i).1 = sd ∧ (f i).2.1 = sk ∧ (f i).2.2 = sv) (h : Stp W (some ⟨ab, ao, none⟩) n f) (hi : i < n) (T : TrW W r g1 b1 g2 b2 yb m1 k1 bits1 pl1 m2 k2 bits2 pl2 w) :
    w.cell? ⟨yb, 0, none⟩ = some (.pointer (some ⟨g2, 0, none⟩)) ∧ w.cell? ⟨ab, ao + i * 3 + 1, none⟩ = some (.int .u64 sk) ∧ w.cell? ⟨ab, ao + i * 3 + 2, none⟩ = some (.int .i64 sv) := by
  obtain ⟨_, rfl, rfl⟩ := hf
  exact ⟨(blk_cell T.ybk 0).trans rfl, stp_at h T.bel hi, stp_at2 h T.bel hi⟩
end Go.Proofs.Ytmcaoecmjibegaa.PIx
