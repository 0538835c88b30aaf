/- IndexTraces: what it has in memory. -/
import Derived.Test.YtmcaoecmjibegaaIyA
namespace Go.Proofs.Ytmcaoecmjibegaa.PIx
open Go.RowKit Go.Proofs.YtmcaoecmjibegaaW.PrintWords Go.Proofs.YtmcaoecmjibegaaW.PrintLast Go.Proofs.YtmcaoecmjibegaaW.PrintMore
open Go.Shelf
set_option linter.unusedVariables false
set_option linter.unusedSimpArgs false

theorem new_least (room : Int) (W : World) (h1 : 1 ≤ room) (h2 : room ≤ 65536) :
    Calls Try.prog 16 #[.int .i64 room] W fun e W' => ∃ g b bits pl, e = .returned (.tuple #[.pointer (some ⟨g, 0, none⟩), .int .i64 0]) ∧ W.heap.size ≤ g ∧ W.heap.size ≤ b ∧ Live W' g b room 0 bits pl ∧ (∀ k v, ¬ Has pl k v) ∧ Below W.heap.size W W' ∧ Least room bits := by
  refine (new_good room W h1 h2).mono ?_
  rintro e W' ⟨g, b, bits, rfl, hg, hb, hl, hix, hbel⟩
  exact ⟨g, b, bits, _, rfl, hg, hb, ⟨hix, fit_zero room bits h1 hl, h2⟩, has_zero _, hbel, hl⟩

/-- A result in a box. -/
theorem results_bool {fn : Func} {tmps : Array Value} {w : World} {p r : Nat} {v : Bool} (h : fn.results = #[.cell p 4]) (hp : tmps.getD p undef = .pointer (some ⟨r, 0, none⟩)) (hc : w.cell? ⟨r, 0, none⟩ = some (.bool v)) : (results fn tmps).run Try.prog w = .ok (.bool v) w := by
  unfold results
  rw [show fn.results = [ResultVar.cell p 4].toArray from h, List.mapM_toArray]
  rw [Array.getD_eq_getD_getElem?] at hp
  simp [List.mapM_cons, go_sem, hp, hc, asAddr]

/-- Where the blocks lie: the result; x; y; y's box. -/
structure Ord (W : World) (r g1 b1 g2 b2 yb : Nat) : Prop where
  h0 : W.heap.size ≤ r
  h1 : r < g1
  h2 : r < b1
  h3 : g1 < g2
  h4 : g1 < b2
  h5 : b1 < g2
  h6 : b1 < b2
  h7 : g2 < yb
  h8 : b2 < yb

/-- Two indexes; a result in a box; the second one's pointer in a box. -/
structure TrW (W : World) (r g1 b1 g2 b2 yb : Nat) (m1 k1 : Int) (bits1 : Nat) (pl1 : List S72) (m2 k2 : Int) (bits2 : Nat) (pl2 : List S72) (w : World) : Prop where
  bel : Below W.heap.size W w
  rbk : w.heap[r]? = some (.cells #[.bool false] 4 (0, 0))
  ybk : w.heap[yb]? = some (.cells #[.pointer (some ⟨g2, 0, none⟩)] 23 (0, 0))
  x : Live w g1 b1 m1 k1 bits1 pl1
  y : Live w g2 b2 m2 k2 bits2 pl2
  ord : Ord W r g1 b1 g2 b2 yb

namespace TrW
variable {W w w' : World} {r g1 b1 g2 b2 yb : Nat} {m1 k1 k1' : Int} {bits1 : Nat} {pl1 pl1' : List S72} {m2 k2 k2' : Int} {bits2 : Nat} {pl2 pl2' : List S72}
theorem lt (h : TrW W r g1 b1 g2 b2 yb m1 k1 bits1 pl1 m2 k2 bits2 pl2 w) : r < w.heap.size ∧ g1 < w.heap.size ∧ b1 < w.heap.size ∧ g2 < w.heap.size ∧ b2 < w.heap.size ∧ yb < w.heap.size :=
  ⟨blk_lt h.rbk, h.x.1.lt, h.x.1.ltb, h.y.1.lt, h.y.1.ltb, blk_lt h.ybk⟩
/-- Another world with the same blocks. -/
theorem keep (h : TrW W r g1 b1 g2 b2 yb m1 k1 bits1 pl1 m2 k2 bits2 pl2 w) (hb : Below W.heap.size W w') (hk : ∀ k, k ≤ yb → w'.heap[k]? = w.heap[k]?) : TrW W r g1 b1 g2 b2 yb m1 k1 bits1 pl1 m2 k2 bits2 pl2 w' := by
  have o := h.ord
  have := o.h1; have := o.h2; have := o.h3; have := o.h4; have := o.h5; have := o.h6; have := o.h7; have := o.h8
  exact ⟨hb, (hk r (by omega)).trans h.rbk, (hk yb (Nat.le_refl _)).trans h.ybk, h.x.keep (hk g1 (by omega)) (hk b1 (by omega)), h.y.keep (hk g2 (by omega)) (hk b2 (by omega)), o⟩
theorem below (h : TrW W r g1 b1 g2 b2 yb m1 k1 bits1 pl1 m2 k2 bits2 pl2 w) (k : Below w.heap.size w w') : TrW W r g1 b1 g2 b2 yb m1 k1 bits1 pl1 m2 k2 bits2 pl2 w' :=
  h.keep (below_then h.bel h.bel.size k) (fun i hi => k.block i (Nat.lt_of_le_of_lt hi h.lt.2.2.2.2.2))
theorem drew (h : TrW W r g1 b1 g2 b2 yb m1 k1 bits1 pl1 m2 k2 bits2 pl2 w) : TrW W r g1 b1 g2 b2 yb m1 k1 bits1 pl1 m2 k2 bits2 pl2 w.drew :=
  h.keep ⟨h.bel.os, h.bel.tape, h.bel.output, h.bel.size, h.bel.block⟩ (fun i hi => rfl)
theorem drewN (h : TrW W r g1 b1 g2 b2 yb m1 k1 bits1 pl1 m2 k2 bits2 pl2 w) (n : Nat) : TrW W r g1 b1 g2 b2 yb m1 k1 bits1 pl1 m2 k2 bits2 pl2 (w.drewN n) :=
  h.keep ⟨h.bel.os, h.bel.tape, h.bel.output, h.bel.size, h.bel.block⟩ (fun i hi => rfl)
theorem alloc (h : TrW W r g1 b1 g2 b2 yb m1 k1 bits1 pl1 m2 k2 bits2 pl2 w) (o : Obj) : TrW W r g1 b1 g2 b2 yb m1 k1 bits1 pl1 m2 k2 bits2 pl2 (w.alloc o) :=
  h.below ((Below.refl _ w).alloc (Nat.le_refl _) o)
/-- Blocks behind all have turned. -/
theorem fr {S : Nat → Prop} (h : TrW W r g1 b1 g2 b2 yb m1 k1 bits1 pl1 m2 k2 bits2 pl2 w) (k : Fr S w w') (hS : ∀ i, S i → yb < i) : TrW W r g1 b1 g2 b2 yb m1 k1 bits1 pl1 m2 k2 bits2 pl2 w' := by
  have o := h.ord
  have := o.h0; have := o.h1; have := o.h3; have := o.h7
  refine h.keep ?_ (fun i hi => k.block i (Nat.lt_of_le_of_lt hi h.lt.2.2.2.2.2) (fun hs => by have := hS i hs; omega))
  exact ((Fr.refl S W).below h.bel).trans k (fun i hi => .inl hi) |>.toBelow (fun i hi => by have := hS i hi; omega)
theorem xcall (h : TrW W r g1 b1 g2 b2 yb m1 k1 bits1 pl1 m2 k2 bits2 pl2 w) (hl : Live w' g1 b1 m1 k1' bits1 pl1') (k : Fr (fun i => i = g1 ∨ i = b1) w w') : TrW W r g1 b1 g2 b2 yb m1 k1' bits1 pl1' m2 k2 bits2 pl2 w' := by
  have o := h.ord
  have := o.h0; have := o.h1; have := o.h2; have := o.h3; have := o.h4; have := o.h5; have := o.h6; have := o.h7; have := o.h8
  exact ⟨keptOf (by omega) (by omega) h.bel k, k.blk h.rbk (by omega), k.blk h.ybk (by omega), hl, h.y.fr k (by omega) (by omega), o⟩
theorem ycall (h : TrW W r g1 b1 g2 b2 yb m1 k1 bits1 pl1 m2 k2 bits2 pl2 w) (hl : Live w' g2 b2 m2 k2' bits2 pl2') (k : Fr (fun i => i = g2 ∨ i = b2) w w') : TrW W r g1 b1 g2 b2 yb m1 k1 bits1 pl1 m2 k2' bits2 pl2' w' := by
  have o := h.ord
  have := o.h0; have := o.h1; have := o.h2; have := o.h3; have := o.h4; have := o.h5; have := o.h6; have := o.h7; have := o.h8
  exact ⟨keptOf (by omega) (by omega) h.bel k, k.blk h.rbk (by omega), k.blk h.ybk (by omega), h.x.fr k (by omega) (by omega), hl, o⟩
/-- A step that lays blocks, or turns one behind all. -/
theorem grown {row : Option Nat} {B : Nat} (h : TrW W r g1 b1 g2 b2 yb m1 k1 bits1 pl1 m2 k2 bits2 pl2 w) (hg : w.grownBy w' row) (hB : yb < B) (hr : ∀ i, row = some i → B ≤ i) : TrW W r g1 b1 g2 b2 yb m1 k1 bits1 pl1 m2 k2 bits2 pl2 w' :=
  h.fr (S := fun i => row = some i) ⟨hg.os, hg.tape, hg.output, hg.size, fun i hi hn => hg.block i hi (fun e => hn e.symm)⟩ (fun i hi => by have := hr i hi; omega)
end TrW

/-- Between two rounds: so many keys have come, and y has just these. -/
structure TrI (W : World) (r g1 b1 g2 b2 yb nb B : Nat) (m1 k1 : Int) (bits1 : Nat) (pl1 : List S72) (m2 : Int) (bits2 : Nat) (pre : List (Int × Int)) (w : World) : Prop where
  tr : ∃ pl2, TrW W r g1 b1 g2 b2 yb m1 k1 bits1 pl1 m2 (pre.length : Int) bits2 pl2 w ∧ ∀ k v, Has pl2 k v ↔ (k, v) ∈ pre
  n : w.heap[nb]? = some (.cells #[.int .i64 (pre.length : Int)] 3 (0, 0))
  h1 : yb < nb
  h2 : nb < B

theorem TrI.own (W : World) (r g1 b1 g2 b2 yb nb B : Nat) (m1 k1 : Int) (bits1 : Nat) (pl1 : List S72) (m2 : Int) (bits2 : Nat) : OwnFrom B (TrI W r g1 b1 g2 b2 yb nb B m1 k1 bits1 pl1 m2 bits2) := by
  rintro pre A A' row ⟨⟨pl2, h, hh⟩, hn, h1, h2⟩ hg hr
  exact ⟨⟨pl2, h.grown (B := B) hg (by omega) (fun i hi => (hr i hi).1), hh⟩, (hg.block nb (blk_lt hn) (fun e => by have := (hr nb e.symm).1; omega)).trans hn, h1, h2⟩

/-- The body has said no: what came was there, or there was no room. -/
def TrX (m2 : Int) (c : Code) (pre : List (Int × Int)) (_ : World) : Prop := c = .ret ∧ ∃ pre0 x, pre = pre0 ++ [x] ∧ ((∃ v, (x.1, v) ∈ pre0) ∨ (pre0.length : Int) = m2)
theorem TrX.own (B : Nat) (m2 : Int) (c : Code) : OwnFrom B (TrX m2 c) := fun _ _ _ _ h _ _ => h
theorem TrX.no {bits : Nat} {m2 room keys : Int} {pl : List S72} {c : Code} {pre : List (Int × Int)} {w : World} (h : TrX m2 c pre w) (hf : Fit room keys bits pl) (hm : room ≤ m2) (hs : ∃ l, Srt pl l ∧ pre <+: l.map kv) : False := by
  obtain ⟨_, pre0, x, rfl, hx⟩ := h
  obtain ⟨l, hl, hp⟩ := hs
  obtain ⟨h1, h2, _⟩ := hl.next hf.wf hp
  rcases hx with ⟨v, hv⟩ | he
  · exact h1 v hv
  · have := hl.len hf
    have := hf.most
    omega
/-- The body's put, three ways. -/
theorem TrI.put_old {W : World} {r g1 b1 g2 b2 yb nb B : Nat} {m1 k1 : Int} {bits1 : Nat} {pl1 : List S72} {m2 : Int} {bits2 : Nat} {pre : List (Int × Int)} {w : World} (h : TrI W r g1 b1 g2 b2 yb nb B m1 k1 bits1 pl1 m2 bits2 pre w) (x : Int × Int) (hx : ∃ v, (x.1, v) ∈ pre) :
    Calls Try.prog 19 #[.pointer (some ⟨g2, 0, none⟩), .int .u64 x.1, .int .i64 x.2] w fun e w' => e = .returned (.int .i64 81) ∧ Fr (fun i => i = g2 ∨ i = b2) w w' ∧ w'.cell? ⟨r, 0, none⟩ = some (.bool false) ∧ w'.frozen? ⟨r, 0, none⟩ = false := by
  obtain ⟨⟨pl2, ht, hh⟩, hn, h1, h2⟩ := h
  have o := ht.ord
  have := o.h1; have := o.h3; have := o.h4; have := o.h2
  refine (put_any ht.y x.1 x.2).mono ?_
  rintro e w' ⟨q, k', pl', rfl, hl', hf, ⟨rfl, hx', rfl, rfl⟩ | ⟨rfl, hno, _⟩ | ⟨rfl, hno, _⟩⟩
  · have hb := hf.blk ht.rbk (by omega)
    exact ⟨rfl, hf, (blk_cell hb 0).trans rfl, blk_frozen hb 0⟩
  · exact absurd (hx.imp fun v hv => (hh _ _).mpr hv) hno
  · exact absurd (hx.imp fun v hv => (hh _ _).mpr hv) hno
theorem TrI.put_full {W : World} {r g1 b1 g2 b2 yb nb B : Nat} {m1 k1 : Int} {bits1 : Nat} {pl1 : List S72} {m2 : Int} {bits2 : Nat} {pre : List (Int × Int)} {w : World} (h : TrI W r g1 b1 g2 b2 yb nb B m1 k1 bits1 pl1 m2 bits2 pre w) (x : Int × Int) (hx : ¬ ∃ v, (x.1, v) ∈ pre) (hm : (pre.length : Int) = m2) :
    Calls Try.prog 19 #[.pointer (some ⟨g2, 0, none⟩), .int .u64 x.1, .int .i64 x.2] w fun e w' => e = .returned (.int .i64 80) ∧ Fr (fun i => i = g2 ∨ i = b2) w w' ∧ w'.cell? ⟨r, 0, none⟩ = some (.bool false) ∧ w'.frozen? ⟨r, 0, none⟩ = false := by
  obtain ⟨⟨pl2, ht, hh⟩, hn, h1, h2⟩ := h
  have o := ht.ord
  have := o.h1; have := o.h3; have := o.h4; have := o.h2
  refine (put_any ht.y x.1 x.2).mono ?_
  rintro e w' ⟨q, k', pl', rfl, hl', hf, ⟨rfl, hx', rfl, rfl⟩ | ⟨rfl, hno, _⟩ | ⟨rfl, hno, hlt, _⟩⟩
  · exact absurd (hx'.imp fun v hv => (hh _ _).mp hv) hx
  · have hb := hf.blk ht.rbk (by omega)
    exact ⟨rfl, hf, (blk_cell hb 0).trans rfl, blk_frozen hb 0⟩
  · omega
theorem TrI.put_new {W : World} {r g1 b1 g2 b2 yb nb B : Nat} {m1 k1 : Int} {bits1 : Nat} {pl1 : List S72} {m2 : Int} {bits2 : Nat} {pre : List (Int × Int)} {w : World} (h : TrI W r g1 b1 g2 b2 yb nb B m1 k1 bits1 pl1 m2 bits2 pre w) (x : Int × Int) (hx : ¬ ∃ v, (x.1, v) ∈ pre) (hm : (pre.length : Int) ≠ m2) :
    Calls Try.prog 19 #[.pointer (some ⟨g2, 0, none⟩), .int .u64 x.1, .int .i64 x.2] w fun e w' => e = .returned (.int .i64 0) ∧ Fr (fun i => i = g2 ∨ i = b2) w w' ∧ w'.cell? ⟨nb, 0, none⟩ = some (.int .i64 (pre.length : Int)) ∧ w'.frozen? ⟨nb, 0, none⟩ = false ∧
      TrI W r g1 b1 g2 b2 yb nb B m1 k1 bits1 pl1 m2 bits2 (pre ++ [x]) (w'.setCell ⟨nb, 0, none⟩ (.int .i64 ((pre.length : Int) + 1))) := by
  obtain ⟨⟨pl2, ht, hh⟩, hn, h1, h2⟩ := h
  have o := ht.ord
  have := o.h1; have := o.h3; have := o.h4; have := o.h2; have := o.h7; have := o.h8
  refine (put_any ht.y x.1 x.2).mono ?_
  rintro e w' ⟨q, k', pl', rfl, hl', hf, ⟨rfl, hx', rfl, rfl⟩ | ⟨rfl, hno, hlt, _⟩ | ⟨rfl, hno, hlt, rfl, hp⟩⟩
  · exact absurd (hx'.imp fun v hv => (hh _ _).mp hv) hx
  · omega
  · have hb := hf.blk hn (by omega)
    have hlen : ((pre ++ [x]).length : Int) = (pre.length : Int) + 1 := by rw [List.length_append, List.length_singleton]; omega
    refine ⟨rfl, hf, (blk_cell hb 0).trans rfl, blk_frozen hb 0, ⟨pl', ?_, ?_⟩, ?_, h1, h2⟩
    · rw [hlen]
      exact (ht.ycall hl' hf).fr (S := fun i => i = nb) ((Fr.refl (fun i => i = nb) w').setCell (p := ⟨nb, 0, none⟩) (.inl rfl) _) (fun i hi => by omega)
    · intro k v
      rw [hp, hh, List.mem_append, List.mem_singleton]
      constructor
      · rintro (h | ⟨rfl, rfl⟩)
        · exact .inl h
        · exact .inr rfl
      · rintro (h | h)
        · exact .inl h
        · exact .inr ⟨congrArg Prod.fst h, congrArg Prod.snd h⟩
    · rw [hlen]
      exact blk_set hb 0 _
/-- Behind the loop: both use the same places. -/
theorem TrI.same {W : World} {r g1 b1 g2 b2 yb nb B : Nat} {m1 k1 : Int} {bits : Nat} {pl1 l : List S72} {m2 : Int} {w : World} (h : TrI W r g1 b1 g2 b2 yb nb B m1 k1 bits pl1 m2 bits (l.map kv) w) (hs : Srt pl1 l) :
    ∃ (N : Nat) (pl2 : List S72), k1 = (N : Int) ∧ N ≤ 131072 ∧ TrW W r g1 b1 g2 b2 yb m1 (N : Int) bits pl1 m2 (N : Int) bits pl2 w ∧ w.heap[nb]? = some (.cells #[.int .i64 (N : Int)] 3 (0, 0)) ∧ pl1.length = 2 ^ bits ∧ pl2.length = 2 ^ bits ∧ 2 ^ bits ≤ 131072 ∧ ∀ p, p < 2 ^ bits → us pl2 p = us pl1 p := by
  obtain ⟨⟨pl2, ht, hh⟩, hn, h1, h2⟩ := h
  have hf1 := ht.x.2.1
  have hf2 := ht.y.2.1
  have hk : k1 = ((l.map kv).length : Int) := by rw [List.length_map]; exact (hs.len hf1).symm
  refine ⟨(l.map kv).length, pl2, hk, ?_, by rw [← hk]; rw [← hk] at ht; exact ht, hn, hf1.len, hf2.len, Nat.le_trans (Nat.pow_le_pow_right (by decide) hf1.hb) (by decide), fun p hp => (used_same hf1.wf hf2.wf (fun k => ?_) p (by rw [hf1.len]; exact hp)).symm⟩
  · have := hf1.most
    have := ht.x.2.2
    omega
  · exact ⟨fun ⟨v, hv⟩ => ⟨v, (hh k v).mpr ((hs.has k v).mp hv)⟩, fun ⟨v, hv⟩ => ⟨v, (hs.has k v).mpr ((hh k v).mp hv)⟩⟩
end Go.Proofs.Ytmcaoecmjibegaa.PIx
