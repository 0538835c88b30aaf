/- BitmapAll: three maps and their lists; the script. -/
import Derived.Test.YtgcelkndgjjbdaaDoorBn
import Derived.Deep.Slices
import Derived.OpenShut
namespace Go.Proofs.YtgcelkndgjjbdaaDoor.PBm
open Go.RowKit Go.ChangeShapes Go.WideShapes Go.Deep
open Go.Proofs.YtgcelkndgjjbdaaDoorW.PrintWords Go.Proofs.YtgcelkndgjjbdaaDoorW.PrintLast Go.Proofs.YtgcelkndgjjbdaaDoorW.PrintMore
set_option linter.unusedVariables false
set_option linter.unusedSimpArgs false

/-- The script's calls, read. -/
structure Op5 where
  kind : Int
  on : Int
  oth : Int
  A : Int
  B : Int
def Opp (w : World) (A : Option Addr) (n : Nat) (f : Nat → Op5) : Prop :=
  ∀ i, i < n → (∃ ab ao, A = some ⟨ab, ao, none⟩ ∧ w.cell? ⟨ab, ao + i * 5, none⟩ = some (.int .i64 (f i).kind) ∧ w.cell? ⟨ab, ao + i * 5 + 1, none⟩ = some (.int .i64 (f i).on) ∧ w.cell? ⟨ab, ao + i * 5 + 2, none⟩ = some (.int .i64 (f i).oth) ∧
    w.cell? ⟨ab, ao + i * 5 + 3, none⟩ = some (.int .i64 (f i).A) ∧ w.cell? ⟨ab, ao + i * 5 + 4, none⟩ = some (.int .i64 (f i).B)) ∧ (f i).A ≤ 9223372036854775807
theorem cell_block {w : World} {p : Addr} {v : Value} (h : w.cell? p = some v) : p.block < w.heap.size := by
  by_cases c : p.block < w.heap.size
  · exact c
  · have hn : w.heap[p.block]? = none := by simpa using (by omega : w.heap.size ≤ p.block)
    unfold World.cell? at h
    cases hs : p.spot <;> simp [hs, hn] at h
theorem Opp.below {w w' : World} {A : Option Addr} {n : Nat} {f : Nat → Op5} (h : Opp w A n f) (k : Below w.heap.size w w') : Opp w' A n f := by
  intro i hi
  obtain ⟨⟨ab, ao, hA, h0, h1, h2, h3, h4⟩, h5⟩ := h i hi
  have hb : ab < w.heap.size := cell_block h0
  exact ⟨⟨ab, ao, hA, (k.cell (p := ⟨ab, ao + i * 5, none⟩) hb).trans h0, (k.cell (p := ⟨ab, ao + i * 5 + 1, none⟩) hb).trans h1, (k.cell (p := ⟨ab, ao + i * 5 + 2, none⟩) hb).trans h2, (k.cell (p := ⟨ab, ao + i * 5 + 3, none⟩) hb).trans h3, (k.cell (p := ⟨ab, ao + i * 5 + 4, none⟩) hb).trans h4⟩, h5⟩
theorem take_one {cs : List Value} {i : Nat} (h : i < cs.length) : (cs.drop i).take 1 = [cs[i]] := by
  rw [List.drop_eq_getElem_cons h]
  rfl
theorem open_op {H : Type} {enc : TypeId × Value → H} {w : World} {base : Nat} {spare : Nat → Bool} {held : Bool} {fuel : Nat} {cs : List Value} {x : DataW H × List MemPlace} (h : DataW.trod enc Tryd.prog w base spare held fuel 45 cs = some x) :
    ∃ (a d k v n : Int), cs = [.int .i64 a, .int .i64 d, .int .i64 k, .int .i64 v, .int .i64 n] ∧ v ≤ 9223372036854775807 := by
  obtain ⟨xs, m, _, _, hl, hxl, hf⟩ := DataW.trod_struct Tryd.underlying45 h
  have hc : Tryd.prog.cellsOf 45 = 5 := by kernel_rfl
  rw [hc] at hl
  have c3 : Tryd.prog.cellsOf 3 = 1 := by kernel_rfl
  have f0 : DataW.trod enc Tryd.prog w base spare held m 3 ((cs.drop 0).take (Tryd.prog.cellsOf 3)) = xs[0]? := hf 0 _ rfl
  have f1 : DataW.trod enc Tryd.prog w base spare held m 3 ((cs.drop 1).take (Tryd.prog.cellsOf 3)) = xs[1]? := hf 1 _ rfl
  have f2 : DataW.trod enc Tryd.prog w base spare held m 3 ((cs.drop 2).take (Tryd.prog.cellsOf 3)) = xs[2]? := hf 2 _ rfl
  have f3 : DataW.trod enc Tryd.prog w base spare held m 3 ((cs.drop 3).take (Tryd.prog.cellsOf 3)) = xs[3]? := hf 3 _ rfl
  have f4 : DataW.trod enc Tryd.prog w base spare held m 3 ((cs.drop 4).take (Tryd.prog.cellsOf 3)) = xs[4]? := hf 4 _ rfl
  rw [c3] at f0 f1 f2 f3 f4
  rw [take_one (by omega)] at f0 f1 f2 f3 f4
  have hs : xs.length = 5 := by rw [hxl]; rfl
  rw [List.getElem?_eq_getElem (by omega)] at f0 f1 f2 f3 f4
  obtain ⟨a, e0, _⟩ := DataW.trod_int Tryd.underlying3 f0
  obtain ⟨d, e1, _⟩ := DataW.trod_int Tryd.underlying3 f1
  obtain ⟨k, e2, _⟩ := DataW.trod_int Tryd.underlying3 f2
  obtain ⟨v, e3, _, wv⟩ := DataW.trod_int Tryd.underlying3 f3
  obtain ⟨n, e4, _⟩ := DataW.trod_int Tryd.underlying3 f4
  match cs, hl with
  | [a', b, c, d', e], _ =>
    simp only [List.cons.injEq, and_true] at e0 e1 e2 e3 e4
    exact ⟨a, d, k, v, n, by rw [← e0, ← e1, ← e2, ← e3, ← e4]; rfl, by have := bounds_i64 wv; omega⟩
theorem open_opps {H : Type} {enc : TypeId × Value → H} {w : World} {base : Nat} {spare : Nat → Bool} {held : Bool} {fuel : Nat} {A : Option Addr} {len cap : Nat} {x : DataW H × List MemPlace} (h : DataW.trod enc Tryd.prog w base spare held fuel 48 [.slice A len cap] = some x) :
    len ≤ 9223372036854775807 ∧ ∃ f, Opp w A len f := by
  rcases open_slice Tryd.underlying48 h with ⟨h0, _⟩ | ⟨a, l, c, m, n, D, Pl, hcs, hb, hl, hm, hmm, _, hi⟩
  · simp only [List.cons.injEq, Value.slice.injEq, and_true] at h0
    obtain ⟨_, rfl, _⟩ := h0
    exact ⟨by omega, fun _ => ⟨0, 0, 0, 0, 0⟩, fun i hi => absurd hi (Nat.not_lt_zero i)⟩
  · simp only [List.cons.injEq, Value.slice.injEq, and_true] at hcs
    obtain ⟨rfl, rfl, rfl⟩ := hcs
    have hc : Tryd.prog.cellsOf 45 = 5 := by kernel_rfl
    have hlm : len ≤ m := by rw [hmm]; split <;> omega
    have hM : maxLen = 9223372036854775807 := by decide
    have hcell : ∀ i, i < len → ∃ y : Op5, (w.cell? (a.add (i * 5)) = some (.int .i64 y.kind) ∧ w.cell? ((a.add (i * 5)).add 1) = some (.int .i64 y.on) ∧ w.cell? ((a.add (i * 5)).add 2) = some (.int .i64 y.oth) ∧ w.cell? ((a.add (i * 5)).add 3) = some (.int .i64 y.A) ∧ w.cell? ((a.add (i * 5)).add 4) = some (.int .i64 y.B)) ∧ y.A ≤ 9223372036854775807 := by
      intro i hi'
      obtain ⟨cs', h1, h2⟩ := hi i (by omega)
      rw [hc] at h1
      obtain ⟨_, hcl, hat⟩ := World.cells?_some h1
      obtain ⟨a', d, k, v, n', rfl, hv⟩ := open_op h2
      have z0 := hat 0 (by omega)
      have z1 := hat 1 (by omega)
      have z2 := hat 2 (by omega)
      have z3 := hat 3 (by omega)
      have z4 := hat 4 (by omega)
      have z0' : w.cell? ((a.add (i * 5)).add 0) = some (.int .i64 a') := z0
      refine ⟨⟨a', d, k, v, n'⟩, ⟨?_, z1, z2, z3, z4⟩, hv⟩
      have : (a.add (i * 5)).add 0 = a.add (i * 5) := Addr.add_zero' _
      rw [← this]
      exact z0'
    have hspot : 0 < len → a.spot = none := by
      intro h0
      obtain ⟨y, ⟨z0, _⟩, _⟩ := hcell 0 h0
      have h1 : a.add (0 * 5) = a := by rw [Nat.zero_mul]; exact Addr.add_zero' _
      rw [h1] at z0
      exact World.cell?_spot z0
    have h2 : ∀ i, ∃ y : Op5, i < len → (w.cell? (a.add (i * 5)) = some (.int .i64 y.kind) ∧ w.cell? ((a.add (i * 5)).add 1) = some (.int .i64 y.on) ∧ w.cell? ((a.add (i * 5)).add 2) = some (.int .i64 y.oth) ∧ w.cell? ((a.add (i * 5)).add 3) = some (.int .i64 y.A) ∧ w.cell? ((a.add (i * 5)).add 4) = some (.int .i64 y.B)) ∧ y.A ≤ 9223372036854775807 := by
      intro i
      by_cases hil : i < len
      · obtain ⟨y, hh⟩ := hcell i hil
        exact ⟨y, fun _ => hh⟩
      · exact ⟨⟨0, 0, 0, 0, 0⟩, fun h => absurd h hil⟩
    obtain ⟨f, hf⟩ := Classical.axiomOfChoice h2
    refine ⟨by omega, f, fun i hi' => ?_⟩
    obtain ⟨⟨q0, q1, q2, q3, q4⟩, q5⟩ := hf i hi'
    have hs := hspot (by omega)
    obtain ⟨ab, ao, sp⟩ := a
    dsimp only at hs
    subst hs
    simp only [Addr.add_lit] at q0 q1 q2 q3 q4
    exact ⟨⟨ab, ao, rfl, q0, q1, q2, q3, q4⟩, q5⟩

/-- A map, its list. -/
structure Pt where
  g : Nat
  v : Value
  S : St
  l : List Int
def upd (P : Nat → Pt) (j : Nat) (p : Pt) : Nat → Pt := fun i => if i = j then p else P i
theorem upd_self (P : Nat → Pt) (j : Nat) (p : Pt) : upd P j p j = p := by simp [upd]
theorem upd_ne (P : Nat → Pt) {j i : Nat} (p : Pt) (h : i ≠ j) : upd P j p i = P i := by simp [upd, h]
def six (P : Nat → Pt) : Array Value := #[.pointer (some ⟨(P 0).g, 0, none⟩), (P 0).v, .pointer (some ⟨(P 1).g, 0, none⟩), (P 1).v, .pointer (some ⟨(P 2).g, 0, none⟩), (P 2).v]
theorem six_v (P : Nat → Pt) (j : Nat) (hj : j < 3) (p : Pt) (hp : p.g = (P j).g) : (six P).setIfInBounds (j * 2 + 1) p.v = six (upd P j p) := by
  have : j = 0 ∨ j = 1 ∨ j = 2 := by omega
  rcases this with rfl | rfl | rfl <;> simp [six, upd, hp]
theorem six_p (P : Nat → Pt) (j : Nat) (hj : j < 3) (p : Pt) : ((six P).setIfInBounds (j * 2) (.pointer (some ⟨p.g, 0, none⟩))).setIfInBounds (j * 2 + 1) p.v = six (upd P j p) := by
  have : j = 0 ∨ j = 1 ∨ j = 2 := by omega
  rcases this with rfl | rfl | rfl <;> simp [six, upd]
structure Bx (W : World) (X : Nat) (P : Nat → Pt) (w : World) : Prop where
  m : ∀ j, j < 3 → Bm w (P j).g (P j).S
  x : w.heap[X]? = some (.cells (six P) 49 (0, 0))
  li : ∀ j, j < 3 → Li w (X + 1) (P j).v (P j).l
  rep : ∀ j, j < 3 → Rep (P j).l (P j).S
  ne : ∀ i j, i < 3 → j < 3 → i ≠ j → (P i).g ≠ (P j).g
  gx : ∀ j, j < 3 → W.heap.size ≤ (P j).g ∧ (P j).g ≠ X
  bel : Below W.heap.size W w
  x_ : W.heap.size ≤ X
namespace Bx
variable {W w w5 w6 : World} {X : Nat} {P : Nat → Pt}
theorem below (h : Bx W X P w) (k : Below w.heap.size w w5) : Bx W X P w5 :=
  ⟨fun j hj => (h.m j hj).below k (h.m j hj).lt, (k.block X (blk_lt h.x)).trans h.x, fun j hj => (h.li j hj).below k, h.rep, h.ne, h.gx, below_then h.bel h.bel.size k, h.x_⟩
theorem at_ (h : Bx W X P w) (j : Nat) (hj : j < 3) : w.cell? ⟨X, j * 2, none⟩ = some (.pointer (some ⟨(P j).g, 0, none⟩)) ∧ w.cell? ⟨X, j * 2 + 1, none⟩ = some (P j).v ∧ w.frozen? ⟨X, j * 2, none⟩ = false ∧ w.frozen? ⟨X, j * 2 + 1, none⟩ = false := by
  have : j = 0 ∨ j = 1 ∨ j = 2 := by omega
  refine ⟨(blk_cell h.x _).trans ?_, (blk_cell h.x _).trans ?_, blk_frozen h.x _, blk_frozen h.x _⟩
  · rcases this with rfl | rfl | rfl <;> rfl
  · rcases this with rfl | rfl | rfl <;> rfl
/-- A map that has been asked. -/
theorem ask (h : Bx W X P w) (j : Nat) (hj : j < 3) (k : Fr (fun i => i = (P j).g) w w5) (hm : Bm w5 (P j).g (P j).S) : Bx W X P w5 := by
  have hg := h.gx j hj
  refine ⟨fun i hi => ?_, k.blk h.x (fun e => hg.2 e.symm), fun i hi => (h.li i hi).fr k (fun a ha e => ?_), h.rep, h.ne, h.gx, Fr.onto h.bel k (fun i hi => by omega), h.x_⟩
  · by_cases e : i = j
    · subst e; exact hm
    · exact (h.m i hi).fr k (h.ne i j hi hj e)
  · rw [ha] at e
    exact (h.li i hi).ne (h.m j hj) e
/-- A set put in the place of another one. -/
theorem put (h : Bx W X P w) (j : Nat) (hj : j < 3) {v' : Value} {l' : List Int} {S' : St} (b5 : Below w.heap.size w w5) (hli : Li w5 (X + 1) v' l') (hrep : Rep l' S') (k : Fr (fun i => i = (P j).g) w5 w6) (hm : Bm w6 (P j).g S') :
    Bx W X (upd P j ⟨(P j).g, v', S', l'⟩) (w6.setCell ⟨X, j * 2 + 1, none⟩ v') := by
  have h5 := h.below b5
  have hg := h.gx j hj
  have hf : Fr (fun i => i = X) w6 (w6.setCell ⟨X, j * 2 + 1, none⟩ v') := (Fr.refl (fun i => i = X) w6).setCell (p := ⟨X, j * 2 + 1, none⟩) (.inl rfl) _
  have x6 := k.blk h5.x (fun e => hg.2 e.symm)
  have lX : ∀ {u : Value} {L : List Int}, Li w6 (X + 1) u L → Li (w6.setCell ⟨X, j * 2 + 1, none⟩ v') (X + 1) u L := fun hl => hl.fr hf (fun a ha e => by have := Kd.R_base hl a e; omega)
  refine ⟨fun i hi => ?_, ?_, fun i hi => ?_, fun i hi => ?_, fun a b ha hb hab => ?_, fun i hi => ?_, Fr.onto (Fr.onto h5.bel k (fun i hi => by omega)) hf (fun i hi => by have := h.x_; omega), h.x_⟩
  · by_cases e : i = j
    · subst e
      rw [upd_self]
      exact hm.fr hf hg.2
    · rw [upd_ne P _ e]
      exact ((h5.m i hi).fr k (h.ne i j hi hj e)).fr hf (h.gx i hi).2
  · have := blk_set x6 (j * 2 + 1) v'
    rw [six_v P j hj ⟨(P j).g, v', S', l'⟩ rfl] at this
    exact this
  · by_cases e : i = j
    · subst e
      rw [upd_self]
      exact lX (hli.fr k (fun a ha e => by rw [ha] at e; exact hli.ne (h5.m i hi) e))
    · rw [upd_ne P _ e]
      exact lX ((h5.li i hi).fr k (fun a ha e => by rw [ha] at e; exact (h5.li i hi).ne (h5.m j hj) e))
  · by_cases e : i = j
    · subst e; rw [upd_self]; exact hrep
    · rw [upd_ne P _ e]; exact h.rep i hi
  · have hgg : ∀ i, (upd P j ⟨(P j).g, v', S', l'⟩ i).g = (P i).g := fun i => by
      by_cases e : i = j
      · subst e; rw [upd_self]
      · rw [upd_ne P _ e]
    rw [hgg, hgg]
    exact h.ne a b ha hb hab
  · by_cases e : i = j
    · subst e; rw [upd_self]; exact hg
    · rw [upd_ne P _ e]; exact h.gx i hi
/-- A copy of a set in the place of another one. -/
theorem copy (h : Bx W X P w) (j o : Nat) (hj : j < 3) (ho : o < 3) {c : Nat} (b5 : Below w.heap.size w w5) (hm : Bm w5 c (P o).S) (hc : w.heap.size ≤ c) :
    Bx W X (upd P j ⟨c, (P o).v, (P o).S, (P o).l⟩) ((w5.setCell ⟨X, j * 2, none⟩ (.pointer (some ⟨c, 0, none⟩))).setCell ⟨X, j * 2 + 1, none⟩ (P o).v) := by
  have h5 := h.below b5
  have hXl := blk_lt h.x
  have hcX : c ≠ X := by omega
  have hf : Fr (fun i => i = X) w5 ((w5.setCell ⟨X, j * 2, none⟩ (.pointer (some ⟨c, 0, none⟩))).setCell ⟨X, j * 2 + 1, none⟩ (P o).v) := ((Fr.refl (fun i => i = X) w5).setCell (p := ⟨X, j * 2, none⟩) (.inl rfl) _).setCell (p := ⟨X, j * 2 + 1, none⟩) (.inl rfl) _
  have lX : ∀ {u : Value} {L : List Int}, Li w5 (X + 1) u L → Li ((w5.setCell ⟨X, j * 2, none⟩ (.pointer (some ⟨c, 0, none⟩))).setCell ⟨X, j * 2 + 1, none⟩ (P o).v) (X + 1) u L := fun hl => hl.fr hf (fun a ha e => by have := Kd.R_base hl a e; omega)
  have hgl : ∀ i, i < 3 → (P i).g < w.heap.size := fun i hi => (h.m i hi).lt
  have hws := h.bel.size
  refine ⟨fun i hi => ?_, ?_, fun i hi => ?_, fun i hi => ?_, fun a b ha hb hab => ?_, fun i hi => ?_, Fr.onto h5.bel hf (fun i hi => by have := h.x_; omega), h.x_⟩
  · by_cases e : i = j
    · subst e
      rw [upd_self]
      exact hm.fr hf hcX
    · rw [upd_ne P _ e]
      exact (h5.m i hi).fr hf (h.gx i hi).2
  · have := blk_set (blk_set h5.x (j * 2) (.pointer (some ⟨c, 0, none⟩))) (j * 2 + 1) (P o).v
    rw [six_p P j hj ⟨c, (P o).v, (P o).S, (P o).l⟩] at this
    exact this
  · by_cases e : i = j
    · subst e; rw [upd_self]; exact lX (h5.li o ho)
    · rw [upd_ne P _ e]; exact lX (h5.li i hi)
  · by_cases e : i = j
    · subst e; rw [upd_self]; exact h.rep o ho
    · rw [upd_ne P _ e]; exact h.rep i hi
  · by_cases e1 : a = j
    · subst e1
      have e2 : b ≠ a := fun e => hab e.symm
      rw [upd_self, upd_ne P _ e2]
      have := hgl b hb
      show c ≠ _
      omega
    · rw [upd_ne P _ e1]
      by_cases e2 : b = j
      · subst e2
        rw [upd_self]
        have := hgl a ha
        show _ ≠ c
        omega
      · rw [upd_ne P _ e2]
        exact h.ne a b ha hb hab
  · by_cases e : i = j
    · subst e; rw [upd_self]; exact ⟨by show W.heap.size ≤ c; omega, hcX⟩
    · rw [upd_ne P _ e]; exact h.gx i hi
end Bx
theorem at_f3 (a : Int) : ∃ j : Nat, j < 3 ∧ bourselaw06_at.f a = some (j : Int) := by
  unfold bourselaw06_at.f
  by_cases h : Int.tmod a 3 < 0
  · refine ⟨(Int.tmod a 3 + 3).toNat, ?_, ?_⟩
    · have := Int.lt_tmod_of_pos a (b := 3) (by decide)
      omega
    · have := Int.lt_tmod_of_pos a (b := 3) (by decide)
      rw [if_pos h, w64 _ (by omega) (by omega)]
      congr 1
      omega
  · refine ⟨(Int.tmod a 3).toNat, ?_, ?_⟩
    · have := Int.tmod_lt_of_pos a (b := 3) (by decide)
      omega
    · rw [if_neg h]
      congr 1
      omega
end Go.Proofs.YtgcelkndgjjbdaaDoor.PBm
