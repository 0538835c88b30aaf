/- IndexMap's own list: what is known. -/
import Derived.Test.YtmcaoecmjibegaaIxQ
namespace Go.Proofs.Ytmcaoecmjibegaa.PIx
open Go.RowKit Go.Proofs.YtmcaoecmjibegaaW.PrintWords Go.Proofs.YtmcaoecmjibegaaW.PrintLast Go.Proofs.YtmcaoecmjibegaaW.PrintMore
set_option linter.unusedVariables false
set_option linter.unusedSimpArgs false

/-- A key that is known, and its value. -/
structure S46 where
  f0 : Int
  f1 : Int
def z46 : S46 := ⟨0, 0⟩
def k46 : Kd S46 := Kd.iso (Kd.pair (Kd.int .u64) (Kd.int .i64)) (fun x : S46 => (x.f0, x.f1))
theorem k46_openM {w : World} {base : Nat} {ok : Nat → Prop} {x : S46} {cs : List Value} (h : k46.M w base ok x cs) : cs = [.int .u64 x.f0, .int .i64 x.f1] := by
  obtain ⟨_, _, rfl, rfl, rfl⟩ := h
  exact rfl
theorem k46_mkM (w : World) (base : Nat) (ok : Nat → Prop) (x : S46) : k46.M w base ok x [.int .u64 x.f0, .int .i64 x.f1] := ⟨[.int .u64 x.f0], [.int .i64 x.f1], rfl, rfl, rfl⟩
theorem k46_E : k46.E = [] := rfl
theorem k46_sz : k46.sz = 2 := rfl
theorem info46 : (Try.prog.info? 46).map (fun i => (i.zero, i.size, i.bytes)) = some (some (.agg #[(.int .u64 0), (.int .i64 0)]), 2, 16) := by kernel_rfl

def kn (now : List S46) (i : Nat) : S46 := now.getD i z46

/-- The list, in memory of its own. -/
def Nw (w : World) (base : Nat) (v : Value) (now : List S46) : Prop := k46.R 46 w base (fun k => v.ownBlock = some k) v now

namespace Nw
variable {w w' : World} {base : Nat} {v : Value} {now : List S46}
theorem tight {ok : Nat → Prop} (h : k46.R 46 w base ok v now) : Nw w base v now :=
  Kd.R_mono (Kd.R_tight k46_E h) (fun k hk => hk.symm)
theorem form (h : Nw w base v now) : ∃ A c, v = .slice A now.length c := Kd.R_slice h
theorem keep (h : Nw w base v now) (hk : ∀ k, base ≤ k → k < w.heap.size → w'.heap[k]? = w.heap[k]?) : Nw w' base v now :=
  Kd.R_move h (fun k hv => hk k (Kd.R_base h k hv) (Kd.R_lt h k hv))
theorem fr {S : Nat → Prop} (h : Nw w base v now) (k : Fr S w w') (hS : ∀ i, S i → i < base) : Nw w' base v now :=
  h.keep (fun i hb hl => k.block i hl (fun hs => by have := hS i hs; omega))
theorem below (h : Nw w base v now) (k : Below w.heap.size w w') : Nw w' base v now := h.keep (fun i _ hl => k.block i hl)
theorem at_ (h : Nw w base v now) (i : Nat) (hi : i < now.length) : ∃ c cap, v = .slice (some ⟨c, 0, none⟩) now.length cap ∧ w.cell? ⟨c, i * 2, none⟩ = some (.int .u64 (kn now i).f0) ∧ w.cell? ⟨c, i * 2 + 1, none⟩ = some (.int .i64 (kn now i).f1) := by
  obtain ⟨c, cap, rfl, h0, h1, _⟩ := Kd.R_form h (by omega)
  obtain ⟨cs, hl, hM, hc, hf⟩ := Kd.R_elem h z46 (i : Int) (by omega) (by omega)
  have hcs := k46_openM hM
  subst hcs
  simp only [Int.toNat_natCast] at hc
  exact ⟨c, cap, rfl, hc 0 _ rfl, hc 1 _ rfl⟩
/-- A part of the list, as a slice. -/
theorem part (h : Nw w base v now) {c cap : Nat} (hv : v = .slice (some ⟨c, 0, none⟩) now.length cap) (a n : Nat) (han : a + n ≤ now.length) (hn : n ≤ 9223372036854775807) (A : Option Addr) (hA : 0 < n → A = some ⟨c, a * 2, none⟩) :
    ReadsRow (fun (x : S46) cs => cs = [.int .u64 x.f0, .int .i64 x.f1]) 2 w A n ((now.drop a).take n) := by
  refine ⟨by rw [List.length_take, List.length_drop]; omega, hn, fun h0 => ⟨_, hA h0, fun j p hj => ?_⟩⟩
  have hjn : j < n := by
    rcases Nat.lt_or_ge j n with h1 | h1
    · exact h1
    · rw [List.getElem?_take, if_neg (by omega)] at hj; cases hj
  rw [List.getElem?_take, if_pos hjn, List.getElem?_drop] at hj
  obtain ⟨c', cap', hv', q0, q1⟩ := h.at_ (a + j) (by omega)
  rw [hv] at hv'
  injection hv' with hv'
  injection hv' with hv'
  injection hv' with hv'
  subst hv'
  have hp : kn now (a + j) = p := by unfold kn; rw [List.getD_eq_getElem?_getD, hj]; rfl
  rw [hp] at q0 q1
  refine ⟨_, rfl, rfl, fun i u hu => ?_⟩
  match i, hu with
  | 0, hu =>
    simp at hu
    subst hu
    rw [Addr.add_lit, show a * 2 + (j * 2 + 0) = (a + j) * 2 by omega]
    exact q0
  | 1, hu =>
    simp at hu
    subst hu
    rw [Addr.add_lit, show a * 2 + (j * 2 + 1) = (a + j) * 2 + 1 by omega]
    exact q1
end Nw

/-- What the list says of the index. -/
structure Sem (keys : Int) (pl : List S72) (now : List S46) : Prop where
  len : keys = (now.length : Int)
  has : ∀ k v, Has pl k v ↔ ∃ x, x ∈ now ∧ x.f0 = k ∧ x.f1 = v
  nod : ∀ i j, i < now.length → j < now.length → (kn now i).f0 = (kn now j).f0 → i = j

theorem kn_mem {now : List S46} {i : Nat} (h : i < now.length) : kn now i ∈ now := by
  unfold kn; rw [List.getD_eq_getElem?_getD, List.getElem?_eq_getElem h]; exact List.getElem_mem h
theorem mem_kn {now : List S46} {x : S46} (h : x ∈ now) : ∃ i, i < now.length ∧ kn now i = x := by
  obtain ⟨i, hi, rfl⟩ := List.mem_iff_getElem.mp h
  exact ⟨i, hi, by unfold kn; rw [List.getD_eq_getElem?_getD, List.getElem?_eq_getElem hi]; rfl⟩

/-- Where a key stands in the list, or its length. -/
def idx (now : List S46) (key : Int) : Nat := now.findIdx (fun x => x.f0 == key)
theorem idx_le (now : List S46) (key : Int) : idx now key ≤ now.length := List.findIdx_le_length
theorem idx_key {now : List S46} {key : Int} (h : idx now key < now.length) : (kn now (idx now key)).f0 = key := by
  unfold kn
  rw [List.getD_eq_getElem?_getD, List.getElem?_eq_getElem h]
  have := List.findIdx_getElem (p := fun x : S46 => x.f0 == key) (w := h)
  exact beq_iff_eq.mp this
theorem idx_ne {now : List S46} {key : Int} {i : Nat} (h : i < idx now key) : (kn now i).f0 ≠ key := by
  have hl : i < now.length := Nat.lt_of_lt_of_le h (idx_le _ _)
  unfold kn
  rw [List.getD_eq_getElem?_getD, List.getElem?_eq_getElem hl]
  have := List.not_of_lt_findIdx h
  simpa using this

namespace Sem
variable {keys : Int} {pl pl' : List S72} {now : List S46}
theorem there (h : Sem keys pl now) (key : Int) : (∃ x, Has pl key x) ↔ idx now key < now.length := by
  constructor
  · rintro ⟨x, hx⟩
    obtain ⟨y, hy, hk, _⟩ := (h.has key x).mp hx
    exact List.findIdx_lt_length_of_exists ⟨y, hy, by simpa using hk⟩
  · intro hl
    exact ⟨_, (h.has key _).mpr ⟨_, kn_mem hl, idx_key hl, rfl⟩⟩
theorem val (h : Sem keys pl now) {key x : Int} (hx : Has pl key x) : x = (kn now (idx now key)).f1 := by
  obtain ⟨y, hy, hk, hv⟩ := (h.has key x).mp hx
  have hl := (h.there key).mp ⟨x, hx⟩
  obtain ⟨i, hi, rfl⟩ := mem_kn hy
  have := h.nod i _ hi hl (hk.trans (idx_key hl).symm)
  rw [← this, hv]
theorem zero {pl : List S72} (h : ∀ k v, ¬ Has pl k v) : Sem 0 pl [] :=
  ⟨rfl, fun k v => ⟨fun hh => absurd hh (h k v), fun ⟨x, hx, _⟩ => by simp at hx⟩, fun i j hi => by simp at hi⟩
theorem kn_snoc {now : List S46} {y : S46} {i : Nat} : kn (now ++ [y]) i = if i < now.length then kn now i else if i = now.length then y else z46 := by
  unfold kn
  rw [List.getD_eq_getElem?_getD, List.getD_eq_getElem?_getD]
  split
  · rename_i h; rw [List.getElem?_append_left h]
  · rename_i h
    rw [List.getElem?_append_right (by omega)]
    split
    · rename_i h2; rw [h2, Nat.sub_self]; rfl
    · rw [List.getElem?_eq_none (by simp; omega)]; rfl
theorem put (h : Sem keys pl now) {key v : Int} (hno : ¬ ∃ x, Has pl key x) (hp : ∀ k x, Has pl' k x ↔ Has pl k x ∨ (k = key ∧ x = v)) : Sem (keys + 1) pl' (now ++ [⟨key, v⟩]) := by
  have hk : ∀ i, i < now.length → (kn now i).f0 ≠ key := fun i hi e => hno ⟨_, (h.has key _).mpr ⟨_, kn_mem hi, e, rfl⟩⟩
  refine ⟨by rw [List.length_append]; have := h.len; simp; omega, fun k x => ?_, fun i j hi hj e => ?_⟩
  · rw [hp, h.has]
    constructor
    · rintro (⟨y, hy, h1⟩ | ⟨rfl, rfl⟩)
      · exact ⟨y, List.mem_append_left _ hy, h1⟩
      · exact ⟨⟨k, x⟩, List.mem_append_right _ (List.mem_singleton.mpr rfl), rfl, rfl⟩
    · rintro ⟨y, hy, rfl, rfl⟩
      rcases List.mem_append.mp hy with hy | hy
      · exact .inl ⟨y, hy, rfl, rfl⟩
      · rw [List.mem_singleton.mp hy]; exact .inr ⟨rfl, rfl⟩
  · rw [List.length_append, List.length_singleton] at hi hj
    rw [kn_snoc, kn_snoc] at e
    by_cases c1 : i < now.length <;> by_cases c2 : j < now.length
    · rw [if_pos c1, if_pos c2] at e; exact h.nod i j c1 c2 e
    · rw [if_pos c1, if_neg c2, if_pos (by omega)] at e; exact absurd e (hk i c1)
    · rw [if_neg c1, if_pos (by omega), if_pos c2] at e; exact absurd e.symm (hk j c2)
    · omega
theorem kn_erase {now : List S46} {j i : Nat} (hj : j < now.length) : kn (now.take j ++ now.drop (j + 1)) i = if i < j then kn now i else kn now (i + 1) := by
  unfold kn
  rw [List.getD_eq_getElem?_getD, List.getD_eq_getElem?_getD, List.getD_eq_getElem?_getD]
  split
  · rename_i h
    rw [List.getElem?_append_left (by rw [List.length_take]; omega), List.getElem?_take, if_pos h]
  · rename_i h
    rw [List.getElem?_append_right (by rw [List.length_take]; omega), List.length_take, List.getElem?_drop, Nat.min_eq_left (by omega)]
    rw [show j + 1 + (i - j) = i + 1 by omega]
theorem drop (h : Sem keys pl now) {key : Int} (hl : idx now key < now.length) (hp : ∀ k x, Has pl' k x ↔ Has pl k x ∧ k ≠ key) : Sem (keys - 1) pl' (now.take (idx now key) ++ now.drop (idx now key + 1)) := by
  obtain ⟨j, hj⟩ : ∃ j, j = idx now key := ⟨_, rfl⟩
  have hkey := idx_key hl
  rw [← hj] at hl hkey ⊢
  have hlen : (now.take j ++ now.drop (j + 1)).length = now.length - 1 := by rw [List.length_append, List.length_take, List.length_drop]; omega
  refine ⟨by rw [hlen]; have := h.len; omega, fun k x => ?_, fun a b ha hb e => ?_⟩
  · rw [hp, h.has]
    constructor
    · rintro ⟨⟨y, hy, rfl, rfl⟩, hne⟩
      obtain ⟨i, hi, rfl⟩ := mem_kn hy
      have hij : i ≠ j := fun e => hne (by rw [e]; exact hkey)
      rcases Nat.lt_or_ge i j with c | c
      · refine ⟨kn (now.take j ++ now.drop (j + 1)) i, kn_mem (by rw [hlen]; omega), ?_, ?_⟩ <;> rw [kn_erase hl, if_pos c]
      · refine ⟨kn (now.take j ++ now.drop (j + 1)) (i - 1), kn_mem (by rw [hlen]; omega), ?_, ?_⟩ <;> rw [kn_erase hl, if_neg (by omega), show i - 1 + 1 = i by omega]
    · rintro ⟨y, hy, rfl, rfl⟩
      obtain ⟨i, hi, rfl⟩ := mem_kn hy
      rw [hlen] at hi
      rw [kn_erase hl]
      split
      · rename_i c
        exact ⟨⟨_, kn_mem (by omega), rfl, rfl⟩, fun e => by have := h.nod i j (by omega) hl (e.trans hkey.symm); omega⟩
      · rename_i c
        exact ⟨⟨_, kn_mem (by omega), rfl, rfl⟩, fun e => by have := h.nod (i + 1) j (by omega) hl (e.trans hkey.symm); omega⟩
  · rw [hlen] at ha hb
    rw [kn_erase hl, kn_erase hl] at e
    split at e <;> split at e
    · exact h.nod a b (by omega) (by omega) e
    · have := h.nod a (b + 1) (by omega) (by omega) e; omega
    · have := h.nod (a + 1) b (by omega) (by omega) e; omega
    · have := h.nod (a + 1) (b + 1) (by omega) (by omega) e; omega
end Sem
end Go.Proofs.Ytmcaoecmjibegaa.PIx
