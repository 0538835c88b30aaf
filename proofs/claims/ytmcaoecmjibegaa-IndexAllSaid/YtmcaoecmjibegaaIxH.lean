/- Drop's pure laws: the places behind a hole. -/
import Derived.Test.YtmcaoecmjibegaaIxG
namespace Go.Proofs.Ytmcaoecmjibegaa.PIx
set_option linter.unusedVariables false
set_option linter.unusedSimpArgs false

/-- What stands at place j goes to place h. -/
def mv (pl : List S72) (h j : Nat) : List S72 := (pl.set h (pa pl j)).set j z72

theorem mv_len (pl : List S72) (h j : Nat) : (mv pl h j).length = pl.length := by simp [mv]
theorem pa_mv {pl : List S72} {h j : Nat} (hh : h < pl.length) (hj : j < pl.length) (x : Nat) : pa (mv pl h j) x = if x = j then z72 else if x = h then pa pl j else pa pl x := by
  unfold mv
  rw [pa_set (by simpa using hj), pa_set hh]
theorem us_mv {pl : List S72} {h j : Nat} (hh : h < pl.length) (hj : j < pl.length) (x : Nat) : us (mv pl h j) x = if x = j then false else if x = h then us pl j else us pl x := by
  unfold us
  rw [pa_mv hh hj]
  split
  · rfl
  · split <;> rfl
theorem ky_mv {pl : List S72} {h j : Nat} (hh : h < pl.length) (hj : j < pl.length) {x : Nat} (hx : x ≠ j) : ky (mv pl h j) x = if x = h then ky pl j else ky pl x := by
  unfold ky
  rw [pa_mv hh hj, if_neg hx]
  split <;> rfl
theorem vl_mv {pl : List S72} {h j : Nat} (hh : h < pl.length) (hj : j < pl.length) {x : Nat} (hx : x ≠ j) : vl (mv pl h j) x = if x = h then vl pl j else vl pl x := by
  unfold vl
  rw [pa_mv hh hj, if_neg hx]
  split <;> rfl

/-- Whether the key at place j stays there, place h empty. -/
def Stays (bits : Nat) (pl : List S72) (h j : Nat) : Prop := 0 < dist pl.length h (homeN bits (ky pl j)) ∧ dist pl.length h (homeN bits (ky pl j)) ≤ dist pl.length h j
instance (bits : Nat) (pl : List S72) (h j : Nat) : Decidable (Stays bits pl h j) := by unfold Stays; infer_instance

/-- The places behind the hole h, from place j on. -/
def shift (bits : Nat) : Nat → List S72 → Nat → Nat → List S72
  | 0, pl, _, _ => pl
  | k + 1, pl, h, j => if us pl j = true then (if Stays bits pl h j then shift bits k pl h ((j + 1) % pl.length) else shift bits k (mv pl h j) j ((j + 1) % pl.length)) else pl

/-- Distances by the ones from a place on. -/
theorem dist_off {n h a b : Nat} (hh : h < n) (ha : a < n) (hb : b < n) : dist n a b = if dist n h a ≤ dist n h b then dist n h b - dist n h a else dist n h b + n - dist n h a := by
  rw [dist_eq ha hb, dist_eq hh ha, dist_eq hh hb]
  split <;> split <;> split <;> split <;> omega
theorem off_inj {n h a b : Nat} (hh : h < n) (ha : a < n) (hb : b < n) (e : dist n h a = dist n h b) : a = b := by
  rw [← md_dist hh ha, ← md_dist hh hb, e]
theorem off_md {n h a e : Nat} (hh : h < n) (ha : a < n) (he : e < n) : dist n h ((a + e) % n) = if dist n h a + e < n then dist n h a + e else dist n h a + e - n := by
  have h1 := dist_lt hh ha
  have h2 : (a + e) % n = (h + (dist n h a + e)) % n := by rw [← Nat.add_assoc, ← Nat.mod_add_mod (h + dist n h a), md_dist hh ha]
  rw [h2]
  split
  · exact dist_md hh (by omega)
  · rename_i c
    rw [show h + (dist n h a + e) = h + (dist n h a + e - n) + n by omega, Nat.add_mod_right]
    exact dist_md hh (by omega)
theorem off_self {n h : Nat} (hh : h < n) : dist n h h = 0 := by rw [dist_eq hh hh]; simp

/-- What the loop keeps: the hole h, place j next; u is empty for good. -/
structure Sh (bits : Nat) (pl : List S72) (h j u : Nat) : Prop where
  len : pl.length = 2 ^ bits
  hb : bits ≤ 17
  hh : h < pl.length
  hj : j < pl.length
  hu : u < pl.length
  hole : us pl h = false
  free : us pl u = false
  dis : ∀ a b, a < pl.length → b < pl.length → us pl a = true → us pl b = true → ky pl a = ky pl b → a = b
  gap : ∀ i, i < pl.length → us pl i = true → ∀ e, e < dist pl.length (homeN bits (ky pl i)) i → us pl ((homeN bits (ky pl i) + e) % pl.length) = true ∨ (homeN bits (ky pl i) + e) % pl.length = h
  done : ∀ i, i < pl.length → us pl i = true → dist pl.length h i < dist pl.length h j → ∀ e, e < dist pl.length (homeN bits (ky pl i)) i → (homeN bits (ky pl i) + e) % pl.length ≠ h
  pos : 0 < dist pl.length h j
  before : dist pl.length h j ≤ dist pl.length h u
  zer : ∀ i, us pl i = false → vl pl i = 0

namespace Sh
variable {bits : Nat} {pl : List S72} {h j u : Nat}
theorem home (s : Sh bits pl h j u) (key : Int) : homeN bits key < pl.length := by
  rw [s.len]; exact homeN_lt bits key (by have := s.hb; omega)
theorem next (s : Sh bits pl h j u) (hju : us pl j = true) : dist pl.length h ((j + 1) % pl.length) = dist pl.length h j + 1 ∧ dist pl.length h j < dist pl.length h u := by
  have h1 := dist_lt s.hh s.hu
  have h2 := s.before
  have h3 : dist pl.length h j ≠ dist pl.length h u := fun e => by
    have := off_inj s.hh s.hj s.hu e
    rw [this, s.free] at hju
    simp at hju
  rw [off_md s.hh s.hj (by omega), if_pos (by omega)]
  exact ⟨rfl, by omega⟩
theorem keep (s : Sh bits pl h j u) (hju : us pl j = true) (hs : Stays bits pl h j) : Sh bits pl h ((j + 1) % pl.length) u := by
  obtain ⟨n1, n2⟩ := s.next hju
  have hj := s.hj
  refine ⟨s.len, s.hb, s.hh, Nat.mod_lt _ (by omega), s.hu, s.hole, s.free, s.dis, s.gap, ?_, by omega, by omega, s.zer⟩
  intro i hi hui hd e he
  rw [n1] at hd
  by_cases c : dist pl.length h i < dist pl.length h j
  · exact s.done i hi hui c e he
  · have hij : i = j := off_inj s.hh hi s.hj (by omega)
    subst hij
    obtain ⟨s1, s2⟩ := hs
    have hH := s.home (ky pl i)
    rw [dist_off s.hh hH hi, if_pos s2] at he
    have h3 := dist_lt s.hh hi
    intro hx
    have h4 := off_md (e := e) s.hh hH (by omega)
    rw [if_pos (by omega), hx, off_self s.hh] at h4
    omega
theorem move (s : Sh bits pl h j u) (hju : us pl j = true) (hs : ¬ Stays bits pl h j) : Sh bits (mv pl h j) j ((j + 1) % pl.length) u := by
  obtain ⟨n1, n2⟩ := s.next hju
  have hj := s.hj
  have hh := s.hh
  have hu := s.hu
  have hl := mv_len pl h j
  have hhj : h ≠ j := fun e => by have := s.hole; rw [e, hju] at this; simp at this
  have huj : u ≠ j := fun e => by have := s.free; rw [e, hju] at this; simp at this
  have huh : u ≠ h := fun e => by have h1 := s.before; have h2 := s.pos; rw [e, off_self s.hh] at h1; omega
  have hn : 1 < pl.length := by have := dist_lt hh hu; omega
  refine ⟨by rw [hl]; exact s.len, s.hb, by rw [hl]; exact hj, by rw [hl]; exact Nat.mod_lt _ (by omega), by rw [hl]; exact hu, ?_, ?_, ?_, ?_, ?_, ?_, ?_, fun i hi => by
    rw [us_mv hh hj] at hi
    by_cases c : i = j
    · unfold vl; rw [pa_mv hh hj, if_pos c]; rfl
    · rw [if_neg c] at hi
      rw [vl_mv hh hj c]
      by_cases c2 : i = h
      · rw [if_pos c2, hju] at hi; simp at hi
      · rw [if_neg c2] at hi ⊢; exact s.zer i hi⟩
  · rw [us_mv hh hj, if_pos rfl]
  · rw [us_mv hh hj, if_neg huj, if_neg huh]; exact s.free
  · intro a b ha hb hua hub hk
    rw [hl] at ha hb
    rw [us_mv hh hj] at hua hub
    by_cases a1 : a = j
    · rw [if_pos a1] at hua; simp at hua
    by_cases b1 : b = j
    · rw [if_pos b1] at hub; simp at hub
    rw [ky_mv hh hj a1, ky_mv hh hj b1] at hk
    rw [if_neg a1] at hua
    rw [if_neg b1] at hub
    by_cases a2 : a = h <;> by_cases b2 : b = h
    · omega
    · rw [if_pos a2, if_neg b2] at hk
      rw [if_neg b2] at hub
      exact absurd (s.dis j b hj hb hju hub hk).symm b1
    · rw [if_neg a2, if_pos b2] at hk
      rw [if_neg a2] at hua
      exact absurd (s.dis a j ha hj hua hju hk) a1
    · rw [if_neg a2, if_neg b2] at hk
      rw [if_neg a2] at hua
      rw [if_neg b2] at hub
      exact s.dis a b ha hb hua hub hk
  · intro i hi hui e he
    rw [hl] at hi he ⊢
    rw [us_mv hh hj] at hui
    by_cases i1 : i = j
    · rw [if_pos i1] at hui; simp at hui
    rw [ky_mv hh hj i1] at he ⊢
    have key : ∀ x, (us pl x = true ∨ x = h) → us (mv pl h j) x = true ∨ x = j := by
      intro x hx
      rw [us_mv hh hj]
      by_cases x1 : x = j
      · exact .inr x1
      rw [if_neg x1]
      by_cases x2 : x = h
      · rw [if_pos x2]; exact .inl hju
      rw [if_neg x2]
      exact .inl (hx.resolve_right x2)
    by_cases i2 : i = h
    · rw [if_pos i2] at he ⊢
      rw [i2] at he
      refine key _ (s.gap j hj hju e ?_)
      have hH := s.home (ky pl j)
      rw [dist_off hh hH hj]
      rw [dist_off hh hH hh, off_self hh] at he
      unfold Stays at hs
      split <;> split at he <;> omega
    · rw [if_neg i2] at he ⊢ hui
      rw [if_neg i1] at hui
      exact key _ (s.gap i hi hui e he)
  · intro i hi hui hd
    rw [hl] at hi hd
    rw [dist_md hj hn] at hd
    have : dist pl.length j i = dist pl.length j j := by rw [off_self hj]; omega
    have := off_inj hj hi hj this
    rw [us_mv hh hj, if_pos this] at hui
    simp at hui
  · rw [hl, dist_md hj hn]; omega
  · rw [hl, dist_md hj hn, dist_off hh hj hu, if_pos s.before]
    omega
theorem ends (s : Sh bits pl h j u) (hju : us pl j = false) : ∀ i, i < pl.length → us pl i = true → ∀ e, e < dist pl.length (homeN bits (ky pl i)) i → us pl ((homeN bits (ky pl i) + e) % pl.length) = true := by
  intro i hi hui e he
  refine (s.gap i hi hui e he).resolve_right fun hx => ?_
  by_cases c : dist pl.length h i < dist pl.length h j
  · exact s.done i hi hui c e he hx
  · have hH := s.home (ky pl i)
    have hh := s.hh
    have hj := s.hj
    have c2 : dist pl.length h i ≠ dist pl.length h j := fun e2 => by
      have := off_inj hh hi hj e2
      rw [this, hju] at hui
      simp at hui
    have l1 := dist_lt hh hi
    have l2 := dist_lt hH hi
    have o1 := off_md (e := e) hh hH (by omega)
    rw [hx, off_self hh] at o1
    have l3 := dist_lt hh hH
    have hD := dist_off hh hH hi
    have key : e + dist pl.length h j < dist pl.length (homeN bits (ky pl i)) i := by
      by_cases a1 : dist pl.length h (homeN bits (ky pl i)) ≤ dist pl.length h i <;> by_cases a2 : dist pl.length h (homeN bits (ky pl i)) + e < pl.length
      · rw [if_pos a1] at hD; rw [if_pos a2] at o1; omega
      · rw [if_pos a1] at hD; rw [if_neg a2] at o1; omega
      · rw [if_neg a1] at hD; rw [if_pos a2] at o1; omega
      · rw [if_neg a1] at hD; rw [if_neg a2] at o1; omega
    have h5 := s.gap i hi hui _ key
    rw [← Nat.add_assoc, ← Nat.mod_add_mod, hx, md_dist hh hj] at h5
    rcases h5 with h5 | h5
    · rw [hju] at h5; simp at h5
    · have := s.pos
      rw [h5, off_self hh] at this
      omega
theorem dist_next (s : Sh bits pl h j u) (hju : us pl j = true) : dist pl.length ((j + 1) % pl.length) u + 1 = dist pl.length j u := by
  obtain ⟨n1, n2⟩ := s.next hju
  have hj := s.hj
  rw [dist_off s.hh (Nat.mod_lt _ (by omega)) s.hu, dist_off s.hh hj s.hu, n1, if_pos (by omega), if_pos (by omega)]
  omega
end Sh

theorem cnt_mv {bits : Nat} {pl : List S72} {h j u : Nat} (s : Sh bits pl h j u) (hju : us pl j = true) : cnt (mv pl h j) = cnt pl := by
  have hhj : j ≠ h := fun e => by have := s.hole; rw [← e, hju] at this; simp at this
  have h1 := cnt_set (v := pa pl j) s.hh
  have h2 := cnt_set (pl := pl.set h (pa pl j)) (i := j) (v := z72) (by simpa using s.hj)
  rw [s.hole, show (pa pl j).f0.f0 = true from hju] at h1
  rw [us_set s.hh, if_neg hhj, hju, show z72.f0.f0 = false from rfl] at h2
  unfold mv
  simp at h1 h2
  omega

theorem has_mv {bits : Nat} {pl : List S72} {h j u : Nat} (s : Sh bits pl h j u) (hju : us pl j = true) (k v : Int) : Has (mv pl h j) k v ↔ Has pl k v := by
  have hhj : h ≠ j := fun e => by have := s.hole; rw [e, hju] at this; simp at this
  constructor
  · rintro ⟨i, hi, h1, h2, h3⟩
    rw [mv_len] at hi
    rw [us_mv s.hh s.hj] at h1
    by_cases c : i = j
    · rw [if_pos c] at h1; simp at h1
    rw [ky_mv s.hh s.hj c] at h2
    rw [vl_mv s.hh s.hj c] at h3
    rw [if_neg c] at h1
    by_cases c2 : i = h
    · rw [if_pos c2] at h2 h3
      exact ⟨j, s.hj, hju, h2, h3⟩
    · rw [if_neg c2] at h1 h2 h3
      exact ⟨i, hi, h1, h2, h3⟩
  · rintro ⟨i, hi, h1, h2, h3⟩
    have c2 : i ≠ h := fun e => by rw [e, s.hole] at h1; simp at h1
    by_cases c : i = j
    · subst c
      refine ⟨h, by rw [mv_len]; exact s.hh, ?_, ?_, ?_⟩
      · rw [us_mv s.hh s.hj, if_neg hhj, if_pos rfl]; exact h1
      · rw [ky_mv s.hh s.hj hhj, if_pos rfl]; exact h2
      · rw [vl_mv s.hh s.hj hhj, if_pos rfl]; exact h3
    · refine ⟨i, by rw [mv_len]; exact hi, ?_, ?_, ?_⟩
      · rw [us_mv s.hh s.hj, if_neg c, if_neg c2]; exact h1
      · rw [ky_mv s.hh s.hj c, if_neg c2]; exact h2
      · rw [vl_mv s.hh s.hj c, if_neg c2]; exact h3

/-- What stands behind the loop. -/
structure Shut (bits : Nat) (pl pl' : List S72) : Prop where
  len : pl'.length = pl.length
  dis : ∀ a b, a < pl'.length → b < pl'.length → us pl' a = true → us pl' b = true → ky pl' a = ky pl' b → a = b
  gap : ∀ i, i < pl'.length → us pl' i = true → ∀ e, e < dist pl'.length (homeN bits (ky pl' i)) i → us pl' ((homeN bits (ky pl' i) + e) % pl'.length) = true
  num : cnt pl' = cnt pl
  has : ∀ k v, Has pl' k v ↔ Has pl k v
  zer : ∀ i, us pl' i = false → vl pl' i = 0

theorem shift_shut (bits : Nat) : ∀ (k : Nat) (pl : List S72) (h j u : Nat), Sh bits pl h j u → dist pl.length j u ≤ k → Shut bits pl (shift bits k pl h j) := by
  intro k
  induction k with
  | zero =>
    intro pl h j u s hd
    have h1 : u = j := by
      have := md_dist s.hj s.hu
      rw [show dist pl.length j u = 0 by omega, Nat.add_zero, Nat.mod_eq_of_lt s.hj] at this
      exact this.symm
    exact ⟨rfl, s.dis, s.ends (by rw [← h1]; exact s.free), rfl, fun _ _ => Iff.rfl, s.zer⟩
  | succ k ih =>
    intro pl h j u s hd
    cases hju : us pl j with
    | false =>
      have h2 : shift bits (k + 1) pl h j = pl := by simp [shift, hju]
      rw [h2]
      exact ⟨rfl, s.dis, s.ends hju, rfl, fun _ _ => Iff.rfl, s.zer⟩
    | true =>
      have h3 := s.dist_next hju
      by_cases c : Stays bits pl h j
      · have h2 : shift bits (k + 1) pl h j = shift bits k pl h ((j + 1) % pl.length) := by simp [shift, hju, c]
        rw [h2]
        exact ih pl h _ u (s.keep hju c) (by omega)
      · have h2 : shift bits (k + 1) pl h j = shift bits k (mv pl h j) j ((j + 1) % pl.length) := by simp [shift, hju, c]
        rw [h2]
        have s2 := s.move hju c
        have h4 := ih (mv pl h j) j _ u s2 (by rw [mv_len]; omega)
        exact ⟨h4.len.trans (mv_len _ _ _), h4.dis, h4.gap, h4.num.trans (cnt_mv s hju), fun k v => (h4.has k v).trans (has_mv s hju k v), h4.zer⟩

/-- A key at place p, dropped. -/
def dropP (bits : Nat) (pl : List S72) (p : Nat) : List S72 := shift bits pl.length (pl.set p z72) p ((p + 1) % pl.length)

theorem Fit.sh {room keys : Int} {bits : Nat} {pl : List S72} (h : Fit room keys bits pl) {p : Nat} (hp : p < pl.length) (hu : us pl p = true) : ∃ u, Sh bits (pl.set p z72) p ((p + 1) % pl.length) u := by
  obtain ⟨u, hul, huf⟩ := h.free
  have hpu : u ≠ p := fun e => by rw [e, hu] at huf; simp at huf
  have hn : 1 < pl.length := by omega
  refine ⟨u, by simpa using h.len, h.hb, by simpa using hp, by simpa using Nat.mod_lt _ (by omega), by simpa using hul, ?_, ?_, ?_, ?_, ?_, ?_, ?_, fun i hi => by
    rw [us_set hp] at hi
    rw [vl_set hp]
    by_cases c : i = p
    · rw [if_pos c]; rfl
    · rw [if_neg c] at hi ⊢; exact h.zer i hi⟩
  · rw [us_set hp, if_pos rfl]; rfl
  · rw [us_set hp, if_neg hpu]; exact huf
  · intro a b ha hb hua hub hk
    rw [List.length_set] at ha hb
    rw [us_set hp] at hua hub
    rw [ky_set hp, ky_set hp] at hk
    by_cases c1 : a = p
    · rw [if_pos c1] at hua; simp [z72, z59] at hua
    by_cases c2 : b = p
    · rw [if_pos c2] at hub; simp [z72, z59] at hub
    rw [if_neg c1, if_neg c2] at hk
    rw [if_neg c1] at hua
    rw [if_neg c2] at hub
    exact h.dis a b ha hb hua hub hk
  · intro i hi hui e he
    rw [List.length_set] at hi he ⊢
    rw [us_set hp] at hui
    by_cases c1 : i = p
    · rw [if_pos c1] at hui; simp [z72, z59] at hui
    rw [ky_set hp, if_neg c1] at he ⊢
    rw [if_neg c1] at hui
    rw [us_set hp]
    by_cases c2 : (homeN bits (ky pl i) + e) % pl.length = p
    · exact .inr c2
    · rw [if_neg c2]
      exact .inl (h.gap i hi hui e he)
  · intro i hi hui hd
    rw [List.length_set] at hi hd
    rw [dist_md hp hn] at hd
    have := off_inj hp hi hp (by rw [off_self hp]; omega)
    rw [us_set hp, if_pos this] at hui
    simp [z72, z59] at hui
  · rw [List.length_set, dist_md hp hn]; omega
  · rw [List.length_set, dist_md hp hn]
    have : dist pl.length p u ≠ 0 := fun e => hpu (off_inj hp hul hp (by rw [off_self hp]; exact e))
    omega

theorem Fit.drop {room keys : Int} {bits : Nat} {pl : List S72} (h : Fit room keys bits pl) {p : Nat} (hp : p < pl.length) (hu : us pl p = true) :
    Fit room (keys - 1) bits (dropP bits pl p) ∧ ∀ k v, Has (dropP bits pl p) k v ↔ Has pl k v ∧ k ≠ ky pl p := by
  obtain ⟨u, s⟩ := h.sh hp hu
  have hd := dist_lt s.hj s.hu
  rw [List.length_set] at hd
  have hs := shift_shut bits pl.length _ _ _ u s (by rw [List.length_set]; omega)
  have h1 := cnt_set (v := z72) hp
  rw [hu, show z72.f0.f0 = false from rfl] at h1
  have h2 := h.num
  have h3 := h.most
  simp at h1
  refine ⟨⟨?_, h.hb, hs.dis, hs.gap, ?_, by omega, h.one, h.two, hs.zer⟩, ?_⟩
  · have := hs.len; rw [List.length_set] at this; exact this.trans h.len
  · have := hs.num
    unfold dropP
    rw [this]
    omega
  · intro k v
    refine (hs.has k v).trans ?_
    constructor
    · rintro ⟨i, hi, a1, a2, a3⟩
      rw [List.length_set] at hi
      rw [us_set hp] at a1
      rw [ky_set hp] at a2
      rw [vl_set hp] at a3
      by_cases c : i = p
      · rw [if_pos c] at a1; simp [z72, z59] at a1
      · rw [if_neg c] at a1 a2 a3
        exact ⟨⟨i, hi, a1, a2, a3⟩, fun e => c (h.dis i p hi hp a1 hu (a2.trans e))⟩
    · rintro ⟨⟨i, hi, a1, a2, a3⟩, hne⟩
      have c : i ≠ p := fun e => hne (by rw [← a2, e])
      exact ⟨i, by simpa using hi, by rw [us_set hp, if_neg c]; exact a1, by rw [ky_set hp, if_neg c]; exact a2, by rw [vl_set hp, if_neg c]; exact a3⟩
end Go.Proofs.Ytmcaoecmjibegaa.PIx
