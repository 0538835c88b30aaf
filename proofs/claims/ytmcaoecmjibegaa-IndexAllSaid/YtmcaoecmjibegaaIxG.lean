/- The table's pure laws: the look for a key, put, drop. -/
import Derived.Test.YtmcaoecmjibegaaIxF
namespace Go.Proofs.Ytmcaoecmjibegaa.PIx
set_option linter.unusedVariables false
set_option linter.unusedSimpArgs false

def us (pl : List S72) (i : Nat) : Bool := (pa pl i).f0.f0
def ky (pl : List S72) (i : Nat) : Int := (pa pl i).f0.f1
def vl (pl : List S72) (i : Nat) : Int := (pa pl i).f1

theorem pa_set {pl : List S72} {i j : Nat} {v : S72} (hi : i < pl.length) : pa (pl.set i v) j = if j = i then v else pa pl j := by
  unfold pa
  simp only [List.getD_eq_getElem?_getD]
  by_cases h : j = i
  · subst h
    rw [List.getElem?_set_self hi, if_pos rfl]
    rfl
  · rw [List.getElem?_set_ne (fun e => h e.symm), if_neg h]

theorem md {n a e : Nat} (ha : a < n) (he : e < n) : (a + e) % n = if a + e < n then a + e else a + e - n := by
  split
  · rename_i h
    exact Nat.mod_eq_of_lt h
  · rename_i h
    rw [Nat.mod_eq_sub_mod (by omega), Nat.mod_eq_of_lt (by omega)]
theorem dist_eq {n a b : Nat} (ha : a < n) (hb : b < n) : dist n a b = if a ≤ b then b - a else b + n - a := by
  unfold dist
  split
  · rename_i h
    rw [show b + n - a = (b - a) + n by omega, Nat.add_mod_right, Nat.mod_eq_of_lt (by omega)]
  · rename_i h
    exact Nat.mod_eq_of_lt (by omega)
theorem dist_lt {n a b : Nat} (ha : a < n) (hb : b < n) : dist n a b < n := by rw [dist_eq ha hb]; split <;> omega
theorem md_dist {n a b : Nat} (ha : a < n) (hb : b < n) : (a + dist n a b) % n = b := by
  rw [md ha (dist_lt ha hb), dist_eq ha hb]; split <;> split <;> omega
theorem dist_md {n a e : Nat} (ha : a < n) (he : e < n) : dist n a ((a + e) % n) = e := by
  rw [dist_eq ha (Nat.mod_lt _ (by omega)), md ha he]; split <;> split <;> omega

theorem least {P : Nat → Prop} : ∀ d, P d → ∃ m, m ≤ d ∧ P m ∧ ∀ e, e < m → ¬ P e := by
  intro d
  induction d using Nat.strongRecOn with
  | ind d ih =>
    intro h
    by_cases c : ∃ e, e < d ∧ P e
    · obtain ⟨e, he, hp⟩ := c
      obtain ⟨m, h1, h2⟩ := ih e he hp
      exact ⟨m, by omega, h2⟩
    · exact ⟨d, Nat.le_refl _, h, fun e he hp => c ⟨e, he, hp⟩⟩

/-- The table is one without gaps, each key once. -/
structure WF (bits : Nat) (pl : List S72) : Prop where
  len : pl.length = 2 ^ bits
  hb : bits ≤ 17
  dis : ∀ i j, i < pl.length → j < pl.length → us pl i = true → us pl j = true → ky pl i = ky pl j → i = j
  gap : ∀ i, i < pl.length → us pl i = true → ∀ e, e < dist pl.length (homeN bits (ky pl i)) i → us pl ((homeN bits (ky pl i) + e) % pl.length) = true
  free : ∃ u, u < pl.length ∧ us pl u = false

theorem WF.home {bits : Nat} {pl : List S72} (h : WF bits pl) (key : Int) : homeN bits key < pl.length := by
  rw [h.len]; exact homeN_lt bits key (by have := h.hb; omega)

/-- Where the look for a key ends. -/
def Ends (bits : Nat) (pl : List S72) (key : Int) (p : Nat) : Prop :=
  p < pl.length ∧ Stops pl key p ∧ ∀ e, e < dist pl.length (homeN bits key) p → ¬ Stops pl key ((homeN bits key + e) % pl.length)

theorem WF.ends {bits : Nat} {pl : List S72} (h : WF bits pl) (key : Int) : ∃ p, Ends bits pl key p := by
  obtain ⟨u, hu, hf⟩ := h.free
  have hh := h.home key
  obtain ⟨m, h1, h2, h3⟩ := least (P := fun d => Stops pl key ((homeN bits key + d) % pl.length)) (dist pl.length (homeN bits key) u) (.inl (by rw [md_dist hh hu]; exact hf))
  have hm : m < pl.length := Nat.lt_of_le_of_lt h1 (dist_lt hh hu)
  refine ⟨(homeN bits key + m) % pl.length, Nat.mod_lt _ (by omega), h2, ?_⟩
  rw [dist_md hh hm]
  exact h3

theorem WF.ends_at {bits : Nat} {pl : List S72} (h : WF bits pl) {i : Nat} (hi : i < pl.length) (hu : us pl i = true) : Ends bits pl (ky pl i) i := by
  refine ⟨hi, .inr rfl, fun e he hs => ?_⟩
  have hh := h.home (ky pl i)
  have hl := dist_lt hh hi
  rcases hs with hs | hs
  · have := h.gap i hi hu e he
    unfold us at this
    rw [this] at hs
    simp at hs
  · have h1 := h.dis _ i (Nat.mod_lt _ (by omega)) hi (h.gap i hi hu e he) hu hs
    have h2 : dist pl.length (homeN bits (ky pl i)) ((homeN bits (ky pl i) + e) % pl.length) = e := dist_md hh (by omega)
    rw [h1] at h2
    omega

theorem Ends.uniq {bits : Nat} {pl : List S72} {key : Int} {p q : Nat} (hh : homeN bits key < pl.length) (h : Ends bits pl key p) (k : Ends bits pl key q) : p = q := by
  obtain ⟨p1, p2, p3⟩ := h
  obtain ⟨q1, q2, q3⟩ := k
  rcases Nat.lt_trichotomy (dist pl.length (homeN bits key) p) (dist pl.length (homeN bits key) q) with c | c | c
  · exact absurd (by rw [md_dist hh p1]; exact p2) (q3 _ c)
  · rw [← md_dist hh p1, ← md_dist hh q1, c]
  · exact absurd (by rw [md_dist hh q1]; exact q2) (p3 _ c)

/-- The table holds a key with a value. -/
def Has (pl : List S72) (k v : Int) : Prop := ∃ i, i < pl.length ∧ us pl i = true ∧ ky pl i = k ∧ vl pl i = v

theorem Ends.used {bits : Nat} {pl : List S72} {key : Int} {p : Nat} (h : Ends bits pl key p) (hu : us pl p = true) : ky pl p = key := by
  rcases h.2.1 with c | c
  · unfold us at hu
    rw [hu] at c
    simp at c
  · exact c

theorem Ends.has {bits : Nat} {pl : List S72} {key : Int} {p : Nat} (hw : WF bits pl) (h : Ends bits pl key p) (v : Int) : Has pl key v ↔ us pl p = true ∧ vl pl p = v := by
  constructor
  · rintro ⟨i, hi, hu, rfl, rfl⟩
    have := (hw.ends_at hi hu).uniq (hw.home _) h
    subst this
    exact ⟨hu, rfl⟩
  · rintro ⟨hu, rfl⟩
    exact ⟨p, h.1, hu, h.used hu, rfl⟩

def cnt (pl : List S72) : Nat := pl.countP (fun s => s.f0.f0)

/-- What an index keeps. -/
structure Fit (room keys : Int) (bits : Nat) (pl : List S72) : Prop where
  len : pl.length = 2 ^ bits
  hb : bits ≤ 17
  dis : ∀ i j, i < pl.length → j < pl.length → us pl i = true → us pl j = true → ky pl i = ky pl j → i = j
  gap : ∀ i, i < pl.length → us pl i = true → ∀ e, e < dist pl.length (homeN bits (ky pl i)) i → us pl ((homeN bits (ky pl i) + e) % pl.length) = true
  num : keys = (cnt pl : Int)
  most : keys ≤ room
  one : 1 ≤ room
  two : 2 * room ≤ ((2 ^ bits : Nat) : Int)
  zer : ∀ i, us pl i = false → vl pl i = 0

theorem us_get {pl : List S72} {i : Nat} (h : i < pl.length) : us pl i = (pl[i]).f0.f0 := by
  unfold us pa
  simp only [List.getD_eq_getElem?_getD, List.getElem?_eq_getElem h, Option.getD_some]
theorem us_out {pl : List S72} {i : Nat} (h : pl.length ≤ i) : us pl i = false := by
  unfold us pa
  simp only [List.getD_eq_getElem?_getD, List.getElem?_eq_none h, Option.getD_none]
  rfl

theorem Fit.free {room keys : Int} {bits : Nat} {pl : List S72} (h : Fit room keys bits pl) : ∃ u, u < pl.length ∧ us pl u = false := by
  apply Classical.byContradiction
  intro hn
  have h1 : cnt pl = pl.length := by
    unfold cnt
    rw [List.countP_eq_length]
    intro a ha
    obtain ⟨i, hi, rfl⟩ := List.mem_iff_getElem.mp ha
    have h2 := us_get hi
    cases c : us pl i with
    | true => rw [← h2, c]
    | false => exact absurd ⟨i, hi, c⟩ hn
  have h2 := h.num
  have h3 := h.most
  have h4 := h.two
  have h5 := h.one
  have h6 := h.len
  rw [h1, h6] at h2
  omega
theorem Fit.wf {room keys : Int} {bits : Nat} {pl : List S72} (h : Fit room keys bits pl) : WF bits pl := ⟨h.len, h.hb, h.dis, h.gap, h.free⟩

theorem cnt_set {pl : List S72} {i : Nat} {v : S72} (hi : i < pl.length) : cnt (pl.set i v) + (if us pl i = true then 1 else 0) = cnt pl + (if v.f0.f0 = true then 1 else 0) := by
  unfold cnt
  rw [List.countP_set hi]
  rw [← us_get hi]
  by_cases c : us pl i = true
  · have : 0 < pl.countP (fun s => s.f0.f0) := List.countP_pos_iff.mpr ⟨pl[i], List.getElem_mem hi, by rw [← us_get hi]; exact c⟩
    simp only [if_pos c]
    omega
  · simp only [if_neg c]
    omega

theorem us_set {pl : List S72} {i j : Nat} {v : S72} (hi : i < pl.length) : us (pl.set i v) j = if j = i then v.f0.f0 else us pl j := by
  unfold us; rw [pa_set hi]; split <;> rfl
theorem ky_set {pl : List S72} {i j : Nat} {v : S72} (hi : i < pl.length) : ky (pl.set i v) j = if j = i then v.f0.f1 else ky pl j := by
  unfold ky; rw [pa_set hi]; split <;> rfl
theorem vl_set {pl : List S72} {i j : Nat} {v : S72} (hi : i < pl.length) : vl (pl.set i v) j = if j = i then v.f1 else vl pl j := by
  unfold vl; rw [pa_set hi]; split <;> rfl

theorem fit_zero (room : Int) (bits : Nat) (h1 : 1 ≤ room) (h : Least room bits) : Fit room 0 bits (List.replicate (2 ^ bits) z72) := by
  have hz : ∀ i, us (List.replicate (2 ^ bits) z72) i = false := by
    intro i
    by_cases c : i < (List.replicate (2 ^ bits) z72).length
    · rw [us_get c, List.getElem_replicate]; rfl
    · exact us_out (by omega)
  refine ⟨by simp, h.2.1, fun i j _ _ hu => ?_, fun i _ hu => ?_, ?_, by omega, h1, h.1, fun i _ => ?_⟩
  · rw [hz] at hu; simp at hu
  · rw [hz] at hu; simp at hu
  · unfold cnt
    rw [List.countP_replicate]
    simp [z72, z59]
  · unfold vl pa
    rw [List.getD_eq_getElem?_getD]
    cases c : (List.replicate (2 ^ bits) z72)[i]? with
    | none => rfl
    | some x =>
      rw [List.getElem?_replicate] at c
      split at c
      · injection c with c; rw [← c]; rfl
      · cases c

theorem has_zero (m : Nat) (k v : Int) : ¬ Has (List.replicate m z72) k v := by
  rintro ⟨i, hi, hu, _⟩
  rw [us_get hi, List.getElem_replicate] at hu
  simp [z72, z59] at hu

/-- A key that is not there, put. -/
theorem Fit.put {room keys : Int} {bits : Nat} {pl : List S72} (h : Fit room keys bits pl) {key v : Int} {p : Nat} (he : Ends bits pl key p) (hu : us pl p = false) (hk : keys < room) :
    Fit room (keys + 1) bits (pl.set p ⟨⟨true, key⟩, v⟩) := by
  have hp := he.1
  have hl : (pl.set p ⟨⟨true, key⟩, v⟩).length = pl.length := by simp
  have hno : ∀ i, i < pl.length → us pl i = true → ky pl i ≠ key := by
    intro i hi hui hki
    have h1 := (he.has h.wf (vl pl i)).mp ⟨i, hi, hui, hki, rfl⟩
    rw [hu] at h1
    simp at h1
  refine ⟨by rw [hl]; exact h.len, h.hb, ?_, ?_, ?_, by omega, h.one, h.two, fun i hi => by
    rw [us_set hp] at hi
    rw [vl_set hp]
    by_cases c : i = p
    · rw [if_pos c] at hi; simp at hi
    · rw [if_neg c] at hi ⊢; exact h.zer i hi⟩
  · intro i j hi hj hui huj hk
    rw [hl] at hi hj
    rw [us_set hp] at hui huj
    rw [ky_set hp, ky_set hp] at hk
    by_cases c1 : i = p <;> by_cases c2 : j = p
    · omega
    · rw [if_pos c1, if_neg c2] at hk
      rw [if_neg c2] at huj
      exact absurd hk.symm (hno j hj huj)
    · rw [if_neg c1, if_pos c2] at hk
      rw [if_neg c1] at hui
      exact absurd hk (hno i hi hui)
    · rw [if_neg c1, if_neg c2] at hk
      rw [if_neg c1] at hui
      rw [if_neg c2] at huj
      exact h.dis i j hi hj hui huj hk
  · intro i hi hui e hee
    rw [hl] at hi hee ⊢
    rw [us_set hp] at hui
    rw [ky_set hp] at hee ⊢
    by_cases c1 : i = p
    · rw [if_pos c1] at hee ⊢
      rw [c1] at hee
      rw [us_set hp]
      split
      · rfl
      · have h1 := he.2.2 e hee
        cases c2 : us pl ((homeN bits key + e) % pl.length) with
        | true => rfl
        | false => exact absurd (.inl c2) h1
    · rw [if_neg c1] at hee hui ⊢
      rw [us_set hp]
      split
      · rfl
      · exact h.gap i hi hui e hee
  · have h1 := cnt_set (v := ⟨⟨true, key⟩, v⟩) hp
    rw [hu] at h1
    have h2 := h.num
    simp at h1
    omega

theorem has_put {room keys : Int} {bits : Nat} {pl : List S72} (h : Fit room keys bits pl) {key v : Int} {p : Nat} (he : Ends bits pl key p) (hu : us pl p = false) (k x : Int) :
    Has (pl.set p ⟨⟨true, key⟩, v⟩) k x ↔ Has pl k x ∨ (k = key ∧ x = v) := by
  have hp := he.1
  constructor
  · rintro ⟨i, hi, h1, h2, h3⟩
    rw [us_set hp] at h1
    rw [ky_set hp] at h2
    rw [vl_set hp] at h3
    by_cases c : i = p
    · rw [if_pos c] at h2 h3
      exact .inr ⟨h2.symm, h3.symm⟩
    · rw [if_neg c] at h1 h2 h3
      exact .inl ⟨i, by simpa using hi, h1, h2, h3⟩
  · rintro (⟨i, hi, h1, h2, h3⟩ | ⟨rfl, rfl⟩)
    · have c : i ≠ p := fun c => by rw [c, hu] at h1; simp at h1
      refine ⟨i, by simpa using hi, ?_, ?_, ?_⟩
      · rw [us_set hp, if_neg c]; exact h1
      · rw [ky_set hp, if_neg c]; exact h2
      · rw [vl_set hp, if_neg c]; exact h3
    · refine ⟨p, by simpa using hp, ?_, ?_, ?_⟩
      · rw [us_set hp, if_pos rfl]
      · rw [ky_set hp, if_pos rfl]
      · rw [vl_set hp, if_pos rfl]
end Go.Proofs.Ytmcaoecmjibegaa.PIx
