/- Which places are used hangs on the keys alone. -/
import Derived.Test.YtmcaoecmjibegaaIxH
namespace Go.Proofs.Ytmcaoecmjibegaa.PIx
set_option linter.unusedVariables false
set_option linter.unusedSimpArgs false

/-- The keys of a table, place by place. -/
def keysOf (pl : List S72) : List Int := (pl.filter (·.f0.f0)).map (·.f0.f1)

theorem keysOf_mem {pl : List S72} (k : Int) : k ∈ keysOf pl ↔ ∃ i, i < pl.length ∧ us pl i = true ∧ ky pl i = k := by
  unfold keysOf
  rw [List.mem_map]
  constructor
  · rintro ⟨s, hs, rfl⟩
    obtain ⟨h1, h2⟩ := List.mem_filter.mp hs
    obtain ⟨i, hi, rfl⟩ := List.mem_iff_getElem.mp h1
    refine ⟨i, hi, by rw [us_get hi]; exact h2, ?_⟩
    unfold ky pa
    rw [List.getD_eq_getElem?_getD, List.getElem?_eq_getElem hi]
    rfl
  · rintro ⟨i, hi, hu, rfl⟩
    refine ⟨pl[i], List.mem_filter.mpr ⟨List.getElem_mem hi, by rw [← us_get hi]; exact hu⟩, ?_⟩
    unfold ky pa
    rw [List.getD_eq_getElem?_getD, List.getElem?_eq_getElem hi]
    rfl

theorem pl_range (pl : List S72) : pl = (List.range pl.length).map (pa pl) := by
  apply List.ext_getElem
  · simp
  · intro i h1 h2
    rw [List.getElem_map, List.getElem_range]
    unfold pa
    rw [List.getD_eq_getElem?_getD, List.getElem?_eq_getElem h1]
    rfl

theorem keysOf_range (pl : List S72) : keysOf pl = ((List.range pl.length).filter (us pl)).map (ky pl) := by
  unfold keysOf
  conv => lhs; rw [pl_range pl]
  rw [List.filter_map, List.map_map]
  rfl

theorem keysOf_nodup {pl : List S72} (hd : ∀ i j, i < pl.length → j < pl.length → us pl i = true → us pl j = true → ky pl i = ky pl j → i = j) : (keysOf pl).Nodup := by
  rw [keysOf_range]
  unfold List.Nodup
  rw [List.pairwise_map]
  have h1 : ((List.range pl.length).filter (us pl)).Pairwise (· ≠ ·) := List.Pairwise.filter _ List.nodup_range
  refine List.Pairwise.imp_of_mem ?_ h1
  intro a b ha hb hne e
  obtain ⟨a1, a2⟩ := List.mem_filter.mp ha
  obtain ⟨b1, b2⟩ := List.mem_filter.mp hb
  exact hne (hd a b (List.mem_range.mp a1) (List.mem_range.mp b1) a2 b2 e)

theorem keysOf_perm {pl pl' : List S72} (hd : (keysOf pl).Nodup) (hd' : (keysOf pl').Nodup) (h : ∀ k, k ∈ keysOf pl ↔ k ∈ keysOf pl') : (keysOf pl).Perm (keysOf pl') :=
  (List.perm_ext_iff_of_nodup hd hd').mpr (fun k => h k)

theorem rot_perm {n a : Nat} (ha : a < n) : ((List.range n).map (fun e => (a + e) % n)).Perm (List.range n) := by
  refine (List.perm_ext_iff_of_nodup ?_ List.nodup_range).mpr (fun i => ?_)
  · unfold List.Nodup
    rw [List.pairwise_map]
    refine List.Pairwise.imp_of_mem ?_ List.nodup_range
    intro x y hx hy hne e
    have h1 := dist_md ha (List.mem_range.mp hx)
    have h2 := dist_md ha (List.mem_range.mp hy)
    rw [e, h2] at h1
    exact hne h1.symm
  · rw [List.mem_map]
    constructor
    · rintro ⟨e, _, rfl⟩
      exact List.mem_range.mpr (Nat.mod_lt _ (by omega))
    · intro hi
      have hi := List.mem_range.mp hi
      exact ⟨dist n a i, List.mem_range.mpr (dist_lt ha hi), md_dist ha hi⟩

/-- How many keys have their home within d behind a. -/
def cH (bits n : Nat) (l : List Int) (a d : Nat) : Nat := l.countP (fun k => decide (dist n a (homeN bits k) ≤ d))

theorem cH_offsets {bits : Nat} {pl : List S72} {a d : Nat} (ha : a < pl.length) :
    cH bits pl.length (keysOf pl) a d = (List.range pl.length).countP (fun e => us pl ((a + e) % pl.length) && decide (dist pl.length a (homeN bits (ky pl ((a + e) % pl.length))) ≤ d)) := by
  unfold cH
  rw [keysOf_range, List.countP_map, List.countP_filter]
  rw [← (rot_perm ha).countP_eq, List.countP_map]
  congr 1
  funext e
  simp only [Function.comp]
  rw [Bool.and_comm]

theorem count_lt (n d : Nat) (h : d ≤ n) : (List.range n).countP (fun e => decide (e < d)) = d := by
  induction n generalizing d with
  | zero => simp; omega
  | succ n ih =>
    rw [List.range_succ, List.countP_append]
    by_cases c : d ≤ n
    · rw [ih d c]
      simp
      omega
    · have : d = n + 1 := by omega
      subst this
      have h1 : (List.range n).countP (fun e => decide (e < n + 1)) = (List.range n).countP (fun e => decide (e < n)) := List.countP_congr (fun x hx => by have := List.mem_range.mp hx; simp; omega)
      rw [h1, ih n (Nat.le_refl _)]
      simp

theorem free_le {bits : Nat} {pl : List S72} (w : WF bits pl) {a d : Nat} (ha : a < pl.length) (hd : d < pl.length) (hf : us pl ((a + d) % pl.length) = false) : cH bits pl.length (keysOf pl) a d ≤ d := by
  rw [cH_offsets ha]
  refine Nat.le_trans (List.countP_mono_left (q := fun e => decide (e < d)) fun e he hq => ?_) (Nat.le_of_eq (count_lt pl.length d (by omega)))
  have hen := List.mem_range.mp he
  simp only [Bool.and_eq_true, decide_eq_true_eq] at hq ⊢
  obtain ⟨hu, ho⟩ := hq
  rcases Nat.lt_trichotomy e d with c | c | c
  · exact c
  · rw [c, hf] at hu; simp at hu
  · exfalso
    have hi : (a + e) % pl.length < pl.length := Nat.mod_lt _ (by omega)
    have hh := w.home (ky pl ((a + e) % pl.length))
    have hD := dist_off ha hh hi
    rw [dist_md ha hen, if_pos (by omega)] at hD
    have hg := w.gap _ hi hu (d - dist pl.length a (homeN bits (ky pl ((a + e) % pl.length)))) (by rw [hD]; omega)
    have ho2 := off_md (e := d - dist pl.length a (homeN bits (ky pl ((a + e) % pl.length)))) ha hh (by omega)
    rw [if_pos (by omega)] at ho2
    have := off_inj ha (Nat.mod_lt _ (by omega)) (Nat.mod_lt _ (by omega) : (a + d) % pl.length < pl.length) (ho2.trans (by rw [dist_md ha hd]; omega))
    rw [this, hf] at hg
    simp at hg

theorem used_ge {bits : Nat} {pl : List S72} (w : WF bits pl) {p : Nat} (hp : p < pl.length) (hu : us pl p = true) : ∃ a d, a < pl.length ∧ d < pl.length ∧ (a + d) % pl.length = p ∧ d + 1 ≤ cH bits pl.length (keysOf pl) a d := by
  obtain ⟨u, hul, huf⟩ := w.free
  obtain ⟨D, hDD⟩ : ∃ D, D = dist pl.length u p := ⟨_, rfl⟩
  have hDl : D < pl.length := by rw [hDD]; exact dist_lt hul hp
  have hDp : (u + D) % pl.length = p := by rw [hDD]; exact md_dist hul hp
  obtain ⟨m, hm1, ⟨hm2, hm3⟩, hm4⟩ := least (P := fun m => m ≤ D ∧ us pl ((u + (D - m)) % pl.length) = false) D ⟨Nat.le_refl _, by rw [Nat.sub_self, Nat.add_zero, Nat.mod_eq_of_lt hul]; exact huf⟩
  have hm0 : m ≠ 0 := fun e => by rw [e, Nat.sub_zero, hDp, hu] at hm3; simp at hm3
  have hn : 0 < pl.length := by omega
  have hrun : ∀ e, e < m → us pl ((u + (D - m) + 1 + e) % pl.length) = true := by
    intro e he
    have h1 := hm4 (m - 1 - e) (by omega)
    rw [show u + (D - m) + 1 + e = u + (D - (m - 1 - e)) by omega]
    cases c : us pl ((u + (D - (m - 1 - e))) % pl.length) with
    | true => rfl
    | false => exact absurd ⟨by omega, c⟩ h1
  have hal : (u + (D - m) + 1) % pl.length < pl.length := Nat.mod_lt _ hn
  have hf0 : ((u + (D - m) + 1) % pl.length + (pl.length - 1)) % pl.length = (u + (D - m)) % pl.length := by
    rw [Nat.mod_add_mod, show u + (D - m) + 1 + (pl.length - 1) = u + (D - m) + pl.length by omega, Nat.add_mod_right]
  refine ⟨(u + (D - m) + 1) % pl.length, m - 1, hal, by omega, ?_, ?_⟩
  · rw [Nat.mod_add_mod, show u + (D - m) + 1 + (m - 1) = u + D by omega, hDp]
  · obtain ⟨a, haa⟩ : ∃ a, a = (u + (D - m) + 1) % pl.length := ⟨_, rfl⟩
    rw [← haa] at hal hf0 ⊢
    have hrun2 : ∀ e, e < m → us pl ((a + e) % pl.length) = true := by
      intro e he
      rw [haa, Nat.mod_add_mod]
      exact hrun e he
    rw [cH_offsets hal, show m - 1 + 1 = m by omega]
    refine Nat.le_trans (Nat.le_of_eq (count_lt pl.length m (by omega)).symm) (List.countP_mono_left fun e he hq => ?_)
    have hem : e < m := by simpa using hq
    have hen : e < pl.length := by omega
    have hi : (a + e) % pl.length < pl.length := Nat.mod_lt _ hn
    have hh := w.home (ky pl ((a + e) % pl.length))
    simp only [Bool.and_eq_true, decide_eq_true_eq]
    refine ⟨hrun2 e hem, ?_⟩
    rcases Nat.lt_or_ge (m - 1) (dist pl.length a (homeN bits (ky pl ((a + e) % pl.length)))) with c | c
    · exfalso
      have hol := dist_lt hal hh
      have hD2 := dist_off hal hh hi
      rw [dist_md hal hen, if_neg (by omega)] at hD2
      have hg := w.gap _ hi (hrun2 e hem) (pl.length - 1 - dist pl.length a (homeN bits (ky pl ((a + e) % pl.length)))) (by rw [hD2]; omega)
      have ho2 := off_md (e := pl.length - 1 - dist pl.length a (homeN bits (ky pl ((a + e) % pl.length)))) hal hh (by omega)
      rw [if_pos (by omega)] at ho2
      have := off_inj hal (Nat.mod_lt _ hn) (Nat.mod_lt _ hn : (a + (pl.length - 1)) % pl.length < pl.length) (ho2.trans (by rw [dist_md hal (by omega)]; omega))
      rw [this, hf0, hm3] at hg
      simp at hg
    · exact c

/-- Two tables of the same keys use the same places. -/
theorem used_same {bits : Nat} {pl pl' : List S72} (w : WF bits pl) (w' : WF bits pl') (hk : ∀ k, (∃ v, Has pl k v) ↔ (∃ v, Has pl' k v)) (p : Nat) (hp : p < pl.length) : us pl p = us pl' p := by
  have hlen : pl'.length = pl.length := by rw [w.len, w'.len]
  have hm : ∀ (q : List S72) k, k ∈ keysOf q ↔ ∃ v, Has q k v := by
    intro q k
    rw [keysOf_mem]
    constructor
    · rintro ⟨i, h1, h2, h3⟩; exact ⟨vl q i, i, h1, h2, h3, rfl⟩
    · rintro ⟨v, i, h1, h2, h3, _⟩; exact ⟨i, h1, h2, h3⟩
  have hperm := keysOf_perm (keysOf_nodup w.dis) (keysOf_nodup w'.dis) (fun k => (hm pl k).trans ((hk k).trans (hm pl' k).symm))
  have hc : ∀ a d, cH bits pl.length (keysOf pl) a d = cH bits pl.length (keysOf pl') a d := fun a d => hperm.countP_eq _
  cases h1 : us pl p with
  | true =>
    cases h2 : us pl' p with
    | true => rfl
    | false =>
      obtain ⟨a, d, ha, hd, hpd, hge⟩ := used_ge w hp h1
      have := free_le w' (a := a) (d := d) (by omega) (by omega) (by rw [hlen, hpd]; exact h2)
      rw [hlen, ← hc] at this
      omega
  | false =>
    cases h2 : us pl' p with
    | false => rfl
    | true =>
      obtain ⟨a, d, ha, hd, hpd, hge⟩ := used_ge w' (by omega : p < pl'.length) h2
      rw [hlen] at ha hd hpd hge
      have := free_le w (a := a) (d := d) ha hd (by rw [hpd]; exact h1)
      rw [hc] at this
      omega
end Go.Proofs.Ytmcaoecmjibegaa.PIx
