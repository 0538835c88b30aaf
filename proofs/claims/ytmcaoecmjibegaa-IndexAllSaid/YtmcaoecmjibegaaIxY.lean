/- All's sorting: slices.SortFunc at a row of places. -/
import Derived.Test.YtmcaoecmjibegaaIxW
import Derived.Test.YtmcaoecmjibegaaIxX

namespace Go.Proofs.Ytmcaoecmjibegaa.PIx
open Go.RowKit Go.Proofs.YtmcaoecmjibegaaW.PrintWords Go.Proofs.YtmcaoecmjibegaaW.PrintLast Go.Proofs.YtmcaoecmjibegaaW.PrintMore
open Go.Sort Go.Shelf
set_option linter.unusedVariables false
set_option linter.unusedSimpArgs false

instance : Inhabited S72 := ⟨z72⟩
def encP (x : S72) : List Value := [.bool x.f0.f0, .int .u64 x.f0.f1, .int .i64 x.f1]

theorem ltP (x y : S72) : ltOf cf x y = decide (x.f0.f1 < y.f0.f1) := by
  unfold ltOf cf
  by_cases h : x.f0.f1 < y.f0.f1 <;> simp [h]
theorem swoP : SWO (ltOf cf) where
  irrefl x := by rw [ltP]; simp
  trans x y z h1 h2 := by rw [ltP] at *; simp at *; omega
  ntrans x y z h1 h2 := by rw [ltP] at *; simp at *; omega

theorem cmpP (blk off size : Nat) (w : World) : CmpLays Try.prog 32 #[] encP 3 cf blk off size w := by
  intro m os dk hs x y
  refine (cmp_calls x y _).mono ?_
  rintro e w' ⟨rfl, rfl⟩
  exact ⟨rfl, 0, _, by rw [alloc_eq_grow, alloc_eq_grow, grow_grow]; rfl⟩

/-- A row of places at the head of a block. -/
def At3 (W : World) (c : Nat) (l : List S72) : Prop :=
  ∀ i, i < l.length → ∀ j, j < 3 → W.cell? ⟨c, i * 3 + j, none⟩ = some (encP (pa l i))[j]! ∧ W.frozen? ⟨c, i * 3 + j, none⟩ = false
theorem At3.at_ {W : World} {c : Nat} {l : List S72} (h : At3 W c l) (i : Nat) (hi : i < l.length) :
    W.cell? ⟨c, i * 3, none⟩ = some (.bool (us l i)) ∧ W.cell? ⟨c, i * 3 + 1, none⟩ = some (.int .u64 (ky l i)) ∧ W.cell? ⟨c, i * 3 + 2, none⟩ = some (.int .i64 (vl l i)) :=
  ⟨(h i hi 0 (by decide)).1, (h i hi 1 (by decide)).1, (h i hi 2 (by decide)).1⟩
theorem At3.keep {W W' : World} {c : Nat} {l : List S72} (h : At3 W c l) (hc : W'.heap[c]? = W.heap[c]?) : At3 W' c l :=
  fun i hi j hj => ⟨(World.cell?_of_block (a := ⟨c, i * 3 + j, none⟩) hc).trans (h i hi j hj).1, (World.frozen?_of_block (a := ⟨c, i * 3 + j, none⟩) hc).trans (h i hi j hj).2⟩

theorem pa_arr (l : List S72) (i : Nat) (hi : i < l.length) : l.toArray[i]! = pa l i := by
  unfold pa
  rw [getElem!_pos _ i (by simpa using hi), List.getD_eq_getElem?_getD, List.getElem?_eq_getElem hi]
  rfl
theorem holds_of_at3 {W : World} {c : Nat} {l : List S72} (h : At3 W c l) : HoldsK encP 3 W c 0 l.toArray := by
  intro t ht
  rw [size_flatK] at ht
  rw [get_flatK _ _ _ _ ht]
  have hi : t / 3 < l.length := by simp at ht; omega
  have := h (t / 3) hi (t % 3) (Nat.mod_lt _ (by decide))
  rw [show t / 3 * 3 + t % 3 = t by omega] at this
  rw [pa_arr _ _ hi, Nat.zero_add]
  exact this
theorem at3_of_holds {W : World} {c : Nat} {d : Array S72} (h : HoldsK encP 3 W c 0 d) : At3 W c d.toList := by
  intro i hi j hj
  have := h.cell (i := i) (c := j) (by simpa using hi) hj
  rw [Nat.zero_add] at this
  have e : d[i]! = pa d.toList i := by
    have := pa_arr d.toList i hi
    simpa using this
  rw [← e]
  exact this

theorem block_grow (w : World) (os : Array Obj) (k : Nat) (hk : k < w.heap.size) : (Sort.grow w os).heap[k]? = w.heap[k]? := by
  show (w.heap ++ os)[k]? = _
  rw [Array.getElem?_append_left hk]
theorem fr_sort (w : World) (c n : Nat) (d : Array S72) (os : Array Obj) : Fr (fun k => k = c) w (sortWorldK encP 3 w c 0 n d os) := by
  have hs : (putRowK encP 3 (Sort.ahead w n) c 0 d).heap.size = w.heap.size := size_putRow _ _ _ _ _
  refine ⟨rfl, rfl, rfl, ?_, fun k hk hc => ?_⟩
  · show w.heap.size ≤ (_ ++ os).size
    rw [Array.size_append, hs]
    omega
  · refine (block_grow _ os k (by rw [hs]; exact hk)).trans ?_
    show (w.heap.modify c _)[k]? = _
    rw [Array.getElem?_modify, if_neg (fun e => hc e.symm)]

theorem sort_calls (w : World) (c cap : Nat) (l : List S72) (hc : c < w.heap.size) (h3 : At3 w c l) (hl : l.length < 4611686018427387904) :
    Calls Try.prog 31 #[.slice (some ⟨c, 0, none⟩) l.length cap, .func (.func 32) #[] #[]] w fun e w' => e = .returned (.tuple #[]) ∧ ∃ l', l'.Perm l ∧ l'.Pairwise (fun a b => a.f0.f1 ≤ b.f0.f1) ∧ At3 w' c l' ∧ Fr (fun k => k = c) w w' := by
  have hsz : l.toArray.size = l.length := by simp
  have hH := holds_of_at3 h3
  have hcon := AnyQ.slices_SortFunc Try.sortPl 3 Try.isAgg72 Try.sizeOf72 encP (fun _ => rfl) (fun x v hv => by simp [encP] at hv; rcases hv with rfl | rfl | rfl <;> rfl) cf swoP 32 #[] c 0 cap l.toArray w (enters_of Try.func32 (by kernel_rfl) rfl) (cmpP c 0 _ w) hH hc (by rw [hsz]; exact hl)
  change Calls Try.prog 31 _ _ _ at hcon
  rw [hsz] at hcon
  refine hcon.mono ?_
  rintro e w' ⟨rfl, d', n, os, hp, hs, rfl⟩
  have hd : d'.size = l.length := hp.1.trans hsz
  refine ⟨rfl, d'.toList, ?_, ?_, at3_of_holds (holdsK_sortWorldK_c encP 3 w c 0 l.toArray d' n os hH hc (by rw [hd, hsz])), fr_sort w c n d' os⟩
  · have h2 := hp.2.2
    rw [← hsz] at h2
    have e1 : d'.extract 0 l.toArray.size = d' := by rw [hsz, ← hd]; simp
    rw [e1] at h2
    simpa using h2
  · rw [List.pairwise_iff_getElem]
    intro i j hi hj hij
    have h2 := hs i j (Nat.zero_le _) hij (by simpa [hd] using hj)
    rw [ltP] at h2
    have hi' : i < d'.size := by simpa using hi
    have hj' : j < d'.size := by simpa using hj
    rw [getElem!_pos _ i hi', getElem!_pos _ j hj'] at h2
    simp only [decide_eq_false_iff_not, Int.not_lt] at h2
    simpa using h2

end Go.Proofs.Ytmcaoecmjibegaa.PIx
