/- Lists of whole numbers of the call's own; the set of a list. -/
import Derived.Test.YtgcelkndgjjbdaaDoorBmG
import Derived.BigRegion
import Derived.Deep.RegionLaw
namespace Go.Proofs.YtgcelkndgjjbdaaDoor.PBm
open Go.RowKit Go.Proofs.YtgcelkndgjjbdaaDoorW.PrintWords Go.Proofs.YtgcelkndgjjbdaaDoorW.PrintLast Go.Proofs.YtgcelkndgjjbdaaDoorW.PrintMore
set_option linter.unusedVariables false
set_option linter.unusedSimpArgs false

abbrev kI : Kd Int := Kd.int .i64
theorem kI_E : kI.E = [] := rfl
theorem infoI : (Tryd.prog.info? 3).map (fun i => (i.zero, i.size, i.bytes)) = some (some (.int .i64 0), kI.sz, 8) := by kernel_rfl

def Li (w : World) (base : Nat) (v : Value) (L : List Int) : Prop := kI.R 3 w base (fun k => v.ownBlock = some k) v L

namespace Li
variable {w w' : World} {base : Nat} {v : Value} {L : List Int}
theorem tight {ok : Nat → Prop} (h : kI.R 3 w base ok v L) : Li w base v L := Kd.R_mono (Kd.R_tight kI_E h) (fun k hk => hk.symm)
theorem form (h : Li w base v L) : ∃ A c, v = .slice A L.length c := Kd.R_slice h
theorem keep (h : Li w base v L) (hk : ∀ k, v.ownBlock = some k → base ≤ k → k < w.heap.size → w'.heap[k]? = w.heap[k]?) : Li w' base v L :=
  Kd.R_move h (fun k hv => hk k hv (Kd.R_base h k hv) (Kd.R_lt h k hv))
theorem fr {X : Nat → Prop} (h : Li w base v L) (k : Fr X w w') (hX : ∀ i, X i → v.ownBlock ≠ some i) : Li w' base v L :=
  h.keep (fun i hv _ hl => k.block i hl (fun hs => hX i hs hv))
theorem below (h : Li w base v L) (k : Below w.heap.size w w') : Li w' base v L := h.keep (fun i _ _ hl => k.block i hl)
theorem ne (h : Li w base v L) {g : Nat} {S : St} (hb : Bm w g S) : v.ownBlock ≠ some g := fun e => Kd.R_ne h hb (by decide) e.symm
theorem at_ (h : Li w base v L) (i : Nat) (hi : i < L.length) : ∃ c cap, v = .slice (some ⟨c, 0, none⟩) L.length cap ∧ w.cell? ⟨c, i, none⟩ = some (.int .i64 (L.getD i 0)) := by
  obtain ⟨c, cap, rfl, h0, h1, _⟩ := Kd.R_form h (by omega)
  obtain ⟨cs, hl, hM, hc, hf⟩ := Kd.R_elem h (0 : Int) (i : Int) (by omega) (by omega)
  have hcs : cs = [.int .i64 (L.getD i 0)] := hM
  subst hcs
  simp only [Int.toNat_natCast] at hc
  have := hc 0 _ rfl
  have e : i * kI.sz + 0 = i := by show i * 1 + 0 = i; omega
  rw [e] at this
  exact ⟨c, cap, rfl, this⟩
/-- A part of the list, as a slice. -/
theorem part (h : Li w base v L) {c cap : Nat} (hv : v = .slice (some ⟨c, 0, none⟩) L.length cap) (a n : Nat) (han : a + n ≤ L.length) (hn : n ≤ 9223372036854775807) (A : Option Addr) (hA : 0 < n → A = some ⟨c, a, none⟩) :
    ReadsRow (fun (x : Int) cs => cs = [.int .i64 x]) 1 w A n ((L.drop a).take n) := by
  refine ⟨by rw [List.length_take, List.length_drop]; omega, hn, fun h0 => ⟨_, hA h0, fun j p hj => ?_⟩⟩
  have hjn : j < n := by
    rcases Nat.lt_or_ge j n with h1 | h1
    · exact h1
    · rw [List.getElem?_take, if_neg (by omega)] at hj; cases hj
  rw [List.getElem?_take, if_pos hjn, List.getElem?_drop] at hj
  obtain ⟨c', cap', hv', q0⟩ := h.at_ (a + j) (by omega)
  rw [hv] at hv'
  injection hv' with hv'
  injection hv' with hv'
  injection hv' with hv'
  subst hv'
  have hp : L.getD (a + j) 0 = p := by rw [List.getD_eq_getElem?_getD, hj]; rfl
  rw [hp] at q0
  refine ⟨_, rfl, rfl, fun i u hu => ?_⟩
  match i, hu with
  | 0, hu =>
    simp at hu
    subst hu
    rw [Addr.add_lit, show a + (j * 1 + 0) = a + j by omega]
    exact q0
theorem empty {w : World} {B : Nat} (hB : B ≤ w.heap.size) : Li (w.alloc (.cells #[] 3)) B (.slice (some ⟨w.heap.size, 0, none⟩) 0 0) [] := by
  refine ⟨fun k hk => hk, [], ?_, ?_⟩
  · have h2 := World.ownsRow_lit (base := B) (e := 3) (size := kI.sz) w #[] 0 hB (by decide) (by decide)
    simpa using h2
  · exact ⟨rfl, fun j p hj => by simp at hj⟩
theorem grown {row : Option Nat} (h : Li w base v L) (k : w.grownBy w' row) (hne : ∀ i, v.ownBlock = some i → row ≠ some i) : Li w' base v L :=
  Kd.R_move h (fun i hv => k.block i (Kd.R_lt h i hv) (fun e => hne i hv e.symm))
theorem cap {A : Option Addr} {n c : Nat} (h : Li w base (.slice A n c) L) : n ≤ c := (Kd.R_reads' h).2.1

/-- append of a part, as a step of a region that draws. -/
theorem append_step {ops : Array Oper} {o : Oper} {a : Act} {Q : Exit → Act → World → Prop} {Kc : Act → World → Prop} {Wx : World} {B : Nat} {v : Value} {xs ys : List Int} {A : Option Addr} {m c : Nat}
    (hw : Region.wanted o (yielded ops a.tmps) = true) (s x : Operand) (ho : o.op = .call { callee := .builtin .append, args := #[s, x], argTypes := #[22, 22] }) (hs : a.eval s = v) (hx : a.eval x = .slice A m c)
    (HO : Li Wx B v xs) (HR : ReadsRow (fun (x : Int) cs => cs = [.int .i64 x]) 1 Wx A m ys) (hbase : B ≤ Wx.heap.size) (hl : xs.length + m ≤ 17592186044416)
    (h : ∀ v1 w1, Li w1 B v1 (xs ++ ys) → Below B Wx w1 → Wx.grownBy w1 v.ownBlock → (v1.ownBlock = v.ownBlock ∨ ∃ b, v1.ownBlock = some b ∧ Wx.heap.size ≤ b) → Kc (a.put o.dst v1) w1) :
    if Region.wanted o (yielded ops a.tmps) = true then Oper.wp Tryd.prog o a Wx Kc Q else Kc (a.put o.dst undef) Wx := by
  refine Kd.R_append_rows_step kI (w0 := Wx) B hw s x 22 3 _ 8 ho Tryd.underlying22 infoI rfl (by decide) (by decide) v xs ys A m c (fun k => B ≤ k) (fun _ => False) hs hx
    (Kd.R_mono HO (fun k hk => Kd.R_base HO k hk)) HR (fun y cs hy => hy) (fun _ hk => hk.elim) (fun k hk => by omega) (Below.refl _ _) hbase (by omega) ?_
  intro v1 w1 h1 h2 h3 h4
  exact h v1 w1 (tight h1) h2 h3 h4
/-- append of a part, in a plain region. -/
theorem append_any {ops : Array Oper} {rest : List Oper} {o : Oper} {a : Act} {Q : Exit → Act → World → Prop} {Wx : World} {B : Nat} {v : Value} {xs ys : List Int} {A : Option Addr} {m c : Nat}
    (hgd : o.guard = none) (s x : Operand) (ho : o.op = .call { callee := .builtin .append, args := #[s, x], argTypes := #[22, 22] }) (hs : a.eval s = v) (hx : a.eval x = .slice A m c)
    (HO : Li Wx B v xs) (HR : ReadsRow (fun (x : Int) cs => cs = [.int .i64 x]) 1 Wx A m ys) (hbase : B ≤ Wx.heap.size) (hl : xs.length + m ≤ 17592186044416)
    (h : ∀ v1 w1, Li w1 B v1 (xs ++ ys) → Below B Wx w1 → Wx.grownBy w1 v.ownBlock → (v1.ownBlock = v.ownBlock ∨ ∃ b, v1.ownBlock = some b ∧ Wx.heap.size ≤ b) → wpList Tryd.prog ops Q rest (a.put o.dst v1) w1) :
    wpList Tryd.prog ops Q (o :: rest) a Wx := by
  refine Kd.R_append_rows kI (w0 := Wx) B hgd s x 22 3 _ 8 ho Tryd.underlying22 infoI rfl (by decide) (by decide) v xs ys A m c (fun k => B ≤ k) (fun _ => False) hs hx
    (Kd.R_mono HO (fun k hk => Kd.R_base HO k hk)) HR (fun y cs hy => hy) (fun _ hk => hk.elim) (fun k hk => by omega) (Below.refl _ _) hbase (by omega) ?_
  intro v1 w1 h1 h2 h3 h4
  exact h v1 w1 (tight h1) h2 h3 h4
end Li

theorem Ints.row {w : World} {A : Option Addr} {n : Nat} {f : Nat → Int} (h : Ints w A n f) (hn : n ≤ 9223372036854775807) : ReadsRow (fun (x : Int) cs => cs = [.int .i64 x]) 1 w A n ((List.range n).map f) := by
  refine ⟨by simp, hn, fun h0 => ?_⟩
  obtain ⟨ab, ao, e, _⟩ := h 0 h0
  refine ⟨_, e, fun j p hj => ?_⟩
  have hjn : j < n := by
    rcases Nat.lt_or_ge j n with h1 | h1
    · exact h1
    · rw [List.getElem?_eq_none (by simpa using h1)] at hj; cases hj
  obtain ⟨ab', ao', e', hc⟩ := h j hjn
  rw [e] at e'
  injection e' with e'
  injection e' with e1 e2
  subst e1 e2
  have hp : f j = p := by
    rw [List.getElem?_map, List.getElem?_range hjn] at hj
    simpa using hj
  rw [hp] at hc
  refine ⟨_, rfl, rfl, fun i u hu => ?_⟩
  match i, hu with
  | 0, hu =>
    simp at hu
    subst hu
    rw [Addr.add_lit, show ao + (j * 1 + 0) = ao + j by omega]
    exact hc

/-- What is left of a list, and what has been put in, are the set. -/
def Goes (S T : St) (L : List Int) : Prop := ∀ t, t < 262144 → S t = (T t || L.any fun x => x == (t : Int))

theorem put_at (T : St) (x : Int) (t : Nat) (ht : t < 262144) : put T x t = (T t || x == (t : Int)) := by
  unfold put
  by_cases h : tickB x = true
  · have h2 : 0 ≤ x ∧ x < 262144 := of_decide_eq_true h
    rw [if_pos h]
    unfold up
    by_cases e : t = x.toNat
    · have : (x == (t : Int)) = true := beq_iff_eq.mpr (by omega)
      rw [if_pos e, this]
      simp
    · have : (x == (t : Int)) = false := beq_eq_false_iff_ne.mpr (by omega)
      rw [if_neg e, this]
      simp
  · rw [if_neg h]
    have : (x == (t : Int)) = false := beq_eq_false_iff_ne.mpr (fun e => h (by unfold tickB; exact decide_eq_true (by omega)))
    rw [this]
    simp

theorem goes_start (f : Nat → Int) : ∀ n, Goes (fillN f n) E0 ((List.range n).map f)
  | 0 => fun t _ => rfl
  | n + 1 => fun t ht => by
    have ih := goes_start f n t ht
    show put (fillN f n) (f n) t = _
    rw [put_at _ _ _ ht, ih, List.range_succ, List.map_append, List.any_append]
    simp [Bool.or_assoc]

theorem goes_step {S T : St} {L : List Int} (h : Goes S T L) (k : Nat) (hk : k < L.length) : Goes S (put T (L.getD k 0)) (L.take k ++ L.drop (k + 1)) := fun t ht => by
  rw [h t ht, put_at _ _ _ ht, List.any_append]
  have e : L = L.take k ++ L[k] :: L.drop (k + 1) := by rw [← List.drop_eq_getElem_cons hk, List.take_append_drop]
  have e2 : L.getD k 0 = L[k] := by rw [List.getD_eq_getElem?_getD, List.getElem?_eq_getElem hk]; rfl
  rw [e2]
  conv => lhs; rw [e]
  rw [List.any_append, List.any_cons]
  cases T t <;> cases (L[k] == (t : Int)) <;> cases (L.take k).any fun x => x == (t : Int) <;> cases (L.drop (k + 1)).any fun x => x == (t : Int) <;> rfl

theorem goes_end {S T : St} (h : Goes S T []) (t : Nat) (ht : t < 262144) : S t = T t := by
  rw [h t ht]
  simp
end Go.Proofs.YtgcelkndgjjbdaaDoor.PBm
