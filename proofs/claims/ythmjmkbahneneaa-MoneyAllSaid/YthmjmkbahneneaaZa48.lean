/- MonRw, struck of what this claim does not name (wip/tools/pack2.py). -/
import Derived.Test.YthmjmkbahneneaaZa47
import Derived.Test.YthmjmkbahneneaaZa29
import Derived.Test.YthmjmkbahneneaaZa45
import Derived.Deep.DeepCutAuto
import Derived.Test.YthmjmkbahneneaaZa31
import Derived.Laws.Bits64
section
section
namespace Go.Proofs.Ythmjmkbahneneaa.PMon
open Go.RowKit Go.Proofs.Ythmjmkbahneneaa.PBig Go.Proofs.YthmjmkbahneneaaW.PrintWords Go.Proofs.YthmjmkbahneneaaW.PrintLast Go.Proofs.YthmjmkbahneneaaW.PrintMore
set_option linter.unusedVariables false

def Rm (w : World) (V : Value) (v : Int) : Prop := ∃ u, V = .agg #[.bool (mnM v), u] ∧ Kd.R (Kd.int .u32) 67 w 0 (fun _ => True) u (D v.natAbs)
theorem Rm.reads {w : World} {V : Value} {v : Int} (h : Rm w V v) : ∃ A c, V = .agg #[.bool (mnM v), .slice A (D v.natAbs).length c] ∧ (D v.natAbs).length ≤ c ∧ Kd.C (Kd.int .u32) w A (D v.natAbs).length (D v.natAbs) := by
  obtain ⟨u, rfl, h⟩ := h
  obtain ⟨A, c, rfl⟩ := Kd.R_slice h
  have := Kd.R_reads' h
  exact ⟨A, c, rfl, this.2.1, this.2.2⟩
theorem Rm.below {w w' : World} {V : Value} {v : Int} (h : Rm w V v) (hb : Below w.heap.size w w') : Rm w' V v := by
  obtain ⟨u, e, h⟩ := h
  exact ⟨u, e, Kd.R_below h hb⟩
theorem Rm.drewN {w : World} {V : Value} {v : Int} (h : Rm w V v) (n : Nat) : Rm (w.drewN n) V v := by
  obtain ⟨u, e, h⟩ := h
  exact ⟨u, e, Kd.R_drewN h n⟩
theorem Rm.kept {w w' : World} {F : Nat → Prop} {V : Value} {v : Int} (h : Rm w V v) (hk : Kept w w' F) (hF : ∀ k, F k → ∀ cs, w.heap[k]? ≠ some (.cells cs 67 (0, 0))) : Rm w' V v := by
  obtain ⟨u, e, h⟩ := h
  refine ⟨u, e, Kd.R_mono (Kd.R_kept (Kd.R_bound h) hk (fun k hk hf => ?_)) (fun _ _ => trivial)⟩
  obtain ⟨_, _, _, q, hq, cells, hc⟩ := hk
  have : q = 67 := by
    rcases List.mem_cons.1 hq with h | h
    · exact h
    · exact absurd h (List.not_mem_nil)
  subst this
  exact hF k hf _ hc
theorem Rm.set {w : World} {V : Value} {v : Int} (h : Rm w V v) {g t : Nat} {cs : Array Value} (hb : w.heap[g]? = some (.cells cs t (0, 0))) (ht : t ≠ 67) (j : Nat) (u : Value) : Rm (w.setCell ⟨g, j, none⟩ u) V v :=
  h.kept (F := fun k => k = g) (Kept.setCell (p := ⟨g, j, none⟩) (Kept.refl w (fun k => k = g)) (.inl rfl) u) (fun k hk cs' hc => by subst hk; rw [hb] at hc; injection hc with hc; injection hc with _ hc; exact ht hc)
theorem Rm.of_R {w : World} {u : Value} {b : Nat} {ok : Nat → Prop} {v : Int} {neg : Bool} (hn : neg = mnM v) (h : Kd.R (Kd.int .u32) 67 w b ok u (D v.natAbs)) : Rm w (.agg #[.bool neg, u]) v :=
  ⟨u, by rw [hn], Kd.R_mono (Kd.R_lower h (Nat.zero_le _)) (fun _ _ => trivial)⟩
theorem Rm.zero (w : World) : Rm w (.agg #[.bool false, .slice none 0 0]) 0 := by
  refine ⟨.slice none 0 0, rfl, ?_⟩
  show Kd.R _ _ _ _ _ _ (D 0)
  rw [D_zero]
  exact Kd.R_nil _ _ _ _ _
def RmR (w : World) (v : Int) (e : Ending) (w' : World) : Prop := ∃ X, e = .returned X ∧ Rm w' X v ∧ Below w.heap.size w w'
def RmE (w : World) (v k : Int) (e : Ending) (w' : World) : Prop := ∃ X, e = .returned (.tuple #[X, .int .i64 k]) ∧ Rm w' X v ∧ Below w.heap.size w w'

theorem rtext_any (v : Int) (hs : Small v) (V : Value) (w : World) (h : Rm w V v) : Calls Try.prog 31 #[V] w fun e w' => e = .returned (.string (bs (text v))) ∧ Below w.heap.size w w' := by
  obtain ⟨A, c, rfl, hc, hr⟩ := h.reads
  exact rtext v hs A c w hr hc

theorem pow_bound (n i : Nat) (hi : i ≤ 60) (h : n < 10 ^ i) : (D n).length ≤ 60 := by
  refine (D_len n 60).2 (Nat.lt_of_lt_of_le h ?_)
  exact Nat.le_trans (Nat.pow_le_pow_right (by decide) hi) (Nat.pow_le_pow_left (by decide) 60)
theorem bt_bs (l : List UInt8) (i : Nat) (c : UInt8) (h : l[i]? = some c) : bt (bs l) (i : Int) = (c.toNat : Int) := by
  obtain ⟨h2, h3⟩ := List.getElem?_eq_some_iff.1 h
  have hs : (i : Int).toNat < (bs l).size := by rw [bs_size]; exact h2
  rw [← bt_at (bs l) (i : Int) hs, ← h3]
  rfl
theorem text_ev (v : Int) (hs : Small v) : Ev (fun k => bourseref01_Money_Text.f k (mnM v) (D v.natAbs)) (bs (text v)) := by
  obtain ⟨t, ht⟩ : ∃ t, t = bs (dg v.natAbs :: dg (v.natAbs / 10) :: tl (v.natAbs / 10 / 10)).reverse := ⟨_, rfl⟩
  obtain ⟨m, hm⟩ : ∃ m : Int, m = (t.size : Int) - 2 := ⟨_, rfl⟩
  obtain ⟨h2, hx, e⟩ := text_cut v.natAbs hs t m ht hm
  have hd := dec_ev v.natAbs hs
  rw [← ht] at hd
  unfold bourseref01_Money_Text.f
  refine Ev.bind (f := fun (k : Nat) (t275 : ByteArray) => _) hd ?_
  have e1 : wrap64 ((t.size : Int) - 2) = m := by rw [hm]; unfold wrap64; omega
  have l1 : (t.extract 0 m.toNat).size ≤ 1000 := by rw [ByteArray.size_extract]; omega
  have l2 : (t.extract m.toNat t.size).size ≤ 1000 := by rw [ByteArray.size_extract]; omega
  refine Ev.congr (f := fun _ => some _) (fun k => ?_) (Ev.now _)
  rw [e1, if_pos (by omega), if_pos (by omega), if_pos (by omega), if_pos (by rw [ByteArray.size_append]; show (t.extract 0 m.toNat).size + 1 + (t.extract m.toNat t.size).size ≤ _; omega)]
  rw [e]
  by_cases g : v < 0
  · have g2 : mnM v = true := decide_eq_true g
    rw [if_pos g2, if_pos (by rw [bs_size]; have := text_len v hs; unfold text back at this; simp only [List.length_reverse, List.length_append] at this; simp only [List.length_reverse]; rw [if_pos g] at this; simp only [List.length_singleton] at this; omega)]
    unfold text back
    rw [if_pos g, List.reverse_append, show (⟨#[45]⟩ : ByteArray) = bs [45] from rfl, bs_app]
    rfl
  · have g2 : ¬ mnM v = true := by unfold mnM; simpa using g
    rw [if_neg g2]
    unfold text back
    rw [if_neg g, List.append_nil]
theorem ramount (neg : Bool) (n : Nat) (hn : (D n).length ≤ 1000000) (W0 w : World) (u : Value) (hB : Below W0.heap.size W0 w) (ho : Kd.R (Kd.int .u32) 67 w W0.heap.size (fun _ => True) u (D n)) :
    Calls Try.prog 56 #[.bool neg, u] w fun e w' => ∃ X, e = .returned (.tuple #[.agg X, .int .i64 (if n < 170141183460469231731687303715884105728 then 0 else 10)]) ∧ Rm w' (.agg X) (if n < 170141183460469231731687303715884105728 then (if neg then -(n : Int) else (n : Int)) else 0) ∧ Below W0.heap.size W0 w' := by
  obtain ⟨k, hk⟩ := (amount_ev neg n hn).rounds
  by_cases c : n < 170141183460469231731687303715884105728
  · rw [if_pos c] at hk
    refine (bourseref01_amount.calls k neg _ u (D n) _ _ _ W0 w hB ho hk).mono ?_
    rintro e w' ⟨v, rfl, hr, hb, _⟩
    rw [if_pos c, if_pos c]
    refine ⟨_, rfl, ?_, hb⟩
    have e1 : (neg && decide (0 < n)) = mnM (if neg then -(n : Int) else (n : Int)) := by
      cases neg
      · unfold mnM; simp
      · unfold mnM; simp
    have e2 : (if neg then -(n : Int) else (n : Int)).natAbs = n := by cases neg <;> simp
    rw [← e2] at hr
    exact Rm.of_R e1 hr
  · rw [if_neg c] at hk
    refine (bourseref01_amount.calls k neg _ u (D n) _ _ _ W0 w hB ho hk).mono ?_
    rintro e w' ⟨v, rfl, hr, hb, _⟩
    rw [if_neg c, if_neg c]
    have e2 : ([] : List Int) = D (0 : Int).natAbs := D_zero.symm
    rw [e2] at hr
    exact ⟨_, rfl, Rm.of_R rfl hr, hb⟩
theorem rtrim (l : List Int) (hl : l.length ≤ 1000000) (hd : Dg l) (n : Nat) (hv : vl l = n) (W0 w : World) (u : Value) (hB : Below W0.heap.size W0 w) (ho : Kd.R (Kd.int .u32) 67 w W0.heap.size (fun _ => True) u l) :
    Calls Try.prog 59 #[u] w fun e w' => ∃ X, e = .returned X ∧ Kd.R (Kd.int .u32) 67 w' W0.heap.size (fun _ => True) X (D n) ∧ Below W0.heap.size W0 w' := by
  obtain ⟨k, hk⟩ := (trim_ev l hl hd n hv).rounds
  refine (bourseref01_trimmed.calls k _ u l _ W0 w hB ho hk).mono ?_
  rintro e w' ⟨v, rfl, hr, hb, _⟩
  exact ⟨_, rfl, Kd.R_mono hr (fun _ _ => trivial), hb⟩
end Go.Proofs.Ythmjmkbahneneaa.PMon
end

section
namespace Go.Proofs.Ythmjmkbahneneaa.PMon
open Go.RowKit Go.Proofs.Ythmjmkbahneneaa.PBig Go.Proofs.YthmjmkbahneneaaW.PrintWords Go.Proofs.YthmjmkbahneneaaW.PrintLast Go.Proofs.YthmjmkbahneneaaW.PrintMore
set_option linter.unusedVariables false

def pfin (l : List UInt8) (N : Nat) : Bool × List Int × Int :=
  let v : Int := if l.head? == some 45 then -(N : Int) else (N : Int)
  if N < 170141183460469231731687303715884105728 ∧ text v = l then (mnM v, D v.natAbs, 0) else (false, [], 3)
theorem sg_abs (b : Bool) (N : Nat) : (if b then -(N : Int) else (N : Int)).natAbs = N ∧ mnM (if b then -(N : Int) else (N : Int)) = (b && decide (0 < N)) := by
  cases b
  · exact ⟨by simp, by unfold mnM; simp⟩
  · refine ⟨by simp, ?_⟩
    unfold mnM
    rw [Bool.true_and]
    exact decide_eq_decide.mpr (by simp)
theorem bs_list (l : List UInt8) : (bs l).toList = l := by rw [ByteArray.toList_eq]; rfl
theorem fin_ev (l : List UInt8) (neg : Bool) (hneg : neg = (l.head? == some 45)) (N : Nat) (hN : (D N).length ≤ 1000000) :
    Ev (fun k => (bourseref01_amount.f k neg (D N)).bind fun bt317 => (if bt317.2.2 = 0 then ((bourseref01_Money_Text.f k bt317.1 bt317.2.1).bind fun t323 => (if t323.toList = (bs l).toList then (some (bt317.1, bt317.2.1, 0)) else (some (false, ([] : List Int), 3)))) else (some (false, ([] : List Int), 3)))) (pfin l N) := by
  refine Ev.bind (f := fun (k : Nat) (bt317 : Bool × List Int × Int) => _) (amount_ev neg N hN) ?_
  obtain ⟨s1, s2⟩ := sg_abs neg N
  obtain ⟨v, hv⟩ : ∃ v : Int, v = if neg then -(N : Int) else (N : Int) := ⟨_, rfl⟩
  rw [← hv] at s1 s2
  have hp : pfin l N = if N < 170141183460469231731687303715884105728 ∧ text v = l then (mnM v, D v.natAbs, 0) else (false, [], 3) := by
    unfold pfin
    rw [← hneg, ← hv]
  rw [hp]
  by_cases c : N < 170141183460469231731687303715884105728
  · rw [if_pos c, ← s2]
    refine Ev.congr (f := fun (k : Nat) => (bourseref01_Money_Text.f k (mnM v) (D N)).bind fun t323 => (if t323.toList = (bs l).toList then (some (mnM v, D N, (0 : Int))) else (some (false, ([] : List Int), 3)))) (fun k => if_pos rfl) ?_
    have ht := text_ev v (by unfold Small; omega)
    rw [s1] at ht
    refine Ev.bind (f := fun (k : Nat) (t323 : ByteArray) => (if t323.toList = (bs l).toList then (some (mnM v, D N, (0 : Int))) else (some (false, ([] : List Int), 3)))) ht ?_
    refine Ev.congr (f := fun _ => some _) (fun k => ?_) (Ev.now _)
    rw [bs_list, bs_list, s1]
    by_cases d : text v = l
    · rw [if_pos d, if_pos ⟨c, d⟩]
    · rw [if_neg d, if_neg (fun h => d h.2)]
  · rw [if_neg c, if_neg (fun h => c h.1)]
    exact Ev.congr (f := fun _ => some _) (fun k => if_neg (by decide)) (Ev.now _)

theorem pgo (l : List UInt8) (hl : l.length ≤ 60) (j : Nat) : ∀ (i n : Nat), i + j = l.length → n < 10 ^ i → Ev (fun k => bourseref01_ParseMoney.l0 k (bs l) (D n) (i : Int)) (pfin l (dig (l.drop i) n)) := by
  induction j with
  | zero =>
    intro i n hi hn
    have hD := pow_bound n i (by omega) hn
    rw [List.drop_eq_nil_of_le (by omega)]
    show Ev _ (pfin l n)
    match l, hl, hi with
    | [], _, hi =>
      refine Ev.step (f := fun k => (bourseref01_amount.f k false (D n)).bind fun bt317 => (if bt317.2.2 = 0 then ((bourseref01_Money_Text.f k bt317.1 bt317.2.1).bind fun t323 => (if t323.toList = (bs []).toList then (some (bt317.1, bt317.2.1, 0)) else (some (false, ([] : List Int), 3)))) else (some (false, ([] : List Int), 3)))) (fun k => ?_) (fin_ev [] false rfl n (by omega))
      unfold bourseref01_ParseMoney.l0
      rw [if_neg (by rw [bs_size]; simp at hi ⊢), if_neg (by rw [bs_size]; simp)]
    | c :: t, hl, hi =>
      have e0 : (bt (bs (c :: t)) 0 == 45) = ((c :: t).head? == some 45) := by
        rw [show (0 : Int) = ((0 : Nat) : Int) from rfl, bt_bs (c :: t) 0 c rfl]
        show _ = (some c == some 45)
        rw [Bool.eq_iff_iff]
        simp only [beq_iff_eq, Option.some.injEq]
        constructor
        · intro h; exact UInt8.toNat_inj.1 (by show c.toNat = 45; omega)
        · intro h; rw [h]; rfl
      refine Ev.step (f := fun k => (bourseref01_amount.f k (bt (bs (c :: t)) 0 == 45) (D n)).bind fun bt317 => (if bt317.2.2 = 0 then ((bourseref01_Money_Text.f k bt317.1 bt317.2.1).bind fun t323 => (if t323.toList = (bs (c :: t)).toList then (some (bt317.1, bt317.2.1, 0)) else (some (false, ([] : List Int), 3)))) else (some (false, ([] : List Int), 3)))) (fun k => ?_) (fin_ev (c :: t) _ e0 n (by omega))
      unfold bourseref01_ParseMoney.l0
      rw [if_neg (by rw [bs_size]; omega), if_pos (by rw [bs_size, List.length_cons]; omega), if_pos (by rw [bs_size, List.length_cons]; omega)]
  | succ j ih =>
    intro i n hi hn
    have hlt : i < l.length := by omega
    obtain ⟨c, hc⟩ : ∃ c, l[i]? = some c := ⟨l[i], List.getElem?_eq_getElem hlt⟩
    have hb := bt_bs l i c hc
    have ed : l.drop i = c :: l.drop (i + 1) := by
      obtain ⟨h2, h3⟩ := List.getElem?_eq_some_iff.1 hc
      rw [List.drop_eq_getElem_cons h2, h3]
    have hD := pow_bound n i (by omega) hn
    have hw : wrap64 ((i : Int) + 1) = ((i + 1 : Nat) : Int) := by unfold wrap64; omega
    have hp : n < 10 ^ (i + 1) := Nat.lt_of_lt_of_le hn (Nat.pow_le_pow_right (by decide) (by omega))
    rw [ed, dig_cons]
    -- no digit
    have no : ∀ b : Bool, b = false → Ev (fun k => bourseref01_ParseMoney.j1 k (bs l) (D n) (i : Int) b) (pfin l (dig (l.drop (i + 1)) n)) := by
      intro b hb
      subst hb
      refine Ev.step (f := fun k => bourseref01_ParseMoney.l0 k (bs l) (D n) ((i + 1 : Nat) : Int)) (fun k => ?_) (ih (i + 1) n (by omega) hp)
      rw [bourseref01_ParseMoney.j1, if_neg (by decide), hw]
    have st : ∀ b : Bool, (if bt (bs l) (i : Int) ≥ 48 then decide (bt (bs l) (i : Int) ≤ 57) else false) = b → ∀ r, Ev (fun k => bourseref01_ParseMoney.j1 k (bs l) (D n) (i : Int) b) r → Ev (fun k => bourseref01_ParseMoney.l0 k (bs l) (D n) (i : Int)) r := by
      intro b hb r hr
      refine Ev.step (f := fun k => bourseref01_ParseMoney.j1 k (bs l) (D n) (i : Int) b) (fun k => ?_) hr
      rw [bourseref01_ParseMoney.l0, if_pos (by rw [bs_size]; omega), if_pos (by omega), ← hb]
      split <;> rfl
    by_cases c1 : 48 ≤ c.toNat ∧ c.toNat ≤ 57
    · rw [if_pos c1]
      refine st true (by rw [hb, if_pos (by omega)]; exact decide_eq_true (by omega)) _ ?_
      obtain ⟨d, hd⟩ : ∃ d, d = c.toNat - 48 := ⟨_, rfl⟩
      rw [← hd]
      have h10 : (D 10).length ≤ 1 := len_D 10 1 (by decide)
      have hnx : n * 10 + d < 10 ^ (i + 1) := by rw [Nat.pow_succ]; omega
      have ex : (bt (bs l) (i : Int) - 48) % 256 = (d : Int) := by rw [hb]; omega
      refine Ev.step (f := fun k => (bourseref01_times.f k (D n) (D 10)).bind fun t308 => ((bourseref01_of.f k (d : Int)).bind fun t311 => ((bourseref01_plus.f k t308 t311).bind fun t314 => (bourseref01_ParseMoney.l0 k (bs l) t314 ((i + 1 : Nat) : Int))))) (fun k => ?_) ?_
      · rw [bourseref01_ParseMoney.j1, if_pos rfl, D_ten, hw, ex]
        refine congrArg _ (funext fun t308 => ?_)
        rw [if_pos (by omega), if_pos (by rw [bs_size]; omega)]
      · refine Ev.bind (f := fun (k : Nat) (t308 : List Int) => ((bourseref01_of.f k (d : Int)).bind fun t311 => ((bourseref01_plus.f k t308 t311).bind fun t314 => (bourseref01_ParseMoney.l0 k (bs l) t314 ((i + 1 : Nat) : Int))))) (times_ev n 10 (by omega) (by omega)) ?_
        refine Ev.bind (f := fun (k : Nat) (t311 : List Int) => ((bourseref01_plus.f k (D (n * 10)) t311).bind fun t314 => (bourseref01_ParseMoney.l0 k (bs l) t314 ((i + 1 : Nat) : Int)))) (of_ev (d : Int) (by omega) (by omega)) ?_
        rw [Int.toNat_natCast]
        have l1 : (D (n * 10)).length ≤ 60 := pow_bound (n * 10) (i + 1) (by omega) (by omega)
        have l2 : (D d).length ≤ 1 := len_D d 1 (by omega)
        refine Ev.bind (f := fun (k : Nat) (t314 : List Int) => (bourseref01_ParseMoney.l0 k (bs l) t314 ((i + 1 : Nat) : Int))) (plus_ev (n * 10) d (by omega) (by omega)) ?_
        exact ih (i + 1) (n * 10 + d) (by omega) hnx
    · rw [if_neg c1]
      refine st _ rfl _ (no _ ?_)
      rw [hb]
      by_cases c2 : (c.toNat : Int) ≥ 48
      · rw [if_pos c2]; exact decide_eq_false (by omega)
      · rw [if_neg c2]
theorem rparse_ev (l : List UInt8) : Ev (fun k => bourseref01_ParseMoney.f k (bs l)) (mnM (parseR l), D (parseR l).natAbs, parseE l) := by
  by_cases c : 60 < l.length
  · have := parse_long l c
    unfold parseR parseE
    rw [this]
    show Ev _ (mnM 0, D 0, 3)
    rw [D_zero]
    refine Ev.congr (f := fun _ => some _) (fun k => ?_) (Ev.now _)
    unfold bourseref01_ParseMoney.f
    rw [if_pos (by rw [bs_size]; omega)]
    rfl
  · have h := pgo l (by omega) l.length 0 0 (by omega) (by decide)
    rw [List.drop_zero, D_zero] at h
    have e : pfin l (dig l 0) = (mnM (parseR l), D (parseR l).natAbs, parseE l) := by
      have hp := parse_dv l
      unfold parseR parseE
      rw [hp]
      unfold pfin
      show (if dig l 0 < 170141183460469231731687303715884105728 ∧ text (dv l) = l then (mnM (dv l), D (dv l).natAbs, 0) else (false, [], 3)) = _
      by_cases g : dig l 0 < 170141183460469231731687303715884105728 ∧ text (dv l) = l
      · rw [if_pos g, if_pos g]; rfl
      · rw [if_neg g, if_neg g]
        show _ = (mnM 0, D 0, 3)
        rw [D_zero]; rfl
    rw [← e]
    refine Ev.congr (fun k => ?_) h
    unfold bourseref01_ParseMoney.f
    rw [if_neg (by rw [bs_size]; omega)]
    rfl
theorem rparse_any (l : List UInt8) (w : World) : Calls Try.prog 25 #[.string (bs l)] w (RmE w (parseR l) (parseE l)) := by
  obtain ⟨k, hk⟩ := (rparse_ev l).rounds
  refine (bourseref01_ParseMoney.calls k (bs l) _ _ _ w hk).mono ?_
  rintro e w' ⟨v, rfl, hr, hb⟩
  exact ⟨_, rfl, Rm.of_R rfl hr, hb⟩
end Go.Proofs.Ythmjmkbahneneaa.PMon
end

section
namespace Go.Proofs.Ythmjmkbahneneaa.PMon
open Go.RowKit Go.Proofs.Ythmjmkbahneneaa.PBig Go.Proofs.YthmjmkbahneneaaW.PrintWords Go.Proofs.YthmjmkbahneneaaW.PrintLast Go.Proofs.YthmjmkbahneneaaW.PrintMore
set_option linter.unusedVariables false
set_option linter.unusedSimpArgs false

def four (h l : Int) : List Int := [l % 4294967296, (l / 4294967296) % 4294967296, h % 4294967296, (h / 4294967296) % 4294967296]
theorem four_vl (h l : Nat) (hh : h < 18446744073709551616) (hl : l < 18446744073709551616) (N : Nat) (hN : N = h * 18446744073709551616 + l) : vl (four h l) = N ∧ Dg (four h l) ∧ (four h l).length ≤ 1000000 := by
  refine ⟨?_, ?_, Nat.le_trans (Nat.le_of_eq (show (four (h : Int) (l : Int)).length = 4 from rfl)) (by decide)⟩
  · unfold four vl vl vl vl vl
    omega
  · intro x hx
    unfold four at hx
    simp only [List.mem_cons, List.not_mem_nil, or_false] at hx
    rcases hx with rfl | rfl | rfl | rfl <;> omega
theorem xor_max (h : Nat) (hh : h < 18446744073709551616) : Go.bits .xor .u64 (if IntKind.u64.signed = true then -1 else IntKind.u64.max) (h : Int) = ((18446744073709551615 - h : Nat) : Int) := by
  have e : (if IntKind.u64.signed = true then -1 else IntKind.u64.max) = ((18446744073709551615 : Nat) : Int) := by decide
  rw [e, bits_xor_u64_nat _ _ (by omega) hh]
  congr 1
  have := BitVec.toNat_not (x := BitVec.ofNat 64 h)
  rw [← BitVec.allOnes_xor] at this
  rw [BitVec.toNat_xor, BitVec.toNat_allOnes, BitVec.toNat_ofNat] at this
  rw [Nat.mod_eq_of_lt (by omega)] at this
  simpa using this
def rfV (neg : Bool) (N : Nat) : Int := if N < 170141183460469231731687303715884105728 then (if neg then -(N : Int) else (N : Int)) else 0
def rfE (N : Nat) : Int := if N < 170141183460469231731687303715884105728 then 0 else 3
theorem cells_of {w : World} {X : Array Value} {v : Int} (h : Rm w (.agg X) v) : ∃ A c, X = #[.bool (mnM v), .slice A (D v.natAbs).length c] := by
  obtain ⟨A, c, e, _⟩ := h.reads
  injection e with e
  exact ⟨A, c, e⟩

set_option maxHeartbeats 8000000 in
set_option maxRecDepth 100000 in
theorem rfrom_lo (h2 l2 N : Nat) (hh : h2 < 9223372036854775808) (hh2 : h2 < 18446744073709551616) (hl2 : l2 < 18446744073709551616) (hN : N = h2 * 18446744073709551616 + l2) (w : World) :
    Calls Try.prog 30 #[W2 h2 l2] w (RmE w (rfV false N) (rfE N)) := by
  obtain ⟨hv, hd, hlen⟩ := four_vl h2 l2 hh2 hl2 N hN
  have hD : (D N).length ≤ 1000000 := by rw [hN]; exact Nat.le_trans (len_D _ 4 (by omega)) (by decide)
  have HV := Aside0.mk (And.intro hv (And.intro hd (And.intro hlen hD)))
  clear hv hd hlen hD
  obtain ⟨xs, hxs⟩ : ∃ xs, xs = four h2 l2 := ⟨_, rfl⟩
  have HXS := Aside0.mk hxs
  have HXL : Aside0 (xs = [(l2 : Int) % 4294967296, ((l2 : Int) / 4294967296) % 4294967296, (h2 : Int) % 4294967296, ((h2 : Int) / 4294967296) % 4294967296]) := ⟨hxs⟩
  clear hxs
  have c1 : decide (9223372036854775808 ≤ (h2 : Int)) = false := decide_eq_false (by omega)
  clear hh
  clear hh2 hl2 hN
  unfold W2
  go_enter Try.func30, Try.ntmps30
  go_upto_region 1 with (fail)
  obtain ⟨W1, hW⟩ : ∃ W, W = ((w.alloc (.cells #[.int .u64 (h2 : Int), .int .u64 (l2 : Int)] 38)).alloc (.cells #[.bool false, .slice none 0 0] 46)) := ⟨_, rfl⟩
  obtain ⟨gA, hgA⟩ : ∃ g, g = w.heap.size := ⟨_, rfl⟩
  obtain ⟨gB, hgB⟩ : ∃ g, g = w.heap.size + 1 := ⟨_, rfl⟩
  have HBW1 : Aside0 (Bx w W1 [(gA, #[.int .u64 (h2 : Int), .int .u64 (l2 : Int)], 38), (gB, #[.bool false, .slice none 0 0], 46)]) := ⟨by rw [hW, hgA, hgB]; exact Bx.allocs2 _ _ _ _ _⟩
  rw [← hW, ← hgB, ← hgA]
  clear hW hgA hgB
  have qgA0 : W1.cell? ⟨gA, 0, none⟩ = some (.int .u64 (h2 : Int)) := (blk_cell (Bx.get HBW1.out (gA, #[.int .u64 (h2 : Int), .int .u64 (l2 : Int)], 38) (by simp)) 0).trans rfl
  have qgA1 : W1.cell? ⟨gA, 1, none⟩ = some (.int .u64 (l2 : Int)) := (blk_cell (Bx.get HBW1.out (gA, #[.int .u64 (h2 : Int), .int .u64 (l2 : Int)], 38) (by simp)) 1).trans rfl
  go_quiet (fail)
  clear qgA0 qgA1
  obtain ⟨W2, hW⟩ : ∃ W, W = W1.drewN nq := ⟨_, rfl⟩
  have HBW2 : Aside0 (Bx w W2 [(gA, #[.int .u64 (h2 : Int), .int .u64 (l2 : Int)], 38), (gB, #[.bool false, .slice none 0 0], 46)]) := ⟨by rw [hW]; exact (HBW1.out.drewN nq)⟩
  rw [← hW]
  clear hW
  go_upto_region 7 with (fail)
  go_upto_region 8 with (first
    | ((with_reducible refine gate_dst (N := 37) rfl ?_); refine Kd.R_lit (Kd.int .u32) _ 67 ?hg (N := 37) ?hd (xs := [(l2 : Int) % 4294967296, ((l2 : Int) / 4294967296) % 4294967296, (h2 : Int) % 4294967296, ((h2 : Int) / 4294967296) % 4294967296]) (inner := [.int .u32 ((l2 : Int) % 4294967296), .int .u32 (((l2 : Int) / 4294967296) % 4294967296), .int .u32 ((h2 : Int) % 4294967296), .int .u32 (((h2 : Int) / 4294967296) % 4294967296)]) (ok := fun _ => True) (okp := fun _ => True) ?hr ?hp (fun _ hk => hk) trivial (Below.refl _ _) (Nat.le_refl _) (by simp) ?_; (case hd => rfl); (case hg => rfl); (case hr => first | (go_simp; done) | (go_simp; rfl)); (case hp => exact (Reps.one (show Kd.M (Kd.int .u32) _ _ _ _ [_] from rfl) (Reps.one (show Kd.M (Kd.int .u32) _ _ _ _ [_] from rfl) (Reps.one (show Kd.M (Kd.int .u32) _ _ _ _ [_] from rfl) (Reps.one (show Kd.M (Kd.int .u32) _ _ _ _ [_] from rfl) (Reps.none _ _)))))); intro v277 w3 ho4 hb hg_ hnew_; clear hg_ hnew_; rw [← HXL.out] at ho4; have HO := Aside0.mk ho4; have HBb := Aside0.mk hb; clear hb ho4; obtain ⟨Ao5, co5, eo5⟩ := Kd.R_slice HO.out; subst eo5)
    | ((with_reducible refine gate_callee (f := 59) rfl ?_); (try (refine gate_guard (by rfl) ?_; dsimp only)); refine goesL_ (some 38) rfl rfl Try.func59 (by kernel_rfl) rfl #[.slice Ao5 xs.length co5] rfl (by (try simp only [List.map_toArray, List.map_cons, List.map_nil]); first | done | rfl) ?_; (with_reducible refine (rtrim xs (by rw [HXS.out]; exact HV.out.2.2.1) (by rw [HXS.out]; exact HV.out.2.1) N (by rw [HXS.out]; exact HV.out.1) W2 _ _ HBb.out HO.out).mono ?_); rintro e w4 ⟨X4, rfl, hr, hb⟩; refine ⟨_, rfl, ?_⟩; have HO2 := Aside0.mk hr; have HB2 := Aside0.mk hb; clear hr hb))
  obtain ⟨Ao6, co6, eo6⟩ := Kd.R_slice HO2.out
  subst eo6
  by_cases hc : N < 170141183460469231731687303715884105728
  · have HC := Aside0.mk hc
    clear hc
    have hcon : ∀ W, Below W2.heap.size W2 W → Kd.R (Kd.int .u32) 67 W W2.heap.size (fun _ => True) (.slice Ao6 (D N).length co6) (D N) → Calls Try.prog 56 #[.bool false, .slice Ao6 (D N).length co6] W fun e w' => ∃ X, e = .returned (.tuple #[.agg X, .int .i64 0]) ∧ Rm w' (.agg X) (N : Int) ∧ Below W2.heap.size W2 w' := fun W hB ho => by
      have h := ramount false N HV.out.2.2.2 W2 W _ hB ho
      rw [if_pos HC.out, if_pos HC.out] at h
      exact h
    have HCON := Aside0.mk hcon
    clear hcon
    obtain ⟨v, hv⟩ : ∃ v, v = (N : Int) := ⟨_, rfl⟩
    rw [← hv] at HCON
    have HVV := Aside0.mk hv
    clear hv
    go_upto_region 9 with (first
      | ((with_reducible refine gate_callee (f := 56) rfl ?_); (try (refine gate_guard (by rfl) ?_; dsimp only)); refine goesL_ (some 42) rfl rfl Try.func56 (by kernel_rfl) rfl #[.bool false, .slice Ao6 (D N).length co6] rfl (by (try simp only [List.map_toArray, List.map_cons, List.map_nil]); first | done | rfl) ?_; (with_reducible refine (HCON.out _ HB2.out HO2.out).mono ?_); rintro e w5 ⟨X5, rfl, hr, hb⟩; refine ⟨_, rfl, ?_⟩; have HR5 := Aside0.mk hr; have HB5 := Aside0.mk hb; clear hr hb; obtain ⟨A5, c5, e5⟩ := cells_of HR5.out; subst e5))
    obtain ⟨W3, hW⟩ : ∃ W, W = w5.alloc (.cells #[.bool (mnM v), .slice A5 (D v.natAbs).length c5] 46) := ⟨_, rfl⟩
    obtain ⟨gM, hg⟩ : ∃ g, g = w5.heap.size := ⟨_, rfl⟩
    have HR6 : Aside0 (Rm W3 (.agg #[.bool (mnM v), .slice A5 (D v.natAbs).length c5]) v) := ⟨by rw [hW]; exact HR5.out.below ((Below.refl _ _).alloc (Nat.le_refl _) _)⟩
    have HBW3 : Aside0 (Bx w W3 [(gA, #[.int .u64 (h2 : Int), .int .u64 (l2 : Int)], 38), (gB, #[.bool false, .slice none 0 0], 46), (gM, #[.bool (mnM v), .slice A5 (D v.natAbs).length c5], 46)]) := ⟨by have h := Bx.alloc (Bx.below HBW2.out HB5.out) #[.bool (mnM v), .slice A5 (D v.natAbs).length c5] 46; rw [← hW, ← hg] at h; exact h⟩
    rw [← hW, ← hg]
    clear hW hg
    have qgB0 : W3.cell? ⟨gB, 0, none⟩ = some (.bool false) := (blk_cell (Bx.get HBW3.out (gB, #[.bool false, .slice none 0 0], 46) (by simp)) 0).trans rfl
    have fgB0 : W3.frozen? ⟨gB, 0, none⟩ = false := blk_frozen (Bx.get HBW3.out (gB, #[.bool false, .slice none 0 0], 46) (by simp)) 0
    have qgB1 : W3.cell? ⟨gB, 1, none⟩ = some (.slice none 0 0) := (blk_cell (Bx.get HBW3.out (gB, #[.bool false, .slice none 0 0], 46) (by simp)) 1).trans rfl
    have fgB1 : W3.frozen? ⟨gB, 1, none⟩ = false := blk_frozen (Bx.get HBW3.out (gB, #[.bool false, .slice none 0 0], 46) (by simp)) 1
    have qgM0 : W3.cell? ⟨gM, 0, none⟩ = some (.bool (mnM v)) := (blk_cell (Bx.get HBW3.out (gM, #[.bool (mnM v), .slice A5 (D v.natAbs).length c5], 46) (by simp)) 0).trans rfl
    have fgM0 : W3.frozen? ⟨gM, 0, none⟩ = false := blk_frozen (Bx.get HBW3.out (gM, #[.bool (mnM v), .slice A5 (D v.natAbs).length c5], 46) (by simp)) 0
    have qgM1 : W3.cell? ⟨gM, 1, none⟩ = some (.slice A5 (D v.natAbs).length c5) := (blk_cell (Bx.get HBW3.out (gM, #[.bool (mnM v), .slice A5 (D v.natAbs).length c5], 46) (by simp)) 1).trans rfl
    have fgM1 : W3.frozen? ⟨gM, 1, none⟩ = false := blk_frozen (Bx.get HBW3.out (gM, #[.bool (mnM v), .slice A5 (D v.natAbs).length c5], 46) (by simp)) 1
    go_wp2_with (fail)
    refine bodyPost_ret (results_ct rfl _ _ gB 46 #[.bool (mnM v), .slice A5 (D v.natAbs).length c5] (0, 0) _ rfl (blk_put (cs := #[.bool (mnM v), .slice none 0 0]) (blk_put (cs := #[.bool false, .slice none 0 0]) (Bx.get HBW3.out (gB, #[.bool false, .slice none 0 0], 46) (by simp)) 0 _ rfl) 1 _ rfl) Try.underlying46 rfl (by kernel_rfl)) rfl ?_
    have h1 := Bx.get HBW3.out (gB, #[.bool false, .slice none 0 0], 46) (by simp)
    refine ⟨_, by unfold rfE; rw [if_pos HC.out]; rfl, ?_, ?_⟩
    · unfold rfV; rw [if_pos HC.out]; show Rm _ _ (N : Int); rw [← HVV.out]; exact (HR6.out.set h1 (show (46 : Nat) ≠ 67 by decide) 0 _).set (blk_set h1 0 _) (show (46 : Nat) ≠ 67 by decide) 1 _
    · exact (HBW3.out.bel.setCell (Bx.old HBW3.out (gB, #[.bool false, .slice none 0 0], 46) (by simp)) _).setCell (Bx.old HBW3.out (gB, #[.bool false, .slice none 0 0], 46) (by simp)) _
  · have HC := Aside0.mk hc
    clear hc
    have hcon : ∀ W, Below W2.heap.size W2 W → Kd.R (Kd.int .u32) 67 W W2.heap.size (fun _ => True) (.slice Ao6 (D N).length co6) (D N) → Calls Try.prog 56 #[.bool false, .slice Ao6 (D N).length co6] W fun e w' => ∃ X, e = .returned (.tuple #[.agg X, .int .i64 10]) ∧ Rm w' (.agg X) (0 : Int) ∧ Below W2.heap.size W2 w' := fun W hB ho => by
      have h := ramount false N HV.out.2.2.2 W2 W _ hB ho
      rw [if_neg HC.out, if_neg HC.out] at h
      exact h
    have HCON := Aside0.mk hcon
    clear hcon
    obtain ⟨v, hv⟩ : ∃ v, v = (0 : Int) := ⟨_, rfl⟩
    rw [← hv] at HCON
    have HVV := Aside0.mk hv
    clear hv
    go_upto_region 9 with (first
      | ((with_reducible refine gate_callee (f := 56) rfl ?_); (try (refine gate_guard (by rfl) ?_; dsimp only)); refine goesL_ (some 42) rfl rfl Try.func56 (by kernel_rfl) rfl #[.bool false, .slice Ao6 (D N).length co6] rfl (by (try simp only [List.map_toArray, List.map_cons, List.map_nil]); first | done | rfl) ?_; (with_reducible refine (HCON.out _ HB2.out HO2.out).mono ?_); rintro e w5 ⟨X5, rfl, hr, hb⟩; refine ⟨_, rfl, ?_⟩; have HR5 := Aside0.mk hr; have HB5 := Aside0.mk hb; clear hr hb; obtain ⟨A5, c5, e5⟩ := cells_of HR5.out; subst e5))
    obtain ⟨W3, hW⟩ : ∃ W, W = w5.alloc (.cells #[.bool (mnM v), .slice A5 (D v.natAbs).length c5] 46) := ⟨_, rfl⟩
    obtain ⟨gM, hg⟩ : ∃ g, g = w5.heap.size := ⟨_, rfl⟩
    have HR6 : Aside0 (Rm W3 (.agg #[.bool (mnM v), .slice A5 (D v.natAbs).length c5]) v) := ⟨by rw [hW]; exact HR5.out.below ((Below.refl _ _).alloc (Nat.le_refl _) _)⟩
    have HBW3 : Aside0 (Bx w W3 [(gA, #[.int .u64 (h2 : Int), .int .u64 (l2 : Int)], 38), (gB, #[.bool false, .slice none 0 0], 46), (gM, #[.bool (mnM v), .slice A5 (D v.natAbs).length c5], 46)]) := ⟨by have h := Bx.alloc (Bx.below HBW2.out HB5.out) #[.bool (mnM v), .slice A5 (D v.natAbs).length c5] 46; rw [← hW, ← hg] at h; exact h⟩
    rw [← hW, ← hg]
    clear hW hg
    have qgB0 : W3.cell? ⟨gB, 0, none⟩ = some (.bool false) := (blk_cell (Bx.get HBW3.out (gB, #[.bool false, .slice none 0 0], 46) (by simp)) 0).trans rfl
    have fgB0 : W3.frozen? ⟨gB, 0, none⟩ = false := blk_frozen (Bx.get HBW3.out (gB, #[.bool false, .slice none 0 0], 46) (by simp)) 0
    have qgB1 : W3.cell? ⟨gB, 1, none⟩ = some (.slice none 0 0) := (blk_cell (Bx.get HBW3.out (gB, #[.bool false, .slice none 0 0], 46) (by simp)) 1).trans rfl
    have fgB1 : W3.frozen? ⟨gB, 1, none⟩ = false := blk_frozen (Bx.get HBW3.out (gB, #[.bool false, .slice none 0 0], 46) (by simp)) 1
    have qgM0 : W3.cell? ⟨gM, 0, none⟩ = some (.bool (mnM v)) := (blk_cell (Bx.get HBW3.out (gM, #[.bool (mnM v), .slice A5 (D v.natAbs).length c5], 46) (by simp)) 0).trans rfl
    have fgM0 : W3.frozen? ⟨gM, 0, none⟩ = false := blk_frozen (Bx.get HBW3.out (gM, #[.bool (mnM v), .slice A5 (D v.natAbs).length c5], 46) (by simp)) 0
    have qgM1 : W3.cell? ⟨gM, 1, none⟩ = some (.slice A5 (D v.natAbs).length c5) := (blk_cell (Bx.get HBW3.out (gM, #[.bool (mnM v), .slice A5 (D v.natAbs).length c5], 46) (by simp)) 1).trans rfl
    have fgM1 : W3.frozen? ⟨gM, 1, none⟩ = false := blk_frozen (Bx.get HBW3.out (gM, #[.bool (mnM v), .slice A5 (D v.natAbs).length c5], 46) (by simp)) 1
    go_wp2_with (fail)
    refine bodyPost_ret (results_ct rfl _ _ gB 46 #[.bool false, .slice none 0 0] (0, 0) _ rfl (blk_put (cs := #[.bool false, .slice none 0 0]) (blk_put (cs := #[.bool false, .slice none 0 0]) (Bx.get HBW3.out (gB, #[.bool false, .slice none 0 0], 46) (by simp)) 0 _ rfl) 1 _ rfl) Try.underlying46 rfl (by kernel_rfl)) rfl ?_
    refine ⟨_, by unfold rfE; rw [if_neg HC.out]; rfl, ?_, ?_⟩
    · unfold rfV; rw [if_neg HC.out]; exact Rm.zero _
    · exact (HBW3.out.bel.setCell (Bx.old HBW3.out (gB, #[.bool false, .slice none 0 0], 46) (by simp)) _).setCell (Bx.old HBW3.out (gB, #[.bool false, .slice none 0 0], 46) (by simp)) _

set_option maxHeartbeats 8000000 in
set_option maxRecDepth 100000 in
theorem rfrom_z (h h2 l2 N : Nat) (hh : 9223372036854775808 ≤ h) (el0 : l2 = 0) (eh : IntKind.u64.wrap (-(h : Int)) = (h2 : Int)) (hh2 : h2 < 18446744073709551616) (hl2 : l2 < 18446744073709551616) (hN : N = h2 * 18446744073709551616 + l2) (w : World) :
    Calls Try.prog 30 #[W2 h l2] w (RmE w (rfV true N) (rfE N)) := by
  obtain ⟨hv, hd, hlen⟩ := four_vl h2 l2 hh2 hl2 N hN
  have hD : (D N).length ≤ 1000000 := by rw [hN]; exact Nat.le_trans (len_D _ 4 (by omega)) (by decide)
  have HV := Aside0.mk (And.intro hv (And.intro hd (And.intro hlen hD)))
  clear hv hd hlen hD
  obtain ⟨xs, hxs⟩ : ∃ xs, xs = four h2 l2 := ⟨_, rfl⟩
  have HXS := Aside0.mk hxs
  have HXL : Aside0 (xs = [(l2 : Int) % 4294967296, ((l2 : Int) / 4294967296) % 4294967296, (h2 : Int) % 4294967296, ((h2 : Int) / 4294967296) % 4294967296]) := ⟨hxs⟩
  clear hxs
  have c1 : decide (9223372036854775808 ≤ (h : Int)) = true := decide_eq_true (by omega)
  have c2 : ((l2 : Int) == 0) = true := beq_iff_eq.mpr (by omega)
  have EH := Aside0.mk eh
  clear hh eh el0
  clear hh2 hl2 hN
  unfold W2
  go_enter Try.func30, Try.ntmps30
  go_upto_region 1 with (fail)
  obtain ⟨W1, hW⟩ : ∃ W, W = ((w.alloc (.cells #[.int .u64 (h : Int), .int .u64 (l2 : Int)] 38)).alloc (.cells #[.bool false, .slice none 0 0] 46)) := ⟨_, rfl⟩
  obtain ⟨gA, hgA⟩ : ∃ g, g = w.heap.size := ⟨_, rfl⟩
  obtain ⟨gB, hgB⟩ : ∃ g, g = w.heap.size + 1 := ⟨_, rfl⟩
  have HBW1 : Aside0 (Bx w W1 [(gA, #[.int .u64 (h : Int), .int .u64 (l2 : Int)], 38), (gB, #[.bool false, .slice none 0 0], 46)]) := ⟨by rw [hW, hgA, hgB]; exact Bx.allocs2 _ _ _ _ _⟩
  rw [← hW, ← hgB, ← hgA]
  clear hW hgA hgB
  have qgA0 : W1.cell? ⟨gA, 0, none⟩ = some (.int .u64 (h : Int)) := (blk_cell (Bx.get HBW1.out (gA, #[.int .u64 (h : Int), .int .u64 (l2 : Int)], 38) (by simp)) 0).trans rfl
  have qgA1 : W1.cell? ⟨gA, 1, none⟩ = some (.int .u64 (l2 : Int)) := (blk_cell (Bx.get HBW1.out (gA, #[.int .u64 (h : Int), .int .u64 (l2 : Int)], 38) (by simp)) 1).trans rfl
  go_quiet (fail)
  clear qgA0 qgA1
  obtain ⟨W2, hW⟩ : ∃ W, W = W1.drewN nq := ⟨_, rfl⟩
  have HBW2 : Aside0 (Bx w W2 [(gA, #[.int .u64 (h : Int), .int .u64 (l2 : Int)], 38), (gB, #[.bool false, .slice none 0 0], 46)]) := ⟨by rw [hW]; exact (HBW1.out.drewN nq)⟩
  rw [← hW]
  clear hW
  go_upto_region 7 with (fail)
  rw [EH.out]
  go_upto_region 8 with (first
    | ((with_reducible refine gate_dst (N := 37) rfl ?_); refine Kd.R_lit (Kd.int .u32) _ 67 ?hg (N := 37) ?hd (xs := [(l2 : Int) % 4294967296, ((l2 : Int) / 4294967296) % 4294967296, (h2 : Int) % 4294967296, ((h2 : Int) / 4294967296) % 4294967296]) (inner := [.int .u32 ((l2 : Int) % 4294967296), .int .u32 (((l2 : Int) / 4294967296) % 4294967296), .int .u32 ((h2 : Int) % 4294967296), .int .u32 (((h2 : Int) / 4294967296) % 4294967296)]) (ok := fun _ => True) (okp := fun _ => True) ?hr ?hp (fun _ hk => hk) trivial (Below.refl _ _) (Nat.le_refl _) (by simp) ?_; (case hd => rfl); (case hg => rfl); (case hr => first | (go_simp; done) | (go_simp; rfl)); (case hp => exact (Reps.one (show Kd.M (Kd.int .u32) _ _ _ _ [_] from rfl) (Reps.one (show Kd.M (Kd.int .u32) _ _ _ _ [_] from rfl) (Reps.one (show Kd.M (Kd.int .u32) _ _ _ _ [_] from rfl) (Reps.one (show Kd.M (Kd.int .u32) _ _ _ _ [_] from rfl) (Reps.none _ _)))))); intro v277 w3 ho4 hb hg_ hnew_; clear hg_ hnew_; rw [← HXL.out] at ho4; have HO := Aside0.mk ho4; have HBb := Aside0.mk hb; clear hb ho4; obtain ⟨Ao5, co5, eo5⟩ := Kd.R_slice HO.out; subst eo5)
    | ((with_reducible refine gate_callee (f := 59) rfl ?_); (try (refine gate_guard (by rfl) ?_; dsimp only)); refine goesL_ (some 38) rfl rfl Try.func59 (by kernel_rfl) rfl #[.slice Ao5 xs.length co5] rfl (by (try simp only [List.map_toArray, List.map_cons, List.map_nil]); first | done | rfl) ?_; (with_reducible refine (rtrim xs (by rw [HXS.out]; exact HV.out.2.2.1) (by rw [HXS.out]; exact HV.out.2.1) N (by rw [HXS.out]; exact HV.out.1) W2 _ _ HBb.out HO.out).mono ?_); rintro e w4 ⟨X4, rfl, hr, hb⟩; refine ⟨_, rfl, ?_⟩; have HO2 := Aside0.mk hr; have HB2 := Aside0.mk hb; clear hr hb))
  obtain ⟨Ao6, co6, eo6⟩ := Kd.R_slice HO2.out
  subst eo6
  by_cases hc : N < 170141183460469231731687303715884105728
  · have HC := Aside0.mk hc
    clear hc
    have hcon : ∀ W, Below W2.heap.size W2 W → Kd.R (Kd.int .u32) 67 W W2.heap.size (fun _ => True) (.slice Ao6 (D N).length co6) (D N) → Calls Try.prog 56 #[.bool true, .slice Ao6 (D N).length co6] W fun e w' => ∃ X, e = .returned (.tuple #[.agg X, .int .i64 0]) ∧ Rm w' (.agg X) (-(N : Int)) ∧ Below W2.heap.size W2 w' := fun W hB ho => by
      have h := ramount true N HV.out.2.2.2 W2 W _ hB ho
      rw [if_pos HC.out, if_pos HC.out] at h
      exact h
    have HCON := Aside0.mk hcon
    clear hcon
    obtain ⟨v, hv⟩ : ∃ v, v = (-(N : Int)) := ⟨_, rfl⟩
    rw [← hv] at HCON
    have HVV := Aside0.mk hv
    clear hv
    go_upto_region 9 with (first
      | ((with_reducible refine gate_callee (f := 56) rfl ?_); (try (refine gate_guard (by rfl) ?_; dsimp only)); refine goesL_ (some 42) rfl rfl Try.func56 (by kernel_rfl) rfl #[.bool true, .slice Ao6 (D N).length co6] rfl (by (try simp only [List.map_toArray, List.map_cons, List.map_nil]); first | done | rfl) ?_; (with_reducible refine (HCON.out _ HB2.out HO2.out).mono ?_); rintro e w5 ⟨X5, rfl, hr, hb⟩; refine ⟨_, rfl, ?_⟩; have HR5 := Aside0.mk hr; have HB5 := Aside0.mk hb; clear hr hb; obtain ⟨A5, c5, e5⟩ := cells_of HR5.out; subst e5))
    obtain ⟨W3, hW⟩ : ∃ W, W = w5.alloc (.cells #[.bool (mnM v), .slice A5 (D v.natAbs).length c5] 46) := ⟨_, rfl⟩
    obtain ⟨gM, hg⟩ : ∃ g, g = w5.heap.size := ⟨_, rfl⟩
    have HR6 : Aside0 (Rm W3 (.agg #[.bool (mnM v), .slice A5 (D v.natAbs).length c5]) v) := ⟨by rw [hW]; exact HR5.out.below ((Below.refl _ _).alloc (Nat.le_refl _) _)⟩
    have HBW3 : Aside0 (Bx w W3 [(gA, #[.int .u64 (h : Int), .int .u64 (l2 : Int)], 38), (gB, #[.bool false, .slice none 0 0], 46), (gM, #[.bool (mnM v), .slice A5 (D v.natAbs).length c5], 46)]) := ⟨by have h := Bx.alloc (Bx.below HBW2.out HB5.out) #[.bool (mnM v), .slice A5 (D v.natAbs).length c5] 46; rw [← hW, ← hg] at h; exact h⟩
    rw [← hW, ← hg]
    clear hW hg
    have qgB0 : W3.cell? ⟨gB, 0, none⟩ = some (.bool false) := (blk_cell (Bx.get HBW3.out (gB, #[.bool false, .slice none 0 0], 46) (by simp)) 0).trans rfl
    have fgB0 : W3.frozen? ⟨gB, 0, none⟩ = false := blk_frozen (Bx.get HBW3.out (gB, #[.bool false, .slice none 0 0], 46) (by simp)) 0
    have qgB1 : W3.cell? ⟨gB, 1, none⟩ = some (.slice none 0 0) := (blk_cell (Bx.get HBW3.out (gB, #[.bool false, .slice none 0 0], 46) (by simp)) 1).trans rfl
    have fgB1 : W3.frozen? ⟨gB, 1, none⟩ = false := blk_frozen (Bx.get HBW3.out (gB, #[.bool false, .slice none 0 0], 46) (by simp)) 1
    have qgM0 : W3.cell? ⟨gM, 0, none⟩ = some (.bool (mnM v)) := (blk_cell (Bx.get HBW3.out (gM, #[.bool (mnM v), .slice A5 (D v.natAbs).length c5], 46) (by simp)) 0).trans rfl
    have fgM0 : W3.frozen? ⟨gM, 0, none⟩ = false := blk_frozen (Bx.get HBW3.out (gM, #[.bool (mnM v), .slice A5 (D v.natAbs).length c5], 46) (by simp)) 0
    have qgM1 : W3.cell? ⟨gM, 1, none⟩ = some (.slice A5 (D v.natAbs).length c5) := (blk_cell (Bx.get HBW3.out (gM, #[.bool (mnM v), .slice A5 (D v.natAbs).length c5], 46) (by simp)) 1).trans rfl
    have fgM1 : W3.frozen? ⟨gM, 1, none⟩ = false := blk_frozen (Bx.get HBW3.out (gM, #[.bool (mnM v), .slice A5 (D v.natAbs).length c5], 46) (by simp)) 1
    go_wp2_with (fail)
    refine bodyPost_ret (results_ct rfl _ _ gB 46 #[.bool (mnM v), .slice A5 (D v.natAbs).length c5] (0, 0) _ rfl (blk_put (cs := #[.bool (mnM v), .slice none 0 0]) (blk_put (cs := #[.bool false, .slice none 0 0]) (Bx.get HBW3.out (gB, #[.bool false, .slice none 0 0], 46) (by simp)) 0 _ rfl) 1 _ rfl) Try.underlying46 rfl (by kernel_rfl)) rfl ?_
    have h1 := Bx.get HBW3.out (gB, #[.bool false, .slice none 0 0], 46) (by simp)
    refine ⟨_, by unfold rfE; rw [if_pos HC.out]; rfl, ?_, ?_⟩
    · unfold rfV; rw [if_pos HC.out]; show Rm _ _ (-(N : Int)); rw [← HVV.out]; exact (HR6.out.set h1 (show (46 : Nat) ≠ 67 by decide) 0 _).set (blk_set h1 0 _) (show (46 : Nat) ≠ 67 by decide) 1 _
    · exact (HBW3.out.bel.setCell (Bx.old HBW3.out (gB, #[.bool false, .slice none 0 0], 46) (by simp)) _).setCell (Bx.old HBW3.out (gB, #[.bool false, .slice none 0 0], 46) (by simp)) _
  · have HC := Aside0.mk hc
    clear hc
    have hcon : ∀ W, Below W2.heap.size W2 W → Kd.R (Kd.int .u32) 67 W W2.heap.size (fun _ => True) (.slice Ao6 (D N).length co6) (D N) → Calls Try.prog 56 #[.bool true, .slice Ao6 (D N).length co6] W fun e w' => ∃ X, e = .returned (.tuple #[.agg X, .int .i64 10]) ∧ Rm w' (.agg X) (0 : Int) ∧ Below W2.heap.size W2 w' := fun W hB ho => by
      have h := ramount true N HV.out.2.2.2 W2 W _ hB ho
      rw [if_neg HC.out, if_neg HC.out] at h
      exact h
    have HCON := Aside0.mk hcon
    clear hcon
    obtain ⟨v, hv⟩ : ∃ v, v = (0 : Int) := ⟨_, rfl⟩
    rw [← hv] at HCON
    have HVV := Aside0.mk hv
    clear hv
    go_upto_region 9 with (first
      | ((with_reducible refine gate_callee (f := 56) rfl ?_); (try (refine gate_guard (by rfl) ?_; dsimp only)); refine goesL_ (some 42) rfl rfl Try.func56 (by kernel_rfl) rfl #[.bool true, .slice Ao6 (D N).length co6] rfl (by (try simp only [List.map_toArray, List.map_cons, List.map_nil]); first | done | rfl) ?_; (with_reducible refine (HCON.out _ HB2.out HO2.out).mono ?_); rintro e w5 ⟨X5, rfl, hr, hb⟩; refine ⟨_, rfl, ?_⟩; have HR5 := Aside0.mk hr; have HB5 := Aside0.mk hb; clear hr hb; obtain ⟨A5, c5, e5⟩ := cells_of HR5.out; subst e5))
    obtain ⟨W3, hW⟩ : ∃ W, W = w5.alloc (.cells #[.bool (mnM v), .slice A5 (D v.natAbs).length c5] 46) := ⟨_, rfl⟩
    obtain ⟨gM, hg⟩ : ∃ g, g = w5.heap.size := ⟨_, rfl⟩
    have HR6 : Aside0 (Rm W3 (.agg #[.bool (mnM v), .slice A5 (D v.natAbs).length c5]) v) := ⟨by rw [hW]; exact HR5.out.below ((Below.refl _ _).alloc (Nat.le_refl _) _)⟩
    have HBW3 : Aside0 (Bx w W3 [(gA, #[.int .u64 (h : Int), .int .u64 (l2 : Int)], 38), (gB, #[.bool false, .slice none 0 0], 46), (gM, #[.bool (mnM v), .slice A5 (D v.natAbs).length c5], 46)]) := ⟨by have h := Bx.alloc (Bx.below HBW2.out HB5.out) #[.bool (mnM v), .slice A5 (D v.natAbs).length c5] 46; rw [← hW, ← hg] at h; exact h⟩
    rw [← hW, ← hg]
    clear hW hg
    have qgB0 : W3.cell? ⟨gB, 0, none⟩ = some (.bool false) := (blk_cell (Bx.get HBW3.out (gB, #[.bool false, .slice none 0 0], 46) (by simp)) 0).trans rfl
    have fgB0 : W3.frozen? ⟨gB, 0, none⟩ = false := blk_frozen (Bx.get HBW3.out (gB, #[.bool false, .slice none 0 0], 46) (by simp)) 0
    have qgB1 : W3.cell? ⟨gB, 1, none⟩ = some (.slice none 0 0) := (blk_cell (Bx.get HBW3.out (gB, #[.bool false, .slice none 0 0], 46) (by simp)) 1).trans rfl
    have fgB1 : W3.frozen? ⟨gB, 1, none⟩ = false := blk_frozen (Bx.get HBW3.out (gB, #[.bool false, .slice none 0 0], 46) (by simp)) 1
    have qgM0 : W3.cell? ⟨gM, 0, none⟩ = some (.bool (mnM v)) := (blk_cell (Bx.get HBW3.out (gM, #[.bool (mnM v), .slice A5 (D v.natAbs).length c5], 46) (by simp)) 0).trans rfl
    have fgM0 : W3.frozen? ⟨gM, 0, none⟩ = false := blk_frozen (Bx.get HBW3.out (gM, #[.bool (mnM v), .slice A5 (D v.natAbs).length c5], 46) (by simp)) 0
    have qgM1 : W3.cell? ⟨gM, 1, none⟩ = some (.slice A5 (D v.natAbs).length c5) := (blk_cell (Bx.get HBW3.out (gM, #[.bool (mnM v), .slice A5 (D v.natAbs).length c5], 46) (by simp)) 1).trans rfl
    have fgM1 : W3.frozen? ⟨gM, 1, none⟩ = false := blk_frozen (Bx.get HBW3.out (gM, #[.bool (mnM v), .slice A5 (D v.natAbs).length c5], 46) (by simp)) 1
    go_wp2_with (fail)
    refine bodyPost_ret (results_ct rfl _ _ gB 46 #[.bool false, .slice none 0 0] (0, 0) _ rfl (blk_put (cs := #[.bool false, .slice none 0 0]) (blk_put (cs := #[.bool false, .slice none 0 0]) (Bx.get HBW3.out (gB, #[.bool false, .slice none 0 0], 46) (by simp)) 0 _ rfl) 1 _ rfl) Try.underlying46 rfl (by kernel_rfl)) rfl ?_
    refine ⟨_, by unfold rfE; rw [if_neg HC.out]; rfl, ?_, ?_⟩
    · unfold rfV; rw [if_neg HC.out]; exact Rm.zero _
    · exact (HBW3.out.bel.setCell (Bx.old HBW3.out (gB, #[.bool false, .slice none 0 0], 46) (by simp)) _).setCell (Bx.old HBW3.out (gB, #[.bool false, .slice none 0 0], 46) (by simp)) _

set_option maxHeartbeats 8000000 in
set_option maxRecDepth 100000 in
theorem rfrom_hi (h l h2 l2 N : Nat) (hh : 9223372036854775808 ≤ h) (hl : l ≠ 0) (eh : Go.bits .xor .u64 (if IntKind.u64.signed = true then -1 else IntKind.u64.max) (h : Int) = (h2 : Int)) (el : IntKind.u64.wrap (-(l : Int)) = (l2 : Int)) (hh2 : h2 < 18446744073709551616) (hl2 : l2 < 18446744073709551616) (hN : N = h2 * 18446744073709551616 + l2) (w : World) :
    Calls Try.prog 30 #[W2 h l] w (RmE w (rfV true N) (rfE N)) := by
  obtain ⟨hv, hd, hlen⟩ := four_vl h2 l2 hh2 hl2 N hN
  have hD : (D N).length ≤ 1000000 := by rw [hN]; exact Nat.le_trans (len_D _ 4 (by omega)) (by decide)
  have HV := Aside0.mk (And.intro hv (And.intro hd (And.intro hlen hD)))
  clear hv hd hlen hD
  obtain ⟨xs, hxs⟩ : ∃ xs, xs = four h2 l2 := ⟨_, rfl⟩
  have HXS := Aside0.mk hxs
  have HXL : Aside0 (xs = [(l2 : Int) % 4294967296, ((l2 : Int) / 4294967296) % 4294967296, (h2 : Int) % 4294967296, ((h2 : Int) / 4294967296) % 4294967296]) := ⟨hxs⟩
  clear hxs
  have c1 : decide (9223372036854775808 ≤ (h : Int)) = true := decide_eq_true (by omega)
  have c2 : ((l : Int) == 0) = false := beq_eq_false_iff_ne.mpr (by omega)
  have EH := Aside0.mk (And.intro eh el)
  clear hh hl eh el
  clear hh2 hl2 hN
  unfold W2
  go_enter Try.func30, Try.ntmps30
  go_upto_region 1 with (fail)
  obtain ⟨W1, hW⟩ : ∃ W, W = ((w.alloc (.cells #[.int .u64 (h : Int), .int .u64 (l : Int)] 38)).alloc (.cells #[.bool false, .slice none 0 0] 46)) := ⟨_, rfl⟩
  obtain ⟨gA, hgA⟩ : ∃ g, g = w.heap.size := ⟨_, rfl⟩
  obtain ⟨gB, hgB⟩ : ∃ g, g = w.heap.size + 1 := ⟨_, rfl⟩
  have HBW1 : Aside0 (Bx w W1 [(gA, #[.int .u64 (h : Int), .int .u64 (l : Int)], 38), (gB, #[.bool false, .slice none 0 0], 46)]) := ⟨by rw [hW, hgA, hgB]; exact Bx.allocs2 _ _ _ _ _⟩
  rw [← hW, ← hgB, ← hgA]
  clear hW hgA hgB
  have qgA0 : W1.cell? ⟨gA, 0, none⟩ = some (.int .u64 (h : Int)) := (blk_cell (Bx.get HBW1.out (gA, #[.int .u64 (h : Int), .int .u64 (l : Int)], 38) (by simp)) 0).trans rfl
  have qgA1 : W1.cell? ⟨gA, 1, none⟩ = some (.int .u64 (l : Int)) := (blk_cell (Bx.get HBW1.out (gA, #[.int .u64 (h : Int), .int .u64 (l : Int)], 38) (by simp)) 1).trans rfl
  go_quiet (fail)
  clear qgA0 qgA1
  obtain ⟨W2, hW⟩ : ∃ W, W = W1.drewN nq := ⟨_, rfl⟩
  have HBW2 : Aside0 (Bx w W2 [(gA, #[.int .u64 (h : Int), .int .u64 (l : Int)], 38), (gB, #[.bool false, .slice none 0 0], 46)]) := ⟨by rw [hW]; exact (HBW1.out.drewN nq)⟩
  rw [← hW]
  clear hW
  go_upto_region 7 with (fail)
  rw [EH.out.1, EH.out.2]
  go_upto_region 8 with (first
    | ((with_reducible refine gate_dst (N := 37) rfl ?_); refine Kd.R_lit (Kd.int .u32) _ 67 ?hg (N := 37) ?hd (xs := [(l2 : Int) % 4294967296, ((l2 : Int) / 4294967296) % 4294967296, (h2 : Int) % 4294967296, ((h2 : Int) / 4294967296) % 4294967296]) (inner := [.int .u32 ((l2 : Int) % 4294967296), .int .u32 (((l2 : Int) / 4294967296) % 4294967296), .int .u32 ((h2 : Int) % 4294967296), .int .u32 (((h2 : Int) / 4294967296) % 4294967296)]) (ok := fun _ => True) (okp := fun _ => True) ?hr ?hp (fun _ hk => hk) trivial (Below.refl _ _) (Nat.le_refl _) (by simp) ?_; (case hd => rfl); (case hg => rfl); (case hr => first | (go_simp; done) | (go_simp; rfl)); (case hp => exact (Reps.one (show Kd.M (Kd.int .u32) _ _ _ _ [_] from rfl) (Reps.one (show Kd.M (Kd.int .u32) _ _ _ _ [_] from rfl) (Reps.one (show Kd.M (Kd.int .u32) _ _ _ _ [_] from rfl) (Reps.one (show Kd.M (Kd.int .u32) _ _ _ _ [_] from rfl) (Reps.none _ _)))))); intro v277 w3 ho4 hb hg_ hnew_; clear hg_ hnew_; rw [← HXL.out] at ho4; have HO := Aside0.mk ho4; have HBb := Aside0.mk hb; clear hb ho4; obtain ⟨Ao5, co5, eo5⟩ := Kd.R_slice HO.out; subst eo5)
    | ((with_reducible refine gate_callee (f := 59) rfl ?_); (try (refine gate_guard (by rfl) ?_; dsimp only)); refine goesL_ (some 38) rfl rfl Try.func59 (by kernel_rfl) rfl #[.slice Ao5 xs.length co5] rfl (by (try simp only [List.map_toArray, List.map_cons, List.map_nil]); first | done | rfl) ?_; (with_reducible refine (rtrim xs (by rw [HXS.out]; exact HV.out.2.2.1) (by rw [HXS.out]; exact HV.out.2.1) N (by rw [HXS.out]; exact HV.out.1) W2 _ _ HBb.out HO.out).mono ?_); rintro e w4 ⟨X4, rfl, hr, hb⟩; refine ⟨_, rfl, ?_⟩; have HO2 := Aside0.mk hr; have HB2 := Aside0.mk hb; clear hr hb))
  obtain ⟨Ao6, co6, eo6⟩ := Kd.R_slice HO2.out
  subst eo6
  by_cases hc : N < 170141183460469231731687303715884105728
  · have HC := Aside0.mk hc
    clear hc
    have hcon : ∀ W, Below W2.heap.size W2 W → Kd.R (Kd.int .u32) 67 W W2.heap.size (fun _ => True) (.slice Ao6 (D N).length co6) (D N) → Calls Try.prog 56 #[.bool true, .slice Ao6 (D N).length co6] W fun e w' => ∃ X, e = .returned (.tuple #[.agg X, .int .i64 0]) ∧ Rm w' (.agg X) (-(N : Int)) ∧ Below W2.heap.size W2 w' := fun W hB ho => by
      have h := ramount true N HV.out.2.2.2 W2 W _ hB ho
      rw [if_pos HC.out, if_pos HC.out] at h
      exact h
    have HCON := Aside0.mk hcon
    clear hcon
    obtain ⟨v, hv⟩ : ∃ v, v = (-(N : Int)) := ⟨_, rfl⟩
    rw [← hv] at HCON
    have HVV := Aside0.mk hv
    clear hv
    go_upto_region 9 with (first
      | ((with_reducible refine gate_callee (f := 56) rfl ?_); (try (refine gate_guard (by rfl) ?_; dsimp only)); refine goesL_ (some 42) rfl rfl Try.func56 (by kernel_rfl) rfl #[.bool true, .slice Ao6 (D N).length co6] rfl (by (try simp only [List.map_toArray, List.map_cons, List.map_nil]); first | done | rfl) ?_; (with_reducible refine (HCON.out _ HB2.out HO2.out).mono ?_); rintro e w5 ⟨X5, rfl, hr, hb⟩; refine ⟨_, rfl, ?_⟩; have HR5 := Aside0.mk hr; have HB5 := Aside0.mk hb; clear hr hb; obtain ⟨A5, c5, e5⟩ := cells_of HR5.out; subst e5))
    obtain ⟨W3, hW⟩ : ∃ W, W = w5.alloc (.cells #[.bool (mnM v), .slice A5 (D v.natAbs).length c5] 46) := ⟨_, rfl⟩
    obtain ⟨gM, hg⟩ : ∃ g, g = w5.heap.size := ⟨_, rfl⟩
    have HR6 : Aside0 (Rm W3 (.agg #[.bool (mnM v), .slice A5 (D v.natAbs).length c5]) v) := ⟨by rw [hW]; exact HR5.out.below ((Below.refl _ _).alloc (Nat.le_refl _) _)⟩
    have HBW3 : Aside0 (Bx w W3 [(gA, #[.int .u64 (h : Int), .int .u64 (l : Int)], 38), (gB, #[.bool false, .slice none 0 0], 46), (gM, #[.bool (mnM v), .slice A5 (D v.natAbs).length c5], 46)]) := ⟨by have h := Bx.alloc (Bx.below HBW2.out HB5.out) #[.bool (mnM v), .slice A5 (D v.natAbs).length c5] 46; rw [← hW, ← hg] at h; exact h⟩
    rw [← hW, ← hg]
    clear hW hg
    have qgB0 : W3.cell? ⟨gB, 0, none⟩ = some (.bool false) := (blk_cell (Bx.get HBW3.out (gB, #[.bool false, .slice none 0 0], 46) (by simp)) 0).trans rfl
    have fgB0 : W3.frozen? ⟨gB, 0, none⟩ = false := blk_frozen (Bx.get HBW3.out (gB, #[.bool false, .slice none 0 0], 46) (by simp)) 0
    have qgB1 : W3.cell? ⟨gB, 1, none⟩ = some (.slice none 0 0) := (blk_cell (Bx.get HBW3.out (gB, #[.bool false, .slice none 0 0], 46) (by simp)) 1).trans rfl
    have fgB1 : W3.frozen? ⟨gB, 1, none⟩ = false := blk_frozen (Bx.get HBW3.out (gB, #[.bool false, .slice none 0 0], 46) (by simp)) 1
    have qgM0 : W3.cell? ⟨gM, 0, none⟩ = some (.bool (mnM v)) := (blk_cell (Bx.get HBW3.out (gM, #[.bool (mnM v), .slice A5 (D v.natAbs).length c5], 46) (by simp)) 0).trans rfl
    have fgM0 : W3.frozen? ⟨gM, 0, none⟩ = false := blk_frozen (Bx.get HBW3.out (gM, #[.bool (mnM v), .slice A5 (D v.natAbs).length c5], 46) (by simp)) 0
    have qgM1 : W3.cell? ⟨gM, 1, none⟩ = some (.slice A5 (D v.natAbs).length c5) := (blk_cell (Bx.get HBW3.out (gM, #[.bool (mnM v), .slice A5 (D v.natAbs).length c5], 46) (by simp)) 1).trans rfl
    have fgM1 : W3.frozen? ⟨gM, 1, none⟩ = false := blk_frozen (Bx.get HBW3.out (gM, #[.bool (mnM v), .slice A5 (D v.natAbs).length c5], 46) (by simp)) 1
    go_wp2_with (fail)
    refine bodyPost_ret (results_ct rfl _ _ gB 46 #[.bool (mnM v), .slice A5 (D v.natAbs).length c5] (0, 0) _ rfl (blk_put (cs := #[.bool (mnM v), .slice none 0 0]) (blk_put (cs := #[.bool false, .slice none 0 0]) (Bx.get HBW3.out (gB, #[.bool false, .slice none 0 0], 46) (by simp)) 0 _ rfl) 1 _ rfl) Try.underlying46 rfl (by kernel_rfl)) rfl ?_
    have h1 := Bx.get HBW3.out (gB, #[.bool false, .slice none 0 0], 46) (by simp)
    refine ⟨_, by unfold rfE; rw [if_pos HC.out]; rfl, ?_, ?_⟩
    · unfold rfV; rw [if_pos HC.out]; show Rm _ _ (-(N : Int)); rw [← HVV.out]; exact (HR6.out.set h1 (show (46 : Nat) ≠ 67 by decide) 0 _).set (blk_set h1 0 _) (show (46 : Nat) ≠ 67 by decide) 1 _
    · exact (HBW3.out.bel.setCell (Bx.old HBW3.out (gB, #[.bool false, .slice none 0 0], 46) (by simp)) _).setCell (Bx.old HBW3.out (gB, #[.bool false, .slice none 0 0], 46) (by simp)) _
  · have HC := Aside0.mk hc
    clear hc
    have hcon : ∀ W, Below W2.heap.size W2 W → Kd.R (Kd.int .u32) 67 W W2.heap.size (fun _ => True) (.slice Ao6 (D N).length co6) (D N) → Calls Try.prog 56 #[.bool true, .slice Ao6 (D N).length co6] W fun e w' => ∃ X, e = .returned (.tuple #[.agg X, .int .i64 10]) ∧ Rm w' (.agg X) (0 : Int) ∧ Below W2.heap.size W2 w' := fun W hB ho => by
      have h := ramount true N HV.out.2.2.2 W2 W _ hB ho
      rw [if_neg HC.out, if_neg HC.out] at h
      exact h
    have HCON := Aside0.mk hcon
    clear hcon
    obtain ⟨v, hv⟩ : ∃ v, v = (0 : Int) := ⟨_, rfl⟩
    rw [← hv] at HCON
    have HVV := Aside0.mk hv
    clear hv
    go_upto_region 9 with (first
      | ((with_reducible refine gate_callee (f := 56) rfl ?_); (try (refine gate_guard (by rfl) ?_; dsimp only)); refine goesL_ (some 42) rfl rfl Try.func56 (by kernel_rfl) rfl #[.bool true, .slice Ao6 (D N).length co6] rfl (by (try simp only [List.map_toArray, List.map_cons, List.map_nil]); first | done | rfl) ?_; (with_reducible refine (HCON.out _ HB2.out HO2.out).mono ?_); rintro e w5 ⟨X5, rfl, hr, hb⟩; refine ⟨_, rfl, ?_⟩; have HR5 := Aside0.mk hr; have HB5 := Aside0.mk hb; clear hr hb; obtain ⟨A5, c5, e5⟩ := cells_of HR5.out; subst e5))
    obtain ⟨W3, hW⟩ : ∃ W, W = w5.alloc (.cells #[.bool (mnM v), .slice A5 (D v.natAbs).length c5] 46) := ⟨_, rfl⟩
    obtain ⟨gM, hg⟩ : ∃ g, g = w5.heap.size := ⟨_, rfl⟩
    have HR6 : Aside0 (Rm W3 (.agg #[.bool (mnM v), .slice A5 (D v.natAbs).length c5]) v) := ⟨by rw [hW]; exact HR5.out.below ((Below.refl _ _).alloc (Nat.le_refl _) _)⟩
    have HBW3 : Aside0 (Bx w W3 [(gA, #[.int .u64 (h : Int), .int .u64 (l : Int)], 38), (gB, #[.bool false, .slice none 0 0], 46), (gM, #[.bool (mnM v), .slice A5 (D v.natAbs).length c5], 46)]) := ⟨by have h := Bx.alloc (Bx.below HBW2.out HB5.out) #[.bool (mnM v), .slice A5 (D v.natAbs).length c5] 46; rw [← hW, ← hg] at h; exact h⟩
    rw [← hW, ← hg]
    clear hW hg
    have qgB0 : W3.cell? ⟨gB, 0, none⟩ = some (.bool false) := (blk_cell (Bx.get HBW3.out (gB, #[.bool false, .slice none 0 0], 46) (by simp)) 0).trans rfl
    have fgB0 : W3.frozen? ⟨gB, 0, none⟩ = false := blk_frozen (Bx.get HBW3.out (gB, #[.bool false, .slice none 0 0], 46) (by simp)) 0
    have qgB1 : W3.cell? ⟨gB, 1, none⟩ = some (.slice none 0 0) := (blk_cell (Bx.get HBW3.out (gB, #[.bool false, .slice none 0 0], 46) (by simp)) 1).trans rfl
    have fgB1 : W3.frozen? ⟨gB, 1, none⟩ = false := blk_frozen (Bx.get HBW3.out (gB, #[.bool false, .slice none 0 0], 46) (by simp)) 1
    have qgM0 : W3.cell? ⟨gM, 0, none⟩ = some (.bool (mnM v)) := (blk_cell (Bx.get HBW3.out (gM, #[.bool (mnM v), .slice A5 (D v.natAbs).length c5], 46) (by simp)) 0).trans rfl
    have fgM0 : W3.frozen? ⟨gM, 0, none⟩ = false := blk_frozen (Bx.get HBW3.out (gM, #[.bool (mnM v), .slice A5 (D v.natAbs).length c5], 46) (by simp)) 0
    have qgM1 : W3.cell? ⟨gM, 1, none⟩ = some (.slice A5 (D v.natAbs).length c5) := (blk_cell (Bx.get HBW3.out (gM, #[.bool (mnM v), .slice A5 (D v.natAbs).length c5], 46) (by simp)) 1).trans rfl
    have fgM1 : W3.frozen? ⟨gM, 1, none⟩ = false := blk_frozen (Bx.get HBW3.out (gM, #[.bool (mnM v), .slice A5 (D v.natAbs).length c5], 46) (by simp)) 1
    go_wp2_with (fail)
    refine bodyPost_ret (results_ct rfl _ _ gB 46 #[.bool false, .slice none 0 0] (0, 0) _ rfl (blk_put (cs := #[.bool false, .slice none 0 0]) (blk_put (cs := #[.bool false, .slice none 0 0]) (Bx.get HBW3.out (gB, #[.bool false, .slice none 0 0], 46) (by simp)) 0 _ rfl) 1 _ rfl) Try.underlying46 rfl (by kernel_rfl)) rfl ?_
    refine ⟨_, by unfold rfE; rw [if_neg HC.out]; rfl, ?_, ?_⟩
    · unfold rfV; rw [if_neg HC.out]; exact Rm.zero _
    · exact (HBW3.out.bel.setCell (Bx.old HBW3.out (gB, #[.bool false, .slice none 0 0], 46) (by simp)) _).setCell (Bx.old HBW3.out (gB, #[.bool false, .slice none 0 0], 46) (by simp)) _

theorem rfrom_any (h l : Int) (h0 : 0 ≤ h) (h1 : h < 18446744073709551616) (l0 : 0 ≤ l) (l1 : l < 18446744073709551616) (w : World) :
    Calls Try.prog 30 #[W2 h l] w (RmE w (fwR h l) (if fwB h l then 3 else 0)) := by
  obtain ⟨H, rfl⟩ : ∃ H : Nat, h = (H : Int) := ⟨h.toNat, by omega⟩
  obtain ⟨L, rfl⟩ : ∃ L : Nat, l = (L : Int) := ⟨l.toNat, by omega⟩
  have key : ∀ (neg : Bool) (N : Nat), (if neg then -(N : Int) else (N : Int)) = sgn H L → (N < 170141183460469231731687303715884105728 ↔ ¬ ((H : Int) = 9223372036854775808 ∧ (L : Int) = 0)) → rfV neg N = fwR H L ∧ rfE N = (if fwB H L then 3 else 0) := by
    intro neg N e hN
    unfold rfV rfE fwR fwB
    by_cases c : (H : Int) = 9223372036854775808 ∧ (L : Int) = 0
    · rw [if_neg (fun h => hN.1 h c), if_neg (fun h => hN.1 h c), if_pos (decide_eq_true c), if_pos (decide_eq_true c)]
      exact ⟨rfl, rfl⟩
    · rw [if_pos (hN.2 c), if_pos (hN.2 c)]
      have hb : ¬ decide ((H : Int) = 9223372036854775808 ∧ (L : Int) = 0) = true := fun h => c (of_decide_eq_true h)
      rw [if_neg hb, if_neg hb]
      exact ⟨e, rfl⟩
  by_cases c : H < 9223372036854775808
  · obtain ⟨e1, e2⟩ := key false (H * 18446744073709551616 + L) (by unfold sgn; rw [if_neg (by decide), if_pos (by omega)]; omega) (by omega)
    rw [← e1, ← e2]
    exact rfrom_lo H L _ c (by omega) (by omega) rfl w
  · by_cases d : L = 0
    · obtain ⟨e1, e2⟩ := key true ((18446744073709551616 - H) * 18446744073709551616 + L) (by unfold sgn; rw [if_pos rfl, if_neg (by omega)]; omega) (by omega)
      rw [← e1, ← e2]
      exact rfrom_z H (18446744073709551616 - H) L _ (by omega) d (by rw [IntKind.wrap_u64]; omega) (by omega) (by omega) rfl w
    · obtain ⟨e1, e2⟩ := key true ((18446744073709551615 - H) * 18446744073709551616 + (18446744073709551616 - L)) (by unfold sgn; rw [if_pos rfl, if_neg (by omega)]; omega) (by omega)
      rw [← e1, ← e2]
      exact rfrom_hi H L (18446744073709551615 - H) (18446744073709551616 - L) _ (by omega) d (xor_max H (by omega)) (by rw [IntKind.wrap_u64]; omega) (by omega) (by omega) rfl w
end Go.Proofs.Ythmjmkbahneneaa.PMon
end

section
namespace Go.Proofs.Ythmjmkbahneneaa.PMon
open Go.RowKit Go.Proofs.Ythmjmkbahneneaa.PBig Go.Proofs.YthmjmkbahneneaaW.PrintWords Go.Proofs.YthmjmkbahneneaaW.PrintLast Go.Proofs.YthmjmkbahneneaaW.PrintMore
set_option linter.unusedVariables false
set_option linter.unusedSimpArgs false

def Two (w : World) (base : Nat) (x : Value) (xs : List Int) (y : Value) (ys : List Int) : Prop :=
  Kd.R (Kd.int .u32) 67 w base (fun k => some k ≠ y.ownBlock) x xs ∧ Kd.R (Kd.int .u32) 67 w base (fun k => some k ≠ x.ownBlock) y ys
theorem Two.symm {w : World} {base : Nat} {x y : Value} {xs ys : List Int} (h : Two w base x xs y ys) : Two w base y ys x xs := ⟨h.2, h.1⟩
theorem R_block_lt {w : World} {base : Nat} {ok : Nat → Prop} {x : Value} {xs : List Int} (h : Kd.R (Kd.int .u32) 67 w base ok x xs) (k : Nat) (hk : x.ownBlock = some k) : k < w.heap.size ∧ ∃ cs, w.heap[k]? = some (.cells cs 67 (0, 0)) := by
  obtain ⟨h0, inner, ho, hr⟩ := h
  exact ⟨own_lt ho k hk, own_typed ho k hk⟩
theorem Two.app {W w1 : World} {base : Nat} {x y v1 : Value} {xs ys : List Int} {zs : List Int} (h : Two W base x xs y ys) (h1 : Kd.R (Kd.int .u32) 67 w1 base (fun k => some k ≠ y.ownBlock) v1 zs) (hg : W.grownBy w1 x.ownBlock)
    (hat : v1.ownBlock = x.ownBlock ∨ ∃ b, v1.ownBlock = some b ∧ W.heap.size ≤ b) : Two w1 base v1 zs y ys := by
  refine ⟨h1, Kd.R_mono (Kd.R_grown (Kd.R_bound h.2) hg (fun k hk => hk.1)) (fun k hk => ?_)⟩
  obtain ⟨h2, _, h3, _⟩ := hk
  rcases hat with e | ⟨b, e, hb⟩
  · rw [e]; exact h2
  · rw [e]; intro e2; injection e2 with e2; omega
theorem Two.fresh {W : World} {base : Nat} {x y : Value} {xs ys : List Int} (h : Two W base x xs y ys) : ∀ k, W.heap.size ≤ k → some k ≠ y.ownBlock := by
  intro k hk e
  have := (R_block_lt h.2 k e.symm).1
  omega
theorem Bx.app {w W w1 : World} {l : List (Nat × Array Value × TypeId)} (h : Bx w W l) {base : Nat} {ok : Nat → Prop} {x : Value} {xs : List Int} (hx : Kd.R (Kd.int .u32) 67 W base ok x xs) (hg : W.grownBy w1 x.ownBlock) (hb : Below w.heap.size w w1) (ht : ∀ p ∈ l, p.2.2 ≠ 67) : Bx w w1 l := by
  refine ⟨hb, fun p hp => ⟨(h.2 p hp).1, ?_⟩⟩
  have hc := (h.2 p hp).2
  refine (hg.block p.1 (blk_lt hc) ?_).trans hc
  intro e
  obtain ⟨cs, h2⟩ := (R_block_lt hx p.1 e.symm).2
  rw [h2] at hc
  injection hc with hc
  injection hc with _ hc
  exact ht p hp hc.symm
theorem word2_ev (l : List Int) (hd : Dg l) (hl : l.length ≤ 2) : Ev (fun k => bourseref01_word.f k l) (vl l, 0) := by
  unfold bourseref01_word.f
  refine Ev.congr (fun k => if_neg (by omega)) ?_
  match l, hd, hl with
  | [], _, _ => exact Ev.step (f := fun _ => some (0, 0)) (fun k => by show bourseref01_word.l0 (k + 1) [] 0 (wrap64 (0 - 1)) = _; rw [wz]; rfl) (Ev.now _)
  | [a], hd, _ =>
    have ha := hd a (by simp)
    refine Ev.step (f := fun k => bourseref01_word.l0 k [a] a (-1)) (fun k => ?_) (Ev.step (f := fun _ => some (vl [a], 0)) (fun k => by unfold bourseref01_word.l0 vl vl; rw [if_neg (by decide)]; simp) (Ev.now _))
    show bourseref01_word.l0 (k + 1) [a] 0 (wrap64 (1 - 1)) = _
    simp only [bourseref01_word.l0]
    rw [wo, wz]
    rw [if_pos (by decide), if_pos (by decide), if_pos (by simp), show rd [a] 0 = a from rfl]
    congr 1
    simp only [MonA.wu]
    omega
  | [a, b], hd, _ =>
    have ha := hd a (by simp)
    have hb := hd b (by simp)
    refine Ev.step (f := fun k => bourseref01_word.l0 k [a, b] b 0) (fun k => ?_) (Ev.step (f := fun k => bourseref01_word.l0 k [a, b] (b * 4294967296 + a) (-1)) (fun k => ?_) (Ev.step (f := fun _ => some (vl [a, b], 0)) (fun k => by unfold bourseref01_word.l0 vl vl vl; rw [if_neg (by decide)]; congr 2; omega) (Ev.now _)))
    · show bourseref01_word.l0 (k + 1) [a, b] 0 (wrap64 (2 - 1)) = _
      simp only [bourseref01_word.l0]
      rw [wt, wo]
      rw [if_pos (by decide), if_pos (by decide), if_pos (by simp), show rd [a, b] 1 = b from rfl]
      congr 1
      simp only [MonA.wu]
      omega
    · simp only [bourseref01_word.l0]
      rw [wz, if_pos (by decide), if_pos (by decide), if_pos (by simp), show rd [a, b] 0 = a from rfl]
      congr 1
      simp only [MonA.wu]
      omega
theorem rword2 (l : List Int) (hd : Dg l) (hl : l.length ≤ 2) (A : Option Addr) (c : Nat) (w : World) (hr : Kd.C (Kd.int .u32) w A l.length l) (hc : l.length ≤ c) (r : Int) (e : vl l = r) :
    Calls Try.prog 48 #[.slice A l.length c] w fun e w' => e = .returned (.tuple #[.int .u64 r, .int .i64 0]) ∧ ∃ n, w' = w.drewN n := by
  obtain ⟨k, hk⟩ := (word2_ev l hd hl).rounds
  subst e
  refine (bourseref01_word.calls k A c l _ _ w hr hc hk).mono ?_
  rintro e w' ⟨rfl, n, rfl⟩
  exact ⟨rfl, n, rfl⟩
theorem split_vl (n : Nat) (h : n < 340282366920938463463374607431768211456) : vl ((D n).take 2) = ((n % 18446744073709551616 : Nat) : Int) ∧ vl ((D n).drop 2) = ((n / 18446744073709551616 : Nat) : Int) ∧ ((D n).drop 2).length ≤ 2 := by
  have h4 : (D n).length ≤ 4 := len_D n 4 (by omega)
  have e := vl_append ((D n).take 2) ((D n).drop 2)
  rw [List.take_append_drop, vl_D] at e
  have p1 := vl_lt _ ((D_dg n).take 2)
  have p0 := vl_nonneg _ ((D_dg n).take 2)
  have p2 := vl_nonneg _ ((D_dg n).drop 2)
  have l2 : ((D n).drop 2).length ≤ 2 := by rw [List.length_drop]; omega
  by_cases c : 2 ≤ (D n).length
  · have l1 : ((D n).take 2).length = 2 := by rw [List.length_take]; omega
    rw [l1] at e p1
    have q : (4294967296 : Int) ^ 2 = 18446744073709551616 := by decide
    rw [q] at e p1
    refine ⟨by omega, by omega, l2⟩
  · have e2 : (D n).drop 2 = [] := List.drop_eq_nil_of_le (by omega)
    have e3 : (D n).take 2 = D n := List.take_of_length_le (by omega)
    have hn : n < 4294967296 ^ 1 := (D_len n 1).1 (by omega)
    rw [e2, e3, vl_D]
    refine ⟨by omega, ?_, by simp⟩
    show (0 : Int) = _
    omega

set_option maxHeartbeats 8000000 in
set_option maxRecDepth 100000 in
theorem rwords_f (n : Nat) (hn : n < 340282366920938463463374607431768211456) (A : Option Addr) (c m : Nat) (hm : m = (D n).length) (x0 x1 : Int) (e0 : x0 = ((n / 18446744073709551616 : Nat) : Int)) (e1 : x1 = ((n % 18446744073709551616 : Nat) : Int)) (w : World) (hr : Kd.R (Kd.int .u32) 67 w 0 (fun _ => True) (.slice A m c) (D n)) :
    Calls Try.prog 27 #[.agg #[.bool false, .slice A m c]] w fun e w' => e = .returned (W2 x0 x1) ∧ Below w.heap.size w w' := by
  have h4 : (D n).length ≤ 4 := len_D n 4 (by omega)
  obtain ⟨ds, hds⟩ : ∃ ds, ds = D n := ⟨_, rfl⟩
  have HN := Aside0.mk (And.intro hn (And.intro hds (And.intro e0 e1)))
  rw [← hds] at hr hm h4
  have HR := Aside0.mk hr
  have HM := Aside0.mk hm
  have hm4 : m ≤ 4 := by rw [hm]; exact h4
  have info67 : (Try.prog.info? 67).map (fun i => (i.zero, i.size, i.bytes)) = some (some (.int .u32 0), 1, 4) := by kernel_rfl
  clear hn hds hr hm h4 e0 e1
  go_enter Try.func27, Try.ntmps27
  go_upto_region 1 with (fail)
  obtain ⟨W1, hW⟩ : ∃ W, W = ((w.alloc (.cells #[.bool false, .slice A m c] 46)).alloc (.cells #[.int .u64 0, .int .u64 0] 38)) := ⟨_, rfl⟩
  obtain ⟨gA, hgA⟩ : ∃ g, g = w.heap.size := ⟨_, rfl⟩
  obtain ⟨gR, hgR⟩ : ∃ g, g = w.heap.size + 1 := ⟨_, rfl⟩
  have HBW1 : Aside0 (Bx w W1 [(gA, #[.bool false, .slice A m c], 46), (gR, #[.int .u64 0, .int .u64 0], 38)]) := ⟨by rw [hW, hgA, hgR]; exact Bx.allocs2 _ _ _ _ _⟩
  rw [← hW, ← hgR, ← hgA]
  clear hW hgA hgR
  go_upto_region 2 with (first
    | ((with_reducible refine gate_dst (N := 10) rfl ?_); refine Kd.R_lit (Kd.int .u32) _ 67 ?hg (N := 10) ?hd (xs := ([] : List Int)) (inner := []) (ok := fun _ => True) (okp := fun _ => True) ?hr ?hp (fun _ hk => hk) trivial (Below.refl _ _) (Nat.le_refl _) (by simp) ?_; (case hd => rfl); (case hg => rfl); (case hr => first | (go_simp; done) | (go_simp; rfl)); (case hp => exact (Reps.none _ _)); intro va wa ho hb hg_ hnew_; clear hg_ hnew_; have HOa := Aside0.mk ho; have HBa := Aside0.mk hb; clear hb ho))
  go_upto_region 3 with (first
    | ((with_reducible refine gate_dst (N := 11) rfl ?_); refine Kd.R_lit (Kd.int .u32) _ 67 ?hg (N := 11) ?hd (xs := ([] : List Int)) (inner := []) (ok := fun _ => True) (okp := fun _ => True) ?hr ?hp (fun _ hk => hk) trivial (Below.refl _ _) (Nat.le_refl _) (by simp) ?_; (case hd => rfl); (case hg => rfl); (case hr => first | (go_simp; done) | (go_simp; rfl)); (case hp => exact (Reps.none _ _)); intro vb wb ho hb hg_ hnew_; clear hg_ hnew_; have HOb := Aside0.mk ho; have HBb := Aside0.mk hb; clear hb ho))
  have HT : Aside0 (Two wb w.heap.size va (ds.take (min 0 2)) vb ((ds.take 0).drop 2)) := ⟨by
    have e1 : ds.take (min 0 2) = [] := rfl
    have e2 : (ds.take 0).drop 2 = [] := rfl
    rw [e1, e2]
    refine ⟨Kd.R_lower (Kd.R_mono (Kd.R_below (Kd.R_bound HOa.out) HBb.out) (fun k hk e => ?_)) HBW1.out.bel.size, Kd.R_lower (Kd.R_mono (Kd.R_bound HOb.out) (fun k hk e => ?_)) (Nat.le_trans HBW1.out.bel.size HBa.out.size)⟩
    · obtain ⟨_, _, h3, _⟩ := hk
      have := (Kd.R_bound HOb.out).1 k e.symm
      omega
    · obtain ⟨_, h3, _⟩ := hk
      have := (R_block_lt HOa.out k e.symm).1
      omega⟩
  have HX : Aside0 (Bx w wb [(gA, #[.bool false, .slice A m c], 46), (gR, #[.int .u64 0, .int .u64 0], 38)]) := ⟨(HBW1.out.below HBa.out).below HBb.out⟩
  clear HOa HOb HBa HBb HBW1
  go_wp2_with (fail)
  go_loopg [3, 4, 5] m (fun kq v3 v4 v5 w' => ∃ i : Nat, v5 = .int .i64 (i : Int) ∧ Aside0 (kq + i = m) ∧ Aside0 (Two w' w.heap.size v3 (ds.take (min i 2)) v4 ((ds.take i).drop 2)) ∧ Aside0 (Bx w w' [(gA, #[.bool false, .slice A m c], 46), (gR, #[.int .u64 0, .int .u64 0], 38)]))
  case atStart => exact ⟨0, rfl, ⟨rfl⟩, HT, HX⟩
  case round =>
    clear HT HX
    obtain ⟨i, rfl, HI, HT, HX⟩ := hrel
    have qgA0 : wr.cell? ⟨gA, 0, none⟩ = some (.bool false) := (blk_cell (Bx.get HX.out (gA, #[.bool false, .slice A m c], 46) (by simp)) 0).trans rfl
    have qgA1 : wr.cell? ⟨gA, 1, none⟩ = some (.slice A m c) := (blk_cell (Bx.get HX.out (gA, #[.bool false, .slice A m c], 46) (by simp)) 1).trans rfl
    have qgR0 : wr.cell? ⟨gR, 0, none⟩ = some (.int .u64 0) := (blk_cell (Bx.get HX.out (gR, #[.int .u64 0, .int .u64 0], 38) (by simp)) 0).trans rfl
    have qgR1 : wr.cell? ⟨gR, 1, none⟩ = some (.int .u64 0) := (blk_cell (Bx.get HX.out (gR, #[.int .u64 0, .int .u64 0], 38) (by simp)) 1).trans rfl
    by_cases hi : i < m
    · have hiI : (i : Int) < (m : Int) := by omega
      have hC : Kd.C (Kd.int .u32) wr A m ds := by
        have h := Kd.R_reads' (Kd.R_below HR.out HX.out.bel)
        rw [h.1]; exact h.2.2
      obtain ⟨ad, hA, hcell⟩ := Kd.at_int hC (i : Int) (by omega) hiI
      rw [Int.toNat_natCast] at hcell
      obtain ⟨d, hd⟩ : ∃ d, d = rd ds (i : Int) := ⟨_, rfl⟩
      rw [← hd] at hcell
      have HD := Aside0.mk hd
      subst hA
      have HI2 : Aside0 (gk - 1 + (i + 1) = m ∧ gk - 1 < gk) := ⟨by have := HI.out; omega⟩
      have hw : IntKind.i64.wrap ((i : Int) + 1) = ((i + 1 : Nat) : Int) := by rw [IntWalk.i64_in _ (by omega)]; rfl
      have TK : Aside0 (ds.take (i + 1) = ds.take i ++ [d]) := ⟨by
        rw [List.take_succ_eq_append_getElem (by rw [← HM.out]; exact hi), hd, rdn, List.getD_eq_getElem?_getD, List.getElem?_eq_getElem (by rw [← HM.out]; exact hi)]; rfl⟩
      clear hC hd
      by_cases h2 : i < 2
      · have h2I : (i : Int) < 2 := by omega
        have HL : Aside0 ((ds.take (min i 2)).length ≤ 2) := ⟨by rw [List.length_take]; omega⟩
        go_wp2_with (first
          | ((with_reducible refine gate_builtin (b := .append) (xs := #[.tmp 21, .tmp 27]) rfl ?_); (try (refine gate_guard (by rfl) ?_; dsimp only)); at_builtin; refine Kd.R_append (Kd.int .u32) (w0 := w) w.heap.size rfl (.tmp 21) (.tmp 27) 44 67 (.int .u32 0) 4 rfl Try.underlying44 info67 rfl (by decide) (by omega) u3 (ds.take (min i 2)) d [.int .u32 d] (fun k => some k ≠ (u4).ownBlock) (fun _ => False) rfl rfl ?aP (fun _ hk => hk.elim) ?aF ?aO ?aB ?aS ?aL ?_; (case aP => exact rfl); (case aB => exact HX.out.bel); (case aF => exact Two.fresh HT.out); (case aO => exact HT.out.1); (case aS => exact HX.out.bel.size); (case aL => have := HL.out; omega); intro v1 w1 ho hb hg hat; have HT1 := Aside0.mk (Two.app HT.out ho hg hat); have HX1 := Aside0.mk (Bx.app HX.out HT.out.1 hg hb (by intro p hp; simp only [List.mem_cons, List.not_mem_nil, or_false] at hp; rcases hp with rfl | rfl; exact (show (46 : Nat) ≠ 67 by decide); exact (show (38 : Nat) ≠ 67 by decide))); clear ho hb hg hat))
        go_roundg (gk - 1)
        all_goals first
          | exact HI2.out.2
          | exact ⟨i + 1, rfl, ⟨HI2.out.1⟩, ⟨by
              have e1 : min i 2 = i := by omega
              have e2 : min (i + 1) 2 = i + 1 := by omega
              have e3 : (ds.take i).drop 2 = (ds.take (i + 1)).drop 2 := by rw [List.drop_eq_nil_of_le (by rw [List.length_take]; omega), List.drop_eq_nil_of_le (by rw [List.length_take]; omega)]
              rw [e2, ← e3, TK.out]
              have h := HT1.out
              rw [e1] at h
              exact h⟩, HX1⟩
      · have h2I : ¬ (i : Int) < 2 := by omega
        have HL : Aside0 (((ds.take i).drop 2).length ≤ 4) := ⟨by rw [List.length_drop, List.length_take]; omega⟩
        go_wp2_with (first
          | ((with_reducible refine gate_builtin (b := .append) (xs := #[.tmp 29, .tmp 35]) rfl ?_); (try (refine gate_guard (by rfl) ?_; dsimp only)); at_builtin; refine Kd.R_append (Kd.int .u32) (w0 := w) w.heap.size rfl (.tmp 29) (.tmp 35) 44 67 (.int .u32 0) 4 rfl Try.underlying44 info67 rfl (by decide) (by omega) u4 ((ds.take i).drop 2) d [.int .u32 d] (fun k => some k ≠ (u3).ownBlock) (fun _ => False) rfl rfl ?aP (fun _ hk => hk.elim) ?aF ?aO ?aB ?aS ?aL ?_; (case aP => exact rfl); (case aB => exact HX.out.bel); (case aF => exact Two.fresh HT.out.symm); (case aO => exact HT.out.symm.1); (case aS => exact HX.out.bel.size); (case aL => have := HL.out; omega); intro v1 w1 ho hb hg hat; have HT1 := Aside0.mk (Two.app HT.out.symm ho hg hat); have HX1 := Aside0.mk (Bx.app HX.out HT.out.symm.1 hg hb (by intro p hp; simp only [List.mem_cons, List.not_mem_nil, or_false] at hp; rcases hp with rfl | rfl; exact (show (46 : Nat) ≠ 67 by decide); exact (show (38 : Nat) ≠ 67 by decide))); clear ho hb hg hat))
        go_roundg (gk - 1)
        all_goals first
          | exact HI2.out.2
          | exact ⟨i + 1, rfl, ⟨HI2.out.1⟩, ⟨by
              have e1 : min i 2 = 2 := by omega
              have e2 : min (i + 1) 2 = 2 := by omega
              have e3 : (ds.take (i + 1)).drop 2 = (ds.take i).drop 2 ++ [d] := by rw [TK.out, List.drop_append_of_le_length (by rw [List.length_take]; have := HM.out; omega)]
              rw [e2, e3]
              have h := HT1.out.symm
              rw [e1] at h
              exact h⟩, HX1⟩
    · have hni : m = i := by have := HI.out; omega
      obtain ⟨s1, s2, s3⟩ := split_vl n HN.out.1
      rw [← HN.out.2.1] at s1 s2 s3
      have t1 : ds.take (min i 2) = ds.take 2 := by
        by_cases c : 2 ≤ i
        · rw [show min i 2 = 2 by omega]
        · rw [show min i 2 = i by omega, List.take_of_length_le (by rw [← HM.out]; omega), List.take_of_length_le (by rw [← HM.out]; omega)]
      have t2 : (ds.take i).drop 2 = ds.drop 2 := by rw [List.take_of_length_le (by rw [← HM.out]; omega)]
      have HT2 := HT.out
      rw [t1, t2] at HT2
      have l1 : (ds.take 2).length ≤ 2 := by rw [List.length_take]; omega
      have g1 : Dg ds := by rw [HN.out.2.1]; exact D_dg n
      obtain ⟨B1, d1, eB1⟩ := Kd.R_slice HT2.1
      subst eB1
      obtain ⟨B2, d2, eB2⟩ := Kd.R_slice HT2.2
      subst eB2
      have r1 := Kd.R_reads' HT2.1
      have r2 := Kd.R_reads' HT2.2
      obtain ⟨L, hL⟩ : ∃ L : Nat, L = n % 18446744073709551616 := ⟨_, rfl⟩
      obtain ⟨H, hH⟩ : ∃ H : Nat, H = n / 18446744073709551616 := ⟨_, rfl⟩
      rw [← hL] at s1
      rw [← hH] at s2
      have HC1 := Aside0.mk (fun W (hc : Kd.C (Kd.int .u32) W B1 (ds.take 2).length (ds.take 2)) => rword2 (ds.take 2) (g1.take 2) l1 B1 d1 W hc r1.2.1 _ s1)
      have HC2 := Aside0.mk (fun W (hc : Kd.C (Kd.int .u32) W B2 (ds.drop 2).length (ds.drop 2)) => rword2 (ds.drop 2) (g1.drop 2) s3 B2 d2 W hc r2.2.1 _ s2)
      have HR1 := Aside0.mk r1.2.2
      have HR2 : Aside0 (∀ k : Nat, Kd.C (Kd.int .u32) (wr.drewN k) B2 (ds.drop 2).length (ds.drop 2)) := ⟨fun k => Kd.C_drewN r2.2.2 k⟩
      have HLH := Aside0.mk (And.intro hL hH)
      obtain ⟨y1, hy1⟩ : ∃ y, y = (ds.take 2).length := ⟨_, rfl⟩
      obtain ⟨y2, hy2⟩ : ∃ y, y = (ds.drop 2).length := ⟨_, rfl⟩
      rw [← hy1] at HC1 HR1 ⊢
      rw [← hy2] at HC2 HR2 ⊢
      have hcm1 : decide (i < m) = false := decide_eq_false (by omega)
      clear s1 s2 s3 t1 t2 HT2 l1 g1 r1 r2 hL hH hy1 hy2 HT hi hni
      have f0 : wr.frozen? ⟨gR, 0, none⟩ = false := blk_frozen (Bx.get HX.out (gR, #[.int .u64 0, .int .u64 0], 38) (by simp)) 0
      have f1 : wr.frozen? ⟨gR, 1, none⟩ = false := blk_frozen (Bx.get HX.out (gR, #[.int .u64 0, .int .u64 0], 38) (by simp)) 1
      go_wp2_with (first
        | ((with_reducible refine gate_callee (f := 48) rfl ?_); (try (refine gate_guard (by rfl) ?_; dsimp only)); refine goesL_ (some 39) rfl rfl Try.func48 (by kernel_rfl) rfl #[.slice B1 y1 d1] rfl (by (try simp only [List.map_toArray, List.map_cons, List.map_nil]); first | done | rfl) ?_; (with_reducible refine (HC1.out _ HR1.out).mono ?_); rintro e w' ⟨rfl, ⟨nd1, rfl⟩⟩; refine ⟨_, rfl, ?_⟩; skip)
        | ((with_reducible refine gate_callee (f := 48) rfl ?_); (try (refine gate_guard (by rfl) ?_; dsimp only)); refine goesL_ (some 44) rfl rfl Try.func48 (by kernel_rfl) rfl #[.slice B2 y2 d2] rfl (by (try simp only [List.map_toArray, List.map_cons, List.map_nil]); first | done | rfl) ?_; (with_reducible refine (HC2.out _ (HR2.out _)).mono ?_); rintro e w' ⟨rfl, ⟨nd2, rfl⟩⟩; refine ⟨_, rfl, ?_⟩; skip))
      have g1 := Bx.get HX.out (gR, #[.int .u64 0, .int .u64 0], 38) (by simp)
      have g2 := Bx.old HX.out (gR, #[.int .u64 0, .int .u64 0], 38) (by simp)
      refine bodyPost_ret (results_cell_row rfl _ _ gR 38 #[.int .u64 (H : Int), .int .u64 (L : Int)] (0, 0) _ rfl (blk_put (cs := #[.int .u64 (H : Int), .int .u64 0]) (blk_put (cs := #[.int .u64 0, .int .u64 0]) (show (wr.drewN (nd1 + nd2)).heap[gR]? = _ from g1) 0 _ rfl) 1 _ rfl) Try.underlying38 rfl (by kernel_rfl)) rfl ⟨by rw [HN.out.2.2.1, HN.out.2.2.2, ← HLH.out.1, ← HLH.out.2]; rfl, ?_⟩
      exact below_set (below_set (pw_below_drewN HX.out.bel _) g2) g2

set_option maxHeartbeats 8000000 in
set_option maxRecDepth 100000 in
theorem rwords_t (n : Nat) (hn : n < 340282366920938463463374607431768211456) (A : Option Addr) (c m : Nat) (hm : m = (D n).length) (x0 x1 : Int) (e0 : x0 = (if n % 18446744073709551616 = 0 then IntKind.u64.wrap (-((n / 18446744073709551616 : Nat) : Int)) else ((18446744073709551615 - n / 18446744073709551616 : Nat) : Int))) (e1 : x1 = (if n % 18446744073709551616 = 0 then 0 else IntKind.u64.wrap (-((n % 18446744073709551616 : Nat) : Int)))) (w : World) (hr : Kd.R (Kd.int .u32) 67 w 0 (fun _ => True) (.slice A m c) (D n)) :
    Calls Try.prog 27 #[.agg #[.bool true, .slice A m c]] w fun e w' => e = .returned (W2 x0 x1) ∧ Below w.heap.size w w' := by
  have h4 : (D n).length ≤ 4 := len_D n 4 (by omega)
  obtain ⟨ds, hds⟩ : ∃ ds, ds = D n := ⟨_, rfl⟩
  have HN := Aside0.mk (And.intro hn (And.intro hds (And.intro e0 e1)))
  rw [← hds] at hr hm h4
  have HR := Aside0.mk hr
  have HM := Aside0.mk hm
  have hm4 : m ≤ 4 := by rw [hm]; exact h4
  have info67 : (Try.prog.info? 67).map (fun i => (i.zero, i.size, i.bytes)) = some (some (.int .u32 0), 1, 4) := by kernel_rfl
  clear hn hds hr hm h4 e0 e1
  go_enter Try.func27, Try.ntmps27
  go_upto_region 1 with (fail)
  obtain ⟨W1, hW⟩ : ∃ W, W = ((w.alloc (.cells #[.bool true, .slice A m c] 46)).alloc (.cells #[.int .u64 0, .int .u64 0] 38)) := ⟨_, rfl⟩
  obtain ⟨gA, hgA⟩ : ∃ g, g = w.heap.size := ⟨_, rfl⟩
  obtain ⟨gR, hgR⟩ : ∃ g, g = w.heap.size + 1 := ⟨_, rfl⟩
  have HBW1 : Aside0 (Bx w W1 [(gA, #[.bool true, .slice A m c], 46), (gR, #[.int .u64 0, .int .u64 0], 38)]) := ⟨by rw [hW, hgA, hgR]; exact Bx.allocs2 _ _ _ _ _⟩
  rw [← hW, ← hgR, ← hgA]
  clear hW hgA hgR
  go_upto_region 2 with (first
    | ((with_reducible refine gate_dst (N := 10) rfl ?_); refine Kd.R_lit (Kd.int .u32) _ 67 ?hg (N := 10) ?hd (xs := ([] : List Int)) (inner := []) (ok := fun _ => True) (okp := fun _ => True) ?hr ?hp (fun _ hk => hk) trivial (Below.refl _ _) (Nat.le_refl _) (by simp) ?_; (case hd => rfl); (case hg => rfl); (case hr => first | (go_simp; done) | (go_simp; rfl)); (case hp => exact (Reps.none _ _)); intro va wa ho hb hg_ hnew_; clear hg_ hnew_; have HOa := Aside0.mk ho; have HBa := Aside0.mk hb; clear hb ho))
  go_upto_region 3 with (first
    | ((with_reducible refine gate_dst (N := 11) rfl ?_); refine Kd.R_lit (Kd.int .u32) _ 67 ?hg (N := 11) ?hd (xs := ([] : List Int)) (inner := []) (ok := fun _ => True) (okp := fun _ => True) ?hr ?hp (fun _ hk => hk) trivial (Below.refl _ _) (Nat.le_refl _) (by simp) ?_; (case hd => rfl); (case hg => rfl); (case hr => first | (go_simp; done) | (go_simp; rfl)); (case hp => exact (Reps.none _ _)); intro vb wb ho hb hg_ hnew_; clear hg_ hnew_; have HOb := Aside0.mk ho; have HBb := Aside0.mk hb; clear hb ho))
  have HT : Aside0 (Two wb w.heap.size va (ds.take (min 0 2)) vb ((ds.take 0).drop 2)) := ⟨by
    have e1 : ds.take (min 0 2) = [] := rfl
    have e2 : (ds.take 0).drop 2 = [] := rfl
    rw [e1, e2]
    refine ⟨Kd.R_lower (Kd.R_mono (Kd.R_below (Kd.R_bound HOa.out) HBb.out) (fun k hk e => ?_)) HBW1.out.bel.size, Kd.R_lower (Kd.R_mono (Kd.R_bound HOb.out) (fun k hk e => ?_)) (Nat.le_trans HBW1.out.bel.size HBa.out.size)⟩
    · obtain ⟨_, _, h3, _⟩ := hk
      have := (Kd.R_bound HOb.out).1 k e.symm
      omega
    · obtain ⟨_, h3, _⟩ := hk
      have := (R_block_lt HOa.out k e.symm).1
      omega⟩
  have HX : Aside0 (Bx w wb [(gA, #[.bool true, .slice A m c], 46), (gR, #[.int .u64 0, .int .u64 0], 38)]) := ⟨(HBW1.out.below HBa.out).below HBb.out⟩
  clear HOa HOb HBa HBb HBW1
  go_wp2_with (fail)
  go_loopg [3, 4, 5] m (fun kq v3 v4 v5 w' => ∃ i : Nat, v5 = .int .i64 (i : Int) ∧ Aside0 (kq + i = m) ∧ Aside0 (Two w' w.heap.size v3 (ds.take (min i 2)) v4 ((ds.take i).drop 2)) ∧ Aside0 (Bx w w' [(gA, #[.bool true, .slice A m c], 46), (gR, #[.int .u64 0, .int .u64 0], 38)]))
  case atStart => exact ⟨0, rfl, ⟨rfl⟩, HT, HX⟩
  case round =>
    clear HT HX
    obtain ⟨i, rfl, HI, HT, HX⟩ := hrel
    have qgA0 : wr.cell? ⟨gA, 0, none⟩ = some (.bool true) := (blk_cell (Bx.get HX.out (gA, #[.bool true, .slice A m c], 46) (by simp)) 0).trans rfl
    have qgA1 : wr.cell? ⟨gA, 1, none⟩ = some (.slice A m c) := (blk_cell (Bx.get HX.out (gA, #[.bool true, .slice A m c], 46) (by simp)) 1).trans rfl
    have qgR0 : wr.cell? ⟨gR, 0, none⟩ = some (.int .u64 0) := (blk_cell (Bx.get HX.out (gR, #[.int .u64 0, .int .u64 0], 38) (by simp)) 0).trans rfl
    have qgR1 : wr.cell? ⟨gR, 1, none⟩ = some (.int .u64 0) := (blk_cell (Bx.get HX.out (gR, #[.int .u64 0, .int .u64 0], 38) (by simp)) 1).trans rfl
    by_cases hi : i < m
    · have hiI : (i : Int) < (m : Int) := by omega
      have hC : Kd.C (Kd.int .u32) wr A m ds := by
        have h := Kd.R_reads' (Kd.R_below HR.out HX.out.bel)
        rw [h.1]; exact h.2.2
      obtain ⟨ad, hA, hcell⟩ := Kd.at_int hC (i : Int) (by omega) hiI
      rw [Int.toNat_natCast] at hcell
      obtain ⟨d, hd⟩ : ∃ d, d = rd ds (i : Int) := ⟨_, rfl⟩
      rw [← hd] at hcell
      have HD := Aside0.mk hd
      subst hA
      have HI2 : Aside0 (gk - 1 + (i + 1) = m ∧ gk - 1 < gk) := ⟨by have := HI.out; omega⟩
      have hw : IntKind.i64.wrap ((i : Int) + 1) = ((i + 1 : Nat) : Int) := by rw [IntWalk.i64_in _ (by omega)]; rfl
      have TK : Aside0 (ds.take (i + 1) = ds.take i ++ [d]) := ⟨by
        rw [List.take_succ_eq_append_getElem (by rw [← HM.out]; exact hi), hd, rdn, List.getD_eq_getElem?_getD, List.getElem?_eq_getElem (by rw [← HM.out]; exact hi)]; rfl⟩
      clear hC hd
      by_cases h2 : i < 2
      · have h2I : (i : Int) < 2 := by omega
        have HL : Aside0 ((ds.take (min i 2)).length ≤ 2) := ⟨by rw [List.length_take]; omega⟩
        go_wp2_with (first
          | ((with_reducible refine gate_builtin (b := .append) (xs := #[.tmp 21, .tmp 27]) rfl ?_); (try (refine gate_guard (by rfl) ?_; dsimp only)); at_builtin; refine Kd.R_append (Kd.int .u32) (w0 := w) w.heap.size rfl (.tmp 21) (.tmp 27) 44 67 (.int .u32 0) 4 rfl Try.underlying44 info67 rfl (by decide) (by omega) u3 (ds.take (min i 2)) d [.int .u32 d] (fun k => some k ≠ (u4).ownBlock) (fun _ => False) rfl rfl ?aP (fun _ hk => hk.elim) ?aF ?aO ?aB ?aS ?aL ?_; (case aP => exact rfl); (case aB => exact HX.out.bel); (case aF => exact Two.fresh HT.out); (case aO => exact HT.out.1); (case aS => exact HX.out.bel.size); (case aL => have := HL.out; omega); intro v1 w1 ho hb hg hat; have HT1 := Aside0.mk (Two.app HT.out ho hg hat); have HX1 := Aside0.mk (Bx.app HX.out HT.out.1 hg hb (by intro p hp; simp only [List.mem_cons, List.not_mem_nil, or_false] at hp; rcases hp with rfl | rfl; exact (show (46 : Nat) ≠ 67 by decide); exact (show (38 : Nat) ≠ 67 by decide))); clear ho hb hg hat))
        go_roundg (gk - 1)
        all_goals first
          | exact HI2.out.2
          | exact ⟨i + 1, rfl, ⟨HI2.out.1⟩, ⟨by
              have e1 : min i 2 = i := by omega
              have e2 : min (i + 1) 2 = i + 1 := by omega
              have e3 : (ds.take i).drop 2 = (ds.take (i + 1)).drop 2 := by rw [List.drop_eq_nil_of_le (by rw [List.length_take]; omega), List.drop_eq_nil_of_le (by rw [List.length_take]; omega)]
              rw [e2, ← e3, TK.out]
              have h := HT1.out
              rw [e1] at h
              exact h⟩, HX1⟩
      · have h2I : ¬ (i : Int) < 2 := by omega
        have HL : Aside0 (((ds.take i).drop 2).length ≤ 4) := ⟨by rw [List.length_drop, List.length_take]; omega⟩
        go_wp2_with (first
          | ((with_reducible refine gate_builtin (b := .append) (xs := #[.tmp 29, .tmp 35]) rfl ?_); (try (refine gate_guard (by rfl) ?_; dsimp only)); at_builtin; refine Kd.R_append (Kd.int .u32) (w0 := w) w.heap.size rfl (.tmp 29) (.tmp 35) 44 67 (.int .u32 0) 4 rfl Try.underlying44 info67 rfl (by decide) (by omega) u4 ((ds.take i).drop 2) d [.int .u32 d] (fun k => some k ≠ (u3).ownBlock) (fun _ => False) rfl rfl ?aP (fun _ hk => hk.elim) ?aF ?aO ?aB ?aS ?aL ?_; (case aP => exact rfl); (case aB => exact HX.out.bel); (case aF => exact Two.fresh HT.out.symm); (case aO => exact HT.out.symm.1); (case aS => exact HX.out.bel.size); (case aL => have := HL.out; omega); intro v1 w1 ho hb hg hat; have HT1 := Aside0.mk (Two.app HT.out.symm ho hg hat); have HX1 := Aside0.mk (Bx.app HX.out HT.out.symm.1 hg hb (by intro p hp; simp only [List.mem_cons, List.not_mem_nil, or_false] at hp; rcases hp with rfl | rfl; exact (show (46 : Nat) ≠ 67 by decide); exact (show (38 : Nat) ≠ 67 by decide))); clear ho hb hg hat))
        go_roundg (gk - 1)
        all_goals first
          | exact HI2.out.2
          | exact ⟨i + 1, rfl, ⟨HI2.out.1⟩, ⟨by
              have e1 : min i 2 = 2 := by omega
              have e2 : min (i + 1) 2 = 2 := by omega
              have e3 : (ds.take (i + 1)).drop 2 = (ds.take i).drop 2 ++ [d] := by rw [TK.out, List.drop_append_of_le_length (by rw [List.length_take]; have := HM.out; omega)]
              rw [e2, e3]
              have h := HT1.out.symm
              rw [e1] at h
              exact h⟩, HX1⟩
    · have hni : m = i := by have := HI.out; omega
      obtain ⟨s1, s2, s3⟩ := split_vl n HN.out.1
      rw [← HN.out.2.1] at s1 s2 s3
      have t1 : ds.take (min i 2) = ds.take 2 := by
        by_cases c : 2 ≤ i
        · rw [show min i 2 = 2 by omega]
        · rw [show min i 2 = i by omega, List.take_of_length_le (by rw [← HM.out]; omega), List.take_of_length_le (by rw [← HM.out]; omega)]
      have t2 : (ds.take i).drop 2 = ds.drop 2 := by rw [List.take_of_length_le (by rw [← HM.out]; omega)]
      have HT2 := HT.out
      rw [t1, t2] at HT2
      have l1 : (ds.take 2).length ≤ 2 := by rw [List.length_take]; omega
      have g1 : Dg ds := by rw [HN.out.2.1]; exact D_dg n
      obtain ⟨B1, d1, eB1⟩ := Kd.R_slice HT2.1
      subst eB1
      obtain ⟨B2, d2, eB2⟩ := Kd.R_slice HT2.2
      subst eB2
      have r1 := Kd.R_reads' HT2.1
      have r2 := Kd.R_reads' HT2.2
      obtain ⟨L, hL⟩ : ∃ L : Nat, L = n % 18446744073709551616 := ⟨_, rfl⟩
      obtain ⟨H, hH⟩ : ∃ H : Nat, H = n / 18446744073709551616 := ⟨_, rfl⟩
      rw [← hL] at s1
      rw [← hH] at s2
      have HC1 := Aside0.mk (fun W (hc : Kd.C (Kd.int .u32) W B1 (ds.take 2).length (ds.take 2)) => rword2 (ds.take 2) (g1.take 2) l1 B1 d1 W hc r1.2.1 _ s1)
      have HC2 := Aside0.mk (fun W (hc : Kd.C (Kd.int .u32) W B2 (ds.drop 2).length (ds.drop 2)) => rword2 (ds.drop 2) (g1.drop 2) s3 B2 d2 W hc r2.2.1 _ s2)
      have HR1 := Aside0.mk r1.2.2
      have HR2 : Aside0 (∀ k : Nat, Kd.C (Kd.int .u32) (wr.drewN k) B2 (ds.drop 2).length (ds.drop 2)) := ⟨fun k => Kd.C_drewN r2.2.2 k⟩
      have HLH := Aside0.mk (And.intro hL hH)
      obtain ⟨y1, hy1⟩ : ∃ y, y = (ds.take 2).length := ⟨_, rfl⟩
      obtain ⟨y2, hy2⟩ : ∃ y, y = (ds.drop 2).length := ⟨_, rfl⟩
      rw [← hy1] at HC1 HR1 ⊢
      rw [← hy2] at HC2 HR2 ⊢
      have hcm1 : decide (i < m) = false := decide_eq_false (by omega)
      clear s1 s2 s3 t1 t2 HT2 l1 g1 r1 r2 hL hH hy1 hy2 HT hi hni
      have f0 : wr.frozen? ⟨gR, 0, none⟩ = false := blk_frozen (Bx.get HX.out (gR, #[.int .u64 0, .int .u64 0], 38) (by simp)) 0
      have f1 : wr.frozen? ⟨gR, 1, none⟩ = false := blk_frozen (Bx.get HX.out (gR, #[.int .u64 0, .int .u64 0], 38) (by simp)) 1
      by_cases hL0 : L = 0
      · have cz : ((L : Int) == 0) = true := beq_iff_eq.mpr (by omega)
        have HL0 := Aside0.mk hL0
        clear hL0
        go_wp2_with (first
          | ((with_reducible refine gate_callee (f := 48) rfl ?_); (try (refine gate_guard (by rfl) ?_; dsimp only)); refine goesL_ (some 39) rfl rfl Try.func48 (by kernel_rfl) rfl #[.slice B1 y1 d1] rfl (by (try simp only [List.map_toArray, List.map_cons, List.map_nil]); first | done | rfl) ?_; (with_reducible refine (HC1.out _ HR1.out).mono ?_); rintro e w' ⟨rfl, ⟨nd1, rfl⟩⟩; refine ⟨_, rfl, ?_⟩; skip)
          | ((with_reducible refine gate_callee (f := 48) rfl ?_); (try (refine gate_guard (by rfl) ?_; dsimp only)); refine goesL_ (some 44) rfl rfl Try.func48 (by kernel_rfl) rfl #[.slice B2 y2 d2] rfl (by (try simp only [List.map_toArray, List.map_cons, List.map_nil]); first | done | rfl) ?_; (with_reducible refine (HC2.out _ (HR2.out _)).mono ?_); rintro e w' ⟨rfl, ⟨nd2, rfl⟩⟩; refine ⟨_, rfl, ?_⟩; skip))
        have g1 := Bx.get HX.out (gR, #[.int .u64 0, .int .u64 0], 38) (by simp)
        have g2 := Bx.old HX.out (gR, #[.int .u64 0, .int .u64 0], 38) (by simp)
        refine bodyPost_ret (results_cell_row rfl _ _ gR 38 #[.int .u64 (IntKind.u64.wrap (-(H : Int))), .int .u64 0] (0, 0) _ rfl (blk_put (cs := #[.int .u64 (IntKind.u64.wrap (-(H : Int))), .int .u64 0]) (blk_put (cs := #[.int .u64 0, .int .u64 0]) (show (wr.drewN (nd1 + nd2)).heap[gR]? = _ from g1) 0 _ rfl) 1 _ rfl) Try.underlying38 rfl (by kernel_rfl)) rfl ⟨by rw [HN.out.2.2.1, HN.out.2.2.2, ← HLH.out.1, ← HLH.out.2, if_pos HL0.out, if_pos HL0.out]; rfl, ?_⟩
        exact below_set (below_set (pw_below_drewN HX.out.bel _) g2) g2
      · have cz : ((L : Int) == 0) = false := beq_eq_false_iff_ne.mpr (by omega)
        have HL0 := Aside0.mk hL0
        clear hL0
        have hxor : Aside0 (Go.bits .xor .u64 (if IntKind.u64.signed = true then -1 else IntKind.u64.max) (H : Int) = ((18446744073709551615 - H : Nat) : Int)) := ⟨xor_max H (by have := HLH.out.2; have := HN.out.1; omega)⟩
        go_wp2_with (first
          | ((with_reducible refine gate_callee (f := 48) rfl ?_); (try (refine gate_guard (by rfl) ?_; dsimp only)); refine goesL_ (some 39) rfl rfl Try.func48 (by kernel_rfl) rfl #[.slice B1 y1 d1] rfl (by (try simp only [List.map_toArray, List.map_cons, List.map_nil]); first | done | rfl) ?_; (with_reducible refine (HC1.out _ HR1.out).mono ?_); rintro e w' ⟨rfl, ⟨nd1, rfl⟩⟩; refine ⟨_, rfl, ?_⟩; skip)
          | ((with_reducible refine gate_callee (f := 48) rfl ?_); (try (refine gate_guard (by rfl) ?_; dsimp only)); refine goesL_ (some 44) rfl rfl Try.func48 (by kernel_rfl) rfl #[.slice B2 y2 d2] rfl (by (try simp only [List.map_toArray, List.map_cons, List.map_nil]); first | done | rfl) ?_; (with_reducible refine (HC2.out _ (HR2.out _)).mono ?_); rintro e w' ⟨rfl, ⟨nd2, rfl⟩⟩; refine ⟨_, rfl, ?_⟩; skip))
        have g1 := Bx.get HX.out (gR, #[.int .u64 0, .int .u64 0], 38) (by simp)
        have g2 := Bx.old HX.out (gR, #[.int .u64 0, .int .u64 0], 38) (by simp)
        refine bodyPost_ret (results_cell_row rfl _ _ gR 38 #[.int .u64 (Go.bits .xor .u64 (if IntKind.u64.signed = true then -1 else IntKind.u64.max) (H : Int)), .int .u64 (IntKind.u64.wrap (-(L : Int)))] (0, 0) _ rfl (blk_put (cs := #[.int .u64 (Go.bits .xor .u64 (if IntKind.u64.signed = true then -1 else IntKind.u64.max) (H : Int)), .int .u64 0]) (blk_put (cs := #[.int .u64 0, .int .u64 0]) (show (wr.drewN (nd1 + nd2)).heap[gR]? = _ from g1) 0 _ rfl) 1 _ rfl) Try.underlying38 rfl (by kernel_rfl)) rfl ⟨by rw [HN.out.2.2.1, HN.out.2.2.2, ← HLH.out.1, ← HLH.out.2, if_neg HL0.out, if_neg HL0.out, hxor.out]; rfl, ?_⟩
        exact below_set (below_set (pw_below_drewN HX.out.bel _) g2) g2

theorem rwords_any (v : Int) (hs : Small v) (V : Value) (w : World) (h : Rm w V v) : Calls Try.prog 27 #[V] w fun e w' => e = .returned (W2 (wd0 v) (wd1 v)) ∧ Below w.heap.size w w' := by
  obtain ⟨u, rfl, hr⟩ := h
  obtain ⟨A, c, rfl⟩ := Kd.R_slice hr
  obtain ⟨n, hn⟩ : ∃ n, n = v.natAbs := ⟨_, rfl⟩
  have hs2 : n < 170141183460469231731687303715884105728 := by rw [hn]; exact hs
  rw [← hn] at hr ⊢
  by_cases c : v < 0
  · have e : mnM v = true := decide_eq_true c
    rw [e]
    have ev : v % 340282366920938463463374607431768211456 = 340282366920938463463374607431768211456 - (n : Int) := by omega
    refine rwords_t n (by omega) A _ _ rfl _ _ ?_ ?_ w hr
    · unfold wd0
      rw [ev, IntKind.wrap_u64]
      by_cases d : n % 18446744073709551616 = 0
      · rw [if_pos d]; omega
      · rw [if_neg d]; omega
    · unfold wd1
      rw [ev, IntKind.wrap_u64]
      by_cases d : n % 18446744073709551616 = 0
      · rw [if_pos d]; omega
      · rw [if_neg d]; omega
  · have e : mnM v = false := decide_eq_false c
    rw [e]
    have ev : v % 340282366920938463463374607431768211456 = (n : Int) := by omega
    exact rwords_f n (by omega) A _ _ rfl _ _ (by unfold wd0; rw [ev]; omega) (by unfold wd1; rw [ev]; omega) w hr
end Go.Proofs.Ythmjmkbahneneaa.PMon
end
end
