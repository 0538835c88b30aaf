/- MonAm, struck of what this claim does not name (wip/tools/pack2.py). -/
import Derived.Test.YthmjmkbahneneaaZa24
import Derived.Test.YthmjmkbahneneaaZa46
import Derived.Test.YthmjmkbahneneaaZa28
section
section
namespace Go.Proofs.Ythmjmkbahneneaa.PMon
open Go.RowKit Go.Proofs.Ythmjmkbahneneaa.PBig Go.Proofs.YthmjmkbahneneaaW.PrintWords Go.Proofs.YthmjmkbahneneaaW.PrintLast Go.Proofs.YthmjmkbahneneaaW.PrintMore
set_option linter.unusedVariables false

theorem str_dg (n : Nat) : strOfNums [(48 + (((n % 10 : Nat) : Int) % 256)) % 256] = bs [dg n] := by
  have h : n % 10 < 10 := Nat.mod_lt _ (by decide)
  unfold dg
  generalize n % 10 = r at h
  match r, h with
  | 0, _ => rfl
  | 1, _ => rfl
  | 2, _ => rfl
  | 3, _ => rfl
  | 4, _ => rfl
  | 5, _ => rfl
  | 6, _ => rfl
  | 7, _ => rfl
  | 8, _ => rfl
  | 9, _ => rfl
theorem bs_app (a b : List UInt8) : bs a ++ bs b = bs (a ++ b) := by
  apply ByteArray.ext
  unfold bs
  simp
def dl : Nat → Nat → Nat → List UInt8
  | 0, _, _ => []
  | p + 1, n, j => if n = 0 ∧ 3 ≤ j then [] else dg n :: dl p (n / 10) (j + 1)
theorem D_ten : ([10] : List Int) = D 10 := by rw [D_pos 10 (by decide), show 10 / 4294967296 = 0 from rfl, D_zero]; rfl
theorem D_small (r : Nat) (h : r < 10) (h0 : r ≠ 0) : D r = [(r : Int)] := by
  rw [D_pos r h0, show r / 4294967296 = 0 by omega, D_zero, show r % 4294967296 = r by omega]
theorem len_D (n p : Nat) (h : n < 4294967296 ^ p) : (D n).length ≤ p := (D_len n p).2 h
theorem dec_go (p : Nat) : ∀ (n : Nat) (acc : List UInt8), n < 10 ^ p → 3 ≤ acc.length + p → acc.length + p ≤ 1000 → (D n).length ≤ 80000 →
    Ev (fun k => bourseref01_decimal.l0 k (D n) (bs acc)) (bs ((dl p n acc.length).reverse ++ acc)) := by
  induction p with
  | zero =>
    intro n acc h h3 h1 hD
    have : n = 0 := by omega
    subst this
    rw [D_zero]
    refine Ev.step (f := fun k => bourseref01_decimal.j1 k [] (bs acc) false) (fun k => ?_) (Ev.step (f := fun _ => some (bs acc)) (fun k => ?_) (Ev.now _))
    · unfold bourseref01_decimal.l0
      rw [if_neg (by decide), bs_size, decide_eq_false (by omega)]
    · unfold bourseref01_decimal.j1
      rw [if_neg (by decide)]
  | succ p ih =>
    intro n acc h h3 h1 hD
    by_cases c : n = 0 ∧ 3 ≤ acc.length
    · obtain ⟨rfl, c⟩ := c
      have e : dl (p + 1) 0 acc.length = [] := by unfold dl; exact if_pos ⟨rfl, c⟩
      rw [e, D_zero]
      refine Ev.step (f := fun k => bourseref01_decimal.j1 k [] (bs acc) false) (fun k => ?_) (Ev.step (f := fun _ => some (bs acc)) (fun k => ?_) (Ev.now _))
      · unfold bourseref01_decimal.l0
        rw [if_neg (by decide), bs_size, decide_eq_false (by omega)]
      · unfold bourseref01_decimal.j1
        rw [if_neg (by decide)]
    · have e : dl (p + 1) n acc.length = dg n :: dl p (n / 10) (acc.length + 1) := by
        conv => lhs; unfold dl
        exact if_neg c
      have hq : n / 10 < 10 ^ p := by rw [Nat.pow_succ] at h; omega
      have hDq : (D (n / 10)).length ≤ 80000 := Nat.le_trans (len_le _ _ (Nat.div_le_self n 10)) hD
      have IH := ih (n / 10) (dg n :: acc) hq (by rw [List.length_cons]; omega) (by rw [List.length_cons]; omega) hDq
      rw [List.length_cons] at IH
      rw [e, List.reverse_cons, List.append_assoc, List.singleton_append]
      refine Ev.step (f := fun k => bourseref01_decimal.j1 k (D n) (bs acc) true) (fun k => ?_) ?_
      · unfold bourseref01_decimal.l0
        by_cases d : ((D n).length : Int) > 0
        · rw [if_pos d]
        · rw [if_neg d, bs_size]
          have : n = 0 := by
            by_cases hn : n = 0
            · exact hn
            · rw [D_pos n hn, List.length_cons] at d; omega
          rw [decide_eq_true (by omega)]
      · refine Ev.step (f := fun k => (bourseref01_divided.f k (D n) (([10] : List Int))).bind fun (bt261 : List Int × List Int) => (if (bt261.2.length : Int) > 0 then (if 0 < (bt261.2.length : Int) then ((some (([(48 + ((rd bt261.2 0) % 256)) % 256] : List Int) : List Int)).bind fun y268 => (if (strOfNums y268).size + (bs acc).size ≤ 9223372036854775807 then (bourseref01_decimal.l0 k bt261.1 ((strOfNums y268) ++ (bs acc))) else (none))) else (none)) else ((some (([48] : List Int) : List Int)).bind fun y271 => (if (strOfNums y271).size + (bs acc).size ≤ 9223372036854775807 then (bourseref01_decimal.l0 k bt261.1 ((strOfNums y271) ++ (bs acc))) else (none))))) (fun k => by unfold bourseref01_decimal.j1; exact if_pos rfl) ?_
        have HD := divided_ev n 10 (by decide) hD (by rw [← D_ten]; decide)
        rw [← D_ten] at HD
        refine Ev.bind (f := fun (k : Nat) (bt261 : List Int × List Int) => (if (bt261.2.length : Int) > 0 then (if 0 < (bt261.2.length : Int) then ((some (([(48 + ((rd bt261.2 0) % 256)) % 256] : List Int) : List Int)).bind fun y268 => (if (strOfNums y268).size + (bs acc).size ≤ 9223372036854775807 then (bourseref01_decimal.l0 k bt261.1 ((strOfNums y268) ++ (bs acc))) else (none))) else (none)) else ((some (([48] : List Int) : List Int)).bind fun y271 => (if (strOfNums y271).size + (bs acc).size ≤ 9223372036854775807 then (bourseref01_decimal.l0 k bt261.1 ((strOfNums y271) ++ (bs acc))) else (none))))) HD ?_
        refine Ev.congr (f := fun k => bourseref01_decimal.l0 k (D (n / 10)) (bs (dg n :: acc))) (fun k => ?_) IH
        have hs : strOfNums [(48 + (((n % 10 : Nat) : Int) % 256)) % 256] = bs [dg n] := str_dg n
        have hz : (bs [dg n]).size + (bs acc).size ≤ 9223372036854775807 := by rw [bs_size, bs_size]; simp only [List.length_cons, List.length_nil]; omega
        have ha : bs [dg n] ++ bs acc = bs (dg n :: acc) := bs_app [dg n] acc
        by_cases r0 : n % 10 = 0
        · rw [r0] at hs
          show (if ((D (n % 10)).length : Int) > 0 then _ else _) = _
          rw [r0, D_zero, if_neg (by decide), Option.bind_some, show strOfNums [48] = bs [dg n] from hs, if_pos hz, ha]
        · show (if ((D (n % 10)).length : Int) > 0 then _ else _) = _
          rw [D_small (n % 10) (Nat.mod_lt _ (by decide)) r0]
          have one : (0 : Int) < ((([((n % 10 : Nat) : Int)] : List Int).length : Nat) : Int) := by show (0 : Int) < ((1 : Nat) : Int); decide
          rw [if_pos (show ((([((n % 10 : Nat) : Int)] : List Int).length : Nat) : Int) > 0 from one)]
          dsimp only
          rw [if_pos one, Option.bind_some, show rd [((n % 10 : Nat) : Int)] 0 = ((n % 10 : Nat) : Int) from rfl, hs, if_pos hz, ha]
theorem dl_lds (p : Nat) : ∀ n j, n < 10 ^ p → 3 ≤ j → dl p n j = lds n := by
  induction p with
  | zero => intro n j h hj; rw [show n = 0 by omega, lds_zero]; rfl
  | succ p ih =>
    intro n j h hj
    unfold dl
    by_cases c : n = 0
    · rw [if_pos ⟨c, hj⟩, c, lds_zero]
    · rw [if_neg (fun k => c k.1), lds_pos n c, ih (n / 10) (j + 1) (by rw [Nat.pow_succ] at h; omega) (by omega)]
theorem dl_all (n : Nat) (h : n < 1000000000000000000000000000000000000000) : dl 39 n 0 = dg n :: dg (n / 10) :: tl (n / 10 / 10) := by
  have e : dl 39 n 0 = dg n :: dg (n / 10) :: dg (n / 10 / 10) :: dl 36 (n / 10 / 10 / 10) 3 := by
    conv => lhs; unfold dl
    rw [if_neg (by omega)]
    conv => lhs; unfold dl
    rw [if_neg (by omega)]
    conv => lhs; unfold dl
    rw [if_neg (by omega)]
  rw [e, dl_lds 36 _ 3 (by omega) (Nat.le_refl _)]
  unfold tl
  by_cases c : n / 10 / 10 = 0
  · rw [if_pos c, c]; rw [show 0 / 10 = 0 from rfl, lds_zero]; rfl
  · rw [if_neg c, lds_pos _ c]
theorem dec_ev (n : Nat) (h : n < 170141183460469231731687303715884105728) : Ev (fun k => bourseref01_decimal.f k (D n)) (bs (dg n :: dg (n / 10) :: tl (n / 10 / 10)).reverse) := by
  have := dec_go 39 n [] (by omega) (by decide) (by decide) (Nat.le_trans (len_D n 4 (by omega)) (by decide))
  rw [List.length_nil, dl_all n (by omega), List.append_nil] at this
  exact this
theorem text_cut (n : Nat) (h : n < 170141183460469231731687303715884105728) (t : ByteArray) (m : Int) (ht : t = bs (dg n :: dg (n / 10) :: tl (n / 10 / 10)).reverse) (hm : m = (t.size : Int) - 2) :
    2 ≤ t.size ∧ t.size ≤ 1000 ∧ (t.extract 0 m.toNat ++ (⟨#[46]⟩ : ByteArray)) ++ t.extract m.toNat t.size = bs (rem 0 n).reverse := by
  have hl := tl_len 39 (n / 10 / 10) (by omega) (by omega)
  obtain ⟨T, hT⟩ : ∃ T, T = tl (n / 10 / 10) := ⟨_, rfl⟩
  rw [← hT] at ht hl
  have hs : t.size = T.length + 2 := by rw [ht, bs_size, List.length_reverse, List.length_cons, List.length_cons]
  refine ⟨by omega, by omega, ?_⟩
  have e0 : m.toNat = T.length := by omega
  have e1 : t = bs T.reverse ++ bs [dg (n / 10), dg n] := by rw [ht, bs_app]; simp
  have e2 : t.extract 0 T.length = bs T.reverse := by
    rw [e1]
    apply ByteArray.ext
    simp [bs]
  have e3 : t.extract T.length t.size = bs [dg (n / 10), dg n] := by
    rw [hs, e1]
    apply ByteArray.ext
    simp [bs]
  rw [e0, e2, e3, show (⟨#[46]⟩ : ByteArray) = bs [46] from rfl, bs_app, bs_app]
  unfold rem
  rw [← hT]
  simp
end Go.Proofs.Ythmjmkbahneneaa.PMon
end

section
namespace Go.Proofs.Ythmjmkbahneneaa.PMon
open Go.RowKit Go.Proofs.Ythmjmkbahneneaa.PBig Go.Proofs.YthmjmkbahneneaaW.PrintWords Go.Proofs.YthmjmkbahneneaaW.PrintLast Go.Proofs.YthmjmkbahneneaaW.PrintMore
set_option linter.unusedVariables false
theorem rtext (v : Int) (hs : Small v) (A : Option Addr) (c : Nat) (w : World) (hr : Kd.C (Kd.int .u32) w A (D v.natAbs).length (D v.natAbs)) (hc : (D v.natAbs).length ≤ c) :
    Calls Try.prog 31 #[.agg #[.bool (mnM v), .slice A (D v.natAbs).length c]] w fun e w' => e = .returned (.string (bs (text v))) ∧ Below w.heap.size w w' := by
  obtain ⟨k, hk⟩ := (dec_ev v.natAbs hs).rounds
  obtain ⟨t, ht⟩ : ∃ t, t = bs (dg v.natAbs :: dg (v.natAbs / 10) :: tl (v.natAbs / 10 / 10)).reverse := ⟨_, rfl⟩
  obtain ⟨m, hm⟩ : ∃ m : Int, m = (t.size : Int) - 2 := ⟨_, rfl⟩
  obtain ⟨h2, hx, e⟩ := text_cut v.natAbs hs t m ht hm
  have := rtext_calls k (mnM v) A c (D v.natAbs) t m w hr hc (by rw [ht]; exact hk) hm h2 hx
  rw [e] at this
  refine this.mono fun E w' ⟨h1, hb⟩ => ⟨h1.trans ?_, hb⟩
  congr 2
  unfold text back mnM
  by_cases g : v < 0
  · rw [if_pos (decide_eq_true g), if_pos g, List.reverse_append, show (⟨#[45]⟩ : ByteArray) = bs [45] from rfl, bs_app]; rfl
  · rw [if_neg (by simpa using g), if_neg g, List.append_nil]
end Go.Proofs.Ythmjmkbahneneaa.PMon
end

section
namespace Go.Proofs.Ythmjmkbahneneaa.PMon
open Go.RowKit Go.Proofs.Ythmjmkbahneneaa.PBig Go.Proofs.YthmjmkbahneneaaW.PrintWords Go.Proofs.YthmjmkbahneneaaW.PrintLast Go.Proofs.YthmjmkbahneneaaW.PrintMore
set_option linter.unusedVariables false
theorem most_D : ([4294967295, 4294967295, 4294967295, 2147483647] : List Int) = D 170141183460469231731687303715884105727 := by
  rw [D_pos _ (by decide), D_pos _ (by decide), D_pos _ (by decide), D_pos _ (by decide), show 170141183460469231731687303715884105727 / 4294967296 / 4294967296 / 4294967296 / 4294967296 = 0 by decide, D_zero]
  rfl
theorem D_len_pos (n : Nat) : decide (((D n).length : Int) > 0) = decide (0 < n) := by
  by_cases h : n = 0
  · rw [h, D_zero]; rfl
  · rw [D_pos n h, List.length_cons, decide_eq_true (by omega), decide_eq_true (by omega)]
theorem amount_ev (neg : Bool) (n : Nat) (hn : (D n).length ≤ 1000000) : Ev (fun k => bourseref01_amount.f k neg (D n)) (if n < 170141183460469231731687303715884105728 then (neg && decide (0 < n), D n, 0) else (false, [], 10)) := by
  unfold bourseref01_amount.f bourseref01_most.f
  refine Ev.congr (f := fun k => (bourseref01_compare.f k (D n) (D 170141183460469231731687303715884105727)).bind fun (t300 : Int) => (if t300 > 0 then (some (false, ([] : List Int), 10)) else (if neg = true then (some (decide (((D n).length : Int) > 0), D n, 0)) else (some (false, D n, 0))))) (fun k => by rw [most_D]; rfl) ?_
  refine Ev.bind (f := fun (k : Nat) (t300 : Int) => (if t300 > 0 then (some (false, ([] : List Int), 10)) else (if neg = true then (some (decide (((D n).length : Int) > 0), D n, 0)) else (some (false, D n, 0))))) (compare_ev n 170141183460469231731687303715884105727 hn) ?_
  refine Ev.congr (f := fun _ => some _) (fun k => ?_) (Ev.now _)
  by_cases c : n < 170141183460469231731687303715884105728
  · unfold PBig.cmp
    rw [if_pos c, if_neg (by split <;> (try split) <;> omega)]
    cases neg
    · rfl
    · rw [if_pos rfl, D_len_pos, Bool.true_and]
  · have e : PBig.cmp (n : Int) ((170141183460469231731687303715884105727 : Nat) : Int) = 1 := by
      unfold PBig.cmp; rw [if_neg (by omega), if_neg (by omega)]
    rw [if_neg c, e, if_pos (by decide)]
end Go.Proofs.Ythmjmkbahneneaa.PMon
end
end
