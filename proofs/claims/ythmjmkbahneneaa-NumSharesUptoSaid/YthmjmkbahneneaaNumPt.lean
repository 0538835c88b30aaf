/- Part as printed: its values. -/
import Derived.Test.YthmjmkbahneneaaNumDiv
namespace Go.Proofs.Ythmjmkbahneneaa.NumPt
open Go.RowKit Go.Proofs.Ythmjmkbahneneaa.PNum Go.Proofs.Ythmjmkbahneneaa.NumA Go.Proofs.Ythmjmkbahneneaa.NumDiv Go.Proofs.YthmjmkbahneneaaW.PrintWords Go.Proofs.YthmjmkbahneneaaW.PrintLast Go.Proofs.YthmjmkbahneneaaW.PrintMore

/-- Is a quotient rounded up? -/
def upB (q r c round : Int) : Bool := if round = 1 then decide (r > 0) else if round = 2 then (decide (r > c - r) || (r == c - r && q % 2 == 1)) else false

theorem up_val (q r c round : Int) (hq : 0 ≤ q) (hr : 0 ≤ r) (hc : r < c) (hc' : c < 18446744073709551616) : num_up.f q r c round = some (upB q r c round) := by
  unfold num_up.f upB
  rw [wr (c - r) (by omega) (by omega), Int.tmod_eq_emod_of_nonneg hq]
  by_cases h1 : round = 1
  · rw [if_pos h1, if_pos h1]
  · rw [if_neg h1, if_neg h1]
    by_cases h2 : round = 2
    · rw [if_pos h2, if_pos h2]
      by_cases h3 : r > c - r
      · rw [if_pos h3, decide_eq_true h3]
        rfl
      · rw [if_neg h3, decide_eq_false h3]
        by_cases h4 : r = c - r
        · rw [if_pos h4, beq_iff_eq.2 h4]
          rfl
        · rw [if_neg h4, beq_eq_false_iff_ne.2 h4]
          rfl
    · rw [if_neg h2, if_neg h2]

/-- What Part answers of a quotient. -/
def done (q r c round : Int) : Int × Int := if upB q r c round = true then (if q + 1 < 18446744073709551616 then (q + 1, 0) else (0, 10)) else (q, 0)

def partV (a b c round : Int) : Int × Int :=
  if round < 0 ∨ round > 2 then (0, 1) else if c = 0 then (0, 11) else if a * b / 18446744073709551616 ≥ c then (0, 10) else done (a * b / c) (a * b % c) c round

theorem part_ev (a b c round : Int) (ha : 0 ≤ a) (ha' : a < 18446744073709551616) (hb : 0 ≤ b) (hb' : b < 18446744073709551616) (hc : 0 ≤ c) (hc' : c < 18446744073709551616) :
    Ev (fun k => num_Part.f k a b c round) (partV a b c round) := by
  unfold num_Part.f partV
  by_cases h1 : round < 0
  · rw [if_pos (Or.inl h1)]
    exact Ev.congr (fun k => if_pos h1) (Ev.step (f := fun _ => some (0, 1)) (fun k => by simp only [num_Part.j0, if_true]) (Ev.now _))
  refine Ev.congr (fun k => if_neg h1) ?_
  by_cases h2 : round > 2
  · rw [if_pos (Or.inr h2), decide_eq_true h2]
    exact Ev.step (f := fun _ => some (0, 1)) (fun k => by simp only [num_Part.j0, if_true]) (Ev.now _)
  rw [if_neg (by omega), decide_eq_false h2]
  by_cases h3 : c = 0
  · rw [if_pos h3]
    exact Ev.step (f := fun _ => some (0, 11)) (fun k => by simp only [num_Part.j0]; rw [if_neg (by decide), if_pos h3]) (Ev.now _)
  rw [if_neg h3]
  have hp : 0 ≤ a * b := Int.mul_nonneg ha hb
  have hm := mul64_val a b ha ha' hb hb'
  have e : a * b / 18446744073709551616 * 18446744073709551616 + a * b % 18446744073709551616 = a * b := by omega
  by_cases h4 : a * b / 18446744073709551616 ≥ c
  · rw [if_pos h4]
    exact Ev.step (f := fun _ => some (0, 10)) (fun k => by simp only [num_Part.j0]; rw [if_neg (by decide), if_neg h3, hm]; simp only [Option.bind_some]; rw [if_pos h4]) (Ev.now _)
  rw [if_neg h4]
  have hd := div64_val (a * b / 18446744073709551616) (a * b % 18446744073709551616) c (by omega) (by omega) hc' (by omega) (by omega)
  rw [e] at hd
  have q0 : 0 ≤ a * b / c := Int.ediv_nonneg hp hc
  have r0 : 0 ≤ a * b % c := Int.emod_nonneg _ h3
  have r1 : a * b % c < c := Int.emod_lt_of_pos _ (by omega)
  have q1 : a * b / c < 18446744073709551616 := by
    refine Int.ediv_lt_of_lt_mul (by omega) ?_
    have : a * b / 18446744073709551616 < c := by omega
    omega
  generalize a * b / c = q at *
  generalize a * b % c = r at *
  refine Ev.step (f := fun k => (bits_Div64.f k (a * b / 18446744073709551616) (a * b % 18446744073709551616) c).bind fun bt142 => (num_up.f bt142.1 bt142.2 c round).bind fun t144 => if t144 = true then (num_Add.f bt142.1 1).bind fun bt145 => some (bt145.1, bt145.2) else some (bt142.1, 0)) (fun k => by simp only [num_Part.j0]; rw [if_neg (by decide), if_neg h3, hm]; simp only [Option.bind_some]; rw [if_neg h4]) ?_
  refine Ev.bind (f := fun (_ : Nat) (bt142 : Int × Int) => (num_up.f bt142.1 bt142.2 c round).bind fun t144 => if t144 = true then (num_Add.f bt142.1 1).bind fun bt145 => some (bt145.1, bt145.2) else some (bt142.1, 0)) hd ?_
  have hup := up_val q r c round q0 r0 r1 hc'
  refine Ev.congr (f := fun _ => if upB q r c round = true then (num_Add.f q 1).bind fun bt145 => some (bt145.1, bt145.2) else some (q, 0)) (fun k => by show (num_up.f q r c round).bind _ = _; rw [hup]; rfl) ?_
  unfold done
  by_cases hu : upB q r c round = true
  · rw [if_pos hu, if_pos hu, add_val q 1 q0 q1 (by decide) (by decide)]
    by_cases hs : q + 1 < 18446744073709551616
    · rw [if_pos hs]
      exact Ev.now _
    · rw [if_neg hs]
      exact Ev.now _
  · rw [if_neg hu, if_neg hu]
    exact Ev.now _
end Go.Proofs.Ythmjmkbahneneaa.NumPt
