/- MonV, struck of what this claim does not name (wip/tools/pack2.py). -/
import Derived.Test.YthmjmkbahneneaaZa42
section
namespace Go.Proofs.Ythmjmkbahneneaa.PMon
open Go.RowKit Go.Proofs.YthmjmkbahneneaaW.PrintWords Go.Proofs.YthmjmkbahneneaaW.PrintLast Go.Proofs.YthmjmkbahneneaaW.PrintMore
set_option linter.unusedVariables false
set_option linter.unusedSimpArgs false

def bs (l : List UInt8) : ByteArray := ⟨l.toArray⟩
theorem bs_inj {a b : List UInt8} (h : bs a = bs b) : a = b := by
  have := congrArg (fun s : ByteArray => s.data.toList) h
  simpa [bs] using this
theorem bs_size (l : List UInt8) : (bs l).size = l.length := by simp [bs, ByteArray.size]
def cut (l : List UInt8) : List UInt8 × Bool := match l with
  | [] => ([], false)
  | c :: t => if c = 45 then (t, true) else (c :: t, false)
theorem cut_cons (c : UInt8) (t : List UInt8) : cut (c :: t) = if c = 45 then (t, true) else (c :: t, false) := rfl
theorem cut_f (l : List UInt8) : strings_CutPrefix.f (bs l) ⟨#[45]⟩ = some (bs (cut l).1, (cut l).2) := by
  unfold strings_CutPrefix.f stringslite_CutPrefix.f stringslite_HasPrefix.f
  have e1 : ((⟨#[45]⟩ : ByteArray).size : Int) = 1 := rfl
  have e2 : (⟨#[45]⟩ : ByteArray).toList = [45] := by rw [ByteArray.toList_eq]
  rw [bs_size]
  match l with
  | [] =>
    rw [if_neg (by rw [e1]; decide)]
    rfl
  | c :: t =>
    have h1 : (((c :: t).length : Nat) : Int) ≥ ((⟨#[45]⟩ : ByteArray).size : Int) := by rw [e1, List.length_cons]; omega
    rw [if_pos h1, if_pos (by rw [e1]; decide), if_pos h1, Option.bind_some]
    have e3 : ((bs (c :: t)).extract 0 (((⟨#[45]⟩ : ByteArray).size : Int)).toNat).toList = [c] := by
      rw [e1, ByteArray.toList_eq, ByteArray.data_extract]
      simp [bs]
    rw [e3, e2]
    by_cases hc : c = 45
    · subst hc
      rw [if_pos (by decide), if_pos (by rw [e1]; decide), if_pos h1, Option.bind_some]
      have e4 : (bs (45 :: t)).extract (((⟨#[45]⟩ : ByteArray).size : Int)).toNat (45 :: t).length = bs t := by
        apply ByteArray.ext
        rw [e1, ByteArray.data_extract]
        simp [bs]
      rw [e4]
      rfl
    · rw [if_neg (by simpa using hc), Option.bind_some]
      rw [cut_cons, if_neg hc]

def eat : List UInt8 → Nat → Option Nat
  | [], a => some a
  | c :: t, a => if c = 46 then eat t a else if c.toNat < 48 ∨ 57 < c.toNat then none else if a * 10 + (c.toNat - 48) < 170141183460469231731687303715884105728 then eat t (a * 10 + (c.toNat - 48)) else none
def says (l : List UInt8) : Option Int := (eat (cut l).1 0).map fun (a : Nat) => if (cut l).2 then -(a : Int) else (a : Int)
def parse (l : List UInt8) : Option Int := (says l).bind fun v => if text v = l then some v else none

theorem eat_cons (c : UInt8) (t : List UInt8) (a : Nat) : eat (c :: t) a = if c = 46 then eat t a else if c.toNat < 48 ∨ 57 < c.toNat then none else if a * 10 + (c.toNat - 48) < 170141183460469231731687303715884105728 then eat t (a * 10 + (c.toNat - 48)) else none := rfl
theorem eat_append (a b : List UInt8) (n : Nat) : eat (a ++ b) n = (eat a n).bind (eat b) := by
  induction a generalizing n with
  | nil => rfl
  | cons c t ih =>
    simp only [List.cons_append, eat]
    by_cases h1 : c = 46
    · rw [if_pos h1, if_pos h1, ih]
    · rw [if_neg h1, if_neg h1]
      by_cases h2 : c.toNat < 48 ∨ 57 < c.toNat
      · rw [if_pos h2, if_pos h2]; rfl
      · rw [if_neg h2, if_neg h2]
        by_cases h3 : n * 10 + (c.toNat - 48) < 170141183460469231731687303715884105728
        · rw [if_pos h3, if_pos h3, ih]
        · rw [if_neg h3, if_neg h3]; rfl
theorem eat_dg (m n : Nat) (t : List UInt8) (h : n * 10 + m % 10 < 170141183460469231731687303715884105728) : eat (dg m :: t) n = eat t (n * 10 + m % 10) := by
  have e := dg_nat m
  have h1 : dg m ≠ 46 := fun h => by rw [h] at e; have : (46 : UInt8).toNat = 46 := rfl; omega
  rw [eat_cons, if_neg h1, if_neg (by omega), e, show 48 + m % 10 - 48 = m % 10 by omega, if_pos h]
theorem eat_lds (m : Nat) (h : m < 170141183460469231731687303715884105728) : eat (lds m).reverse 0 = some m := by
  induction m using Nat.strongRecOn with
  | _ m ih =>
    by_cases h0 : m = 0
    · subst h0
      rw [lds_zero]; rfl
    · rw [lds_pos m h0, List.reverse_cons, eat_append, ih (m / 10) (by omega) (by omega), Option.bind_some, eat_dg _ _ _ (by omega)]
      show some _ = _
      congr 1
      omega
theorem eat_tl (m : Nat) (h : m < 170141183460469231731687303715884105728) : eat (tl m).reverse 0 = some m := by
  unfold tl
  by_cases h0 : m = 0
  · rw [if_pos h0, h0]; decide
  · rw [if_neg h0, eat_lds m h]
theorem eat_rem (n : Nat) (h : n < 170141183460469231731687303715884105728) : eat (rem 0 n).reverse 0 = some n := by
  have e : rem 0 n = dg n :: dg (n / 10) :: 46 :: tl (n / 10 / 10) := rfl
  rw [e, List.reverse_cons, List.reverse_cons, List.reverse_cons, eat_append, eat_append, eat_append, eat_tl _ (by omega), Option.bind_some]
  have e2 : eat [46] (n / 10 / 10) = some (n / 10 / 10) := rfl
  rw [e2, Option.bind_some, eat_dg _ _ _ (by omega)]
  show (some _).bind _ = _
  rw [Option.bind_some, eat_dg _ _ _ (by omega)]
  show some _ = _
  congr 1
  omega
theorem mem_lds (m : Nat) : ∀ c ∈ lds m, c ≠ 45 := by
  induction m using Nat.strongRecOn with
  | _ m ih =>
    by_cases h0 : m = 0
    · subst h0
      rw [lds_zero]
      intro c hc
      cases hc
    · rw [lds_pos m h0]
      intro c hc
      rcases List.mem_cons.1 hc with h1 | h1
      · subst h1
        intro h
        have e := dg_nat m
        rw [h] at e
        have : (45 : UInt8).toNat = 45 := rfl
        omega
      · exact ih (m / 10) (by omega) c h1
theorem mem_rem (n : Nat) : ∀ c ∈ rem 0 n, c ≠ 45 := by
  have d : ∀ k, dg k ≠ 45 := fun k h => by
    have e := dg_nat k
    rw [h] at e
    have : (45 : UInt8).toNat = 45 := rfl
    omega
  intro c hc
  have e : rem 0 n = dg n :: dg (n / 10) :: 46 :: tl (n / 10 / 10) := rfl
  rw [e] at hc
  rcases List.mem_cons.1 hc with h | h
  · subst h; exact d _
  rcases List.mem_cons.1 h with h | h
  · subst h; exact d _
  rcases List.mem_cons.1 h with h | h
  · subst h; decide
  unfold tl at h
  by_cases h0 : n / 10 / 10 = 0
  · rw [if_pos h0] at h
    rcases List.mem_cons.1 h with h | h
    · subst h; decide
    · cases h
  · rw [if_neg h0] at h
    exact mem_lds _ c h
theorem cut_text (v : Int) : cut (text v) = ((rem 0 v.natAbs).reverse, decide (v < 0)) := by
  unfold text back
  by_cases h : v < 0
  · rw [if_pos h, List.reverse_append, decide_eq_true h]
    rfl
  · rw [if_neg h, List.append_nil, decide_eq_false h]
    have hm : ∀ c ∈ (rem 0 v.natAbs).reverse, c ≠ 45 := fun c hc => mem_rem _ c (List.mem_reverse.1 hc)
    generalize (rem 0 v.natAbs).reverse = l at hm
    match l, hm with
    | [], _ => rfl
    | c :: t, hm =>
      rw [cut_cons, if_neg (hm c (List.mem_cons_self ..))]
theorem parse_text (v : Int) (h : Small v) : parse (text v) = some v := by
  unfold parse says
  unfold Small at h
  rw [cut_text, eat_rem _ h]
  have e : (if decide (v < 0) = true then -((v.natAbs : Nat) : Int) else ((v.natAbs : Nat) : Int)) = v := by
    by_cases hv : v < 0
    · rw [if_pos (decide_eq_true hv)]; omega
    · rw [if_neg (by simpa using hv)]; omega
  show (some (if decide (v < 0) = true then -((v.natAbs : Nat) : Int) else ((v.natAbs : Nat) : Int))).bind _ = _
  rw [e, Option.bind_some, if_pos rfl]
theorem eat_small (l : List UInt8) (n m : Nat) (h : eat l n = some m) (hn : n < 170141183460469231731687303715884105728) : m < 170141183460469231731687303715884105728 := by
  induction l generalizing n with
  | nil => cases h; exact hn
  | cons c t ih =>
    rw [eat_cons] at h
    by_cases h1 : c = 46
    · rw [if_pos h1] at h; exact ih n h hn
    · rw [if_neg h1] at h
      by_cases h2 : c.toNat < 48 ∨ 57 < c.toNat
      · rw [if_pos h2] at h; cases h
      · rw [if_neg h2] at h
        by_cases h3 : n * 10 + (c.toNat - 48) < 170141183460469231731687303715884105728
        · rw [if_pos h3] at h; exact ih _ h h3
        · rw [if_neg h3] at h; cases h
theorem says_small (l : List UInt8) (v : Int) (h : says l = some v) : Small v := by
  unfold says at h
  obtain ⟨a, ha, e⟩ := Option.map_eq_some_iff.1 h
  have := eat_small _ _ _ ha (by decide)
  unfold Small
  rw [← e]
  by_cases hc : (cut l).2 = true
  · rw [if_pos hc]; omega
  · rw [if_neg hc]; omega
def parseR (l : List UInt8) : Int := (parse l).getD 0
def parseE (l : List UInt8) : Int := if (parse l).isSome then 0 else 3
theorem small_parseR (l : List UInt8) : Small (parseR l) := by
  unfold parseR parse
  cases h : says l with
  | none => show Small 0; unfold Small; decide
  | some v =>
    rw [Option.bind_some]
    by_cases c : text v = l
    · rw [if_pos c]; exact says_small l v h
    · rw [if_neg c]; show Small 0; unfold Small; decide
end Go.Proofs.Ythmjmkbahneneaa.PMon
end
