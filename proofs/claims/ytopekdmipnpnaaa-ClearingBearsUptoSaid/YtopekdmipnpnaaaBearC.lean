/- The reference's Add of two words. -/
import Derived.Test.YtopekdmipnpnaaaBigD
import Derived.Test.YtopekdmipnpnaaaNumSh
import Derived.Test.YtopekdmipnpnaaaPBeax4
namespace Go.Proofs.Ytopekdmipnpnaaa.Big
open Go.RowKit Go.Proofs.Ytopekdmipnpnaaa.PBea Go.Proofs.Ytopekdmipnpnaaa.NumA Go.Proofs.Ytopekdmipnpnaaa.NumDiv Go.Proofs.Ytopekdmipnpnaaa.NumSh Go.Proofs.YtopekdmipnpnaaaW.PrintWords Go.Proofs.YtopekdmipnpnaaaW.PrintLast Go.Proofs.YtopekdmipnpnaaaW.PrintMore

theorem radd_ev (a b : Int) (ha : 0 ≤ a) (ha' : a < 18446744073709551616) (hb : 0 ≤ b) (hb' : b < 18446744073709551616) :
    Ev (fun k => bourseref01_Add.f k a b) (if a + b < 18446744073709551616 then (a + b, 0) else (0, 10)) := by
  have h1 := of_ev a ha ha'
  have h2 := of_ev b hb hb'
  have l1 := len2 a ha ha'
  have l2 := len2 b hb hb'
  have h3 := plus_ev a.toNat b.toNat (by omega) (by omega)
  have h4 := word_ev (a.toNat + b.toNat)
  unfold bourseref01_Add.f
  refine Ev.bind (f := fun (k : Nat) (t194 : List Int) => ((bourseref01_of.f k b).bind fun t197 => ((bourseref01_plus.f k t194 t197).bind fun t200 => ((bourseref01_word.f k t200).bind fun bt203 => (some (bt203.1, bt203.2)))))) h1 ?_
  refine Ev.bind (f := fun (k : Nat) (t197 : List Int) => ((bourseref01_plus.f k (D a.toNat) t197).bind fun t200 => ((bourseref01_word.f k t200).bind fun bt203 => (some (bt203.1, bt203.2))))) h2 ?_
  refine Ev.bind (f := fun (k : Nat) (t200 : List Int) => ((bourseref01_word.f k t200).bind fun bt203 => (some (bt203.1, bt203.2)))) h3 ?_
  refine Ev.bind (f := fun (_ : Nat) (bt203 : Int × Int) => (some (bt203.1, bt203.2))) h4 ?_
  by_cases h : a + b < 18446744073709551616
  · rw [if_pos h, if_pos (by omega), show ((a.toNat + b.toNat : Nat) : Int) = a + b by omega]
    exact Ev.now _
  · rw [if_neg h, if_neg (by omega)]
    exact Ev.now _

end Go.Proofs.Ytopekdmipnpnaaa.Big
