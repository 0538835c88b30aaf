/- BitmapAll: three maps, whatever is done with them (a tick put in or taken out, questions, words, goings up and down, clones, copies, comparisons), in whatever order: every answer is that of the document. The row lists the table of trailing zeros of the library. -/
import Derived.Test.YtgcelkndgjjbdaaDoorRows
import Derived.Test.YtgcelkndgjjbdaaDoorCards
import Derived.Test.YtgcelkndgjjbdaaDoorTie
import Derived.Test.YtgcelkndgjjbdaaDoorBq
import Derived.Test.YtgcelkndgjjbdaaDoorBmO
import Derived.WalkKit
import Derived.ProofKit
import Derived.OpenShut
import Derived.ShutString
import Derived.ChangeOld
import Derived.Below
import Derived.SizedLaws
import Derived.ChangeSame
import Derived.ChangeVars
import Derived.JoinedOf
import Derived.RowKit
import Derived.LaidLaws
import Derived.Handed
import Derived.Lib.LaidTab
import Derived.Lib.LaidU8
import Derived.Stop.Joined
import Derived.SevenTiedAt
namespace Go.Proofs.YtgcelkndgjjbdaaDoor.bitmapAll
open Go.ChangeShapes Go.WideShapes Go.ChangeAt Go.RowKit
open Go.ChangeMaps (open_string shut_string)
set_option linter.unusedVariables false
theorem laidOut : laidOutB Tryd.prog = true := by kernel_rfl
theorem own : ownKnob Tryd.prog.godebug = none := by kernel_rfl
def tab : List Int := Lib.deBruijn64tab.map fun (n : Nat) => (n : Int)
theorem tab_data : Rows.laid_math_bits_deBruijn64tab (H := Unit) = Lib.tabData .u8 tab := by kernel_rfl
theorem gname : Tryd.prog.globalNamed "math/bits.deBruijn64tab" = some 0 := by kernel_rfl
theorem gtype : (Tryd.prog.globals[0]?).map (·.type) = some 61 := by kernel_rfl
theorem cells5 : Tryd.prog.cellsOf 5 = 1 := by kernel_rfl
theorem cells61 : Tryd.prog.cellsOf 61 = 64 := by kernel_rfl
theorem tz_of_laid {W : World} (h : laidMetH Tryd.prog Rows.bitmapAllRow.laid W) : PBm.Tz W := by
  have h' : laidMet Tryd.prog [("math/bits.deBruijn64tab", Lib.tabData .u8 tab)] W := by
    have h2 : laidMet Tryd.prog [("math/bits.deBruijn64tab", Rows.laid_math_bits_deBruijn64tab)] W := h
    rwa [tab_data] at h2
  have hi := Lib.tabIs_of_head gname gtype Tryd.underlying61 Tryd.underlying5 cells5 cells61 h'
  intro j hj
  have hl : tab.length = 64 := by kernel_rfl
  have := hi.cell gname j (by omega)
  have e : tab.getD j 0 = ((Lib.deBruijn64tab.getD j 0 : Nat) : Int) := by
    unfold tab
    rw [List.getD_eq_getElem?_getD, List.getD_eq_getElem?_getD, List.getElem?_map]
    cases Lib.deBruijn64tab[j]? <;> rfl
  rw [e] at this
  exact this
noncomputable def laidWorld (os : Os) : World :=
  let w0 := World.holding Tryd.prog os ⟨#[], #[], []⟩
  { w0 with heap := w0.heap.modify 0 fun
      | .cells _ t frozen => .cells (tab.map (Value.int .u8)).toArray t frozen
      | o => o }
theorem laidWorld_met (os : Os) (args : Array Value) : laidMetH Tryd.prog Rows.bitmapAllRow.laid ((laidWorld os).forCall (fun _ _ => 0) ⟨#[], args, []⟩).memory := by
  show laidMet Tryd.prog [("math/bits.deBruijn64tab", Rows.laid_math_bits_deBruijn64tab)] _
  exact laidMet_of_run' 8 (by kernel_rfl) (by kernel_rfl)
set_option maxRecDepth 100000 in
theorem lifted (os : Os) (started : os.Started) (H : Type) (enc : TypeId × Value → H) :
    ReturnsInHanded {} Tryd.checked os 6 .any (fun w args => (Rows.bitmapAllSpec.pre enc Tryd.prog Tryd.f6 [] false w args ∧ laidMetH Tryd.prog Rows.bitmapAllRow.laid w) ∧ sizedMet enc Tryd.prog Tryd.f6 (OpenSpec.ofChange Rows.bitmapAllSpec) false w args) (Rows.bitmapAllSpec.post enc Tryd.prog Tryd.f6 false true false false) := by
  refine returnsInHanded_of_change_and (C := Tryd.checked) (X := (fun w _ => laidMetH Tryd.prog Rows.bitmapAllRow.laid w)) (fun _ _ _ hh h => h.of_heap hh) own started (by kernel_rfl) Tryd.func6
    (ChangeSpec.witness_at (enc := enc) (C := Tryd.checked) (os := os) (X := (fun w _ => laidMetH Tryd.prog Rows.bitmapAllRow.laid w)) false (laidWorld os) #[.slice none 0 0] 8 rfl (by kernel_rfl) (by kernel_rfl) (by kernel_rfl) (by kernel_rfl) (by kernel_rfl) (laidWorld_met os _)) ?_
  intro W base args ds gs before hval0 hW hcnd hsz0 hL _
  have hT : PBm.Tz W := tz_of_laid hL
  have hsz : (DataW.weightsEach Tryd.prog (Tryd.f6.params.toList ++ Rows.bitmapAllSpec.plain.varTypes Tryd.prog) (ds ++ gs)).all (· ≤ reachBytes) = true := hsz0
  have hval : ∀ (j : Nat) t v, Tryd.f6.params[j]? = some t → args[j]? = some v → Value.okWide Tryd.prog W .any base t v := hval0
  have hW' := hW
  obtain ⟨p, q, hA0, hV, rfl, hfz, hnd⟩ := hW
  have hA : DataW.TrodAll enc Tryd.prog W 0 (fun _ => true) true Tryd.f6.params.toList args.toList ds p := hA0
  rw [Tryd.params6] at hA hval hsz
  obtain ⟨v0, vs0, d0, ds0, p0, q0, hargs, rfl, rfl, h0, r0⟩ := trodAll_cons hA
  obtain ⟨rfl, rfl, rfl⟩ := trodAll_nil r0
  obtain rfl : args = #[v0] := by cases args; simp_all
  obtain ⟨rfl, rfl⟩ := trodVars_none hV
  obtain ⟨A0, n0, c0, rfl⟩ := okWide_slice Tryd.underlying48 (hval 0 48 v0 rfl rfl)
  have k0 := h0
  have lt0 : ∀ x ∈ p0, x.block < W.heap.size := by obtain ⟨m, hm⟩ := k0; exact DataW.trod_lt m _ _ _ hm
  obtain ⟨hn0, f0, hl0⟩ : n0 ≤ 9223372036854775807 ∧ ∃ f, PBm.Opp W A0 n0 f := by
    obtain ⟨fuel, hf⟩ := h0
    exact PBm.open_opps hf
  clear hA0 hval0 hsz0 hsz
  have walk : Calls Tryd.prog 6 #[.slice A0 n0 c0] W fun e W' => e = .returned (.bool true) ∧ Below W.heap.size W W' := PBm.bitmapAll_calls hl0 hn0 hT
  refine walk.mono fun e W' ⟨he, bel⟩ => ?_
  subst he
  exact ⟨_, rfl, _, _, _, [], _, [], hW', trodAll_mk1 (shut_bool Tryd.underlying4 _), (trodAll_cons_mk (Below.trod laidOut (by kernel_rfl) (of_decide_eq_true (by kernel_rfl)) k0 bel lt0) trodAll_mk0), rfl, bel.frame _, fun h => by cases h⟩
theorem over : Rows.bitmapAllRow.holds Tryd.pinned (OpenSpec.ofChange Rows.bitmapAllSpec) :=
  OpenClaim.holds_of_wide 6 Tryd.f6 rfl rfl rfl rfl rfl rfl rfl ⟨rfl, rfl, rfl, rfl, rfl⟩ rfl rfl rfl rfl rfl (by kernel_rfl) Tryd.func6 (by kernel_rfl)
    (of_decide_eq_true (by kernel_rfl)) (by unfold Func.isWrapper; first | (rw [if_pos (by decide +kernel)]; kernel_rfl) | (rw [if_neg (by decide +kernel)]; exact ⟨rfl, rfl⟩))
    (fun os started H enc _ => lifted os started H enc)
theorem card : Rows.BitmapAllCardSaid :=
  Claim7.holds_tied_plain_at .later [] [.data] true (true, "50cf126836b7356f95418a44c1e55bb2c027b703e58d359a01fbd209aa7fe08c") false
    over (fun _ h => by cases h) (by kernel_rfl) (fun _ h => by cases h) bitmapAll_row_tie rfl ⟨rfl, rfl⟩ (by kernel_rfl) rfl
    (fun f fn hf hfn => by
      have e := Option.some.inj ((show Tryd.prog.funcNamed "bourse/bourselaw06.BitmapAll" = some 6 by kernel_rfl).symm.trans hf)
      subst e
      obtain rfl : fn = Tryd.f6 := (Option.some.inj (Tryd.func6.symm.trans hfn)).symm
      exact ⟨by kernel_rfl, fun j t ht => by
        rw [Tryd.params6] at ht
        have hm : t = 48 := by
          have h9 := List.mem_of_getElem? (l := ([48] : List Nat)) (i := j) (a := t) (by simpa using ht)
          simp at h9
          first | exact h9 | exact h9.symm | (rcases h9 with h9 | h9 | h9 | h9 <;> simp [h9])
        rcases hm with rfl
        all_goals first | exact (show Tryd.prog.wantsStandIn 48 = false by kernel_rfl)⟩)
    (by kernel_rfl)
#print axioms card
end Go.Proofs.YtgcelkndgjjbdaaDoor.bitmapAll
namespace Go.Proofs.YtgcelkndgjjbdaaDoor
/-- The card, under a short name, for the claim. -/
theorem bitmapAll_card : Rows.BitmapAllCardSaid := bitmapAll.card
end Go.Proofs.YtgcelkndgjjbdaaDoor
