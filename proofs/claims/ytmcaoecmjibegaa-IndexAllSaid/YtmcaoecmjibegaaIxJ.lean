/- The index's Get. -/
import Derived.Test.YtmcaoecmjibegaaIxI
import Derived.BigRegion
namespace Go.Proofs.Ytmcaoecmjibegaa.PIx
open Go.RowKit Go.Proofs.YtmcaoecmjibegaaW.PrintWords Go.Proofs.YtmcaoecmjibegaaW.PrintLast Go.Proofs.YtmcaoecmjibegaaW.PrintMore
set_option linter.unusedVariables false
set_option linter.unusedSimpArgs false

set_option maxHeartbeats 8000000 in
set_option maxRecDepth 100000 in
theorem get_calls {W : World} {g b : Nat} {room keys : Int} {bits : Nat} {pl : List S72} (key : Int) (p : Nat) (h : Ix W g b room keys bits pl) (hf : Fit room keys bits pl) (he : Ends bits pl key p) :
    Calls Try.prog 20 #[.pointer (some ⟨g, 0, none⟩), .int .u64 key] W fun e w' => e = .returned (.tuple #[.int .i64 (vl pl p), .bool (us pl p)]) ∧ Below W.heap.size W w' := by
  obtain ⟨c, ⟨hc0, hc1, _, hc3⟩, hfz, _⟩ := h.cells
  have hn : pl.length ≤ 131072 := by rw [hf.len]; exact Nat.le_trans (Nat.pow_le_pow_right (by decide) hf.hb) (by decide)
  have hp := he.1
  obtain ⟨⟨p0, p1, p2⟩, pf⟩ := h.elem p hp
  have hhome := hf.wf.home key
  have hmd := md_dist hhome hp
  have hg := h.lt
  have hb := h.ltb
  have XX : Aside0 (∀ w1, Ix w1 g b room keys bits pl → Calls Try.prog 27 #[.pointer (some ⟨g, 0, none⟩), .int .u64 key] w1 fun e w' => e = .returned (.int .i64 (p : Int)) ∧ w' = w1) := ⟨fun w1 h1 => by
    have X := find_calls key (dist pl.length (homeN bits key) p) h1 hf.hb hf.len (by rw [hmd]; exact he.2.1) he.2.2
    rwa [hmd] at X⟩
  have HI := Aside0.mk h
  obtain ⟨n, hN⟩ : ∃ n, n = pl.length := ⟨_, rfl⟩
  rw [← hN] at hc3 hn hp
  rw [show (pa pl p).f0.f0 = us pl p from rfl] at p0
  rw [show (pa pl p).f1 = vl pl p from rfl] at p2
  obtain ⟨x0, h0⟩ : ∃ x, x = us pl p := ⟨_, rfl⟩
  obtain ⟨x1, h1⟩ : ∃ x, x = (pa pl p).f0.f1 := ⟨_, rfl⟩
  obtain ⟨x2, h2⟩ : ∃ x, x = vl pl p := ⟨_, rfl⟩
  rw [← h0] at p0 ⊢
  rw [← h1] at p1
  rw [← h2] at p2 ⊢
  clear h hf he hhome hmd hN hfz pf h0 h1 h2
  have key5 : ∃ w5, w5 = (W.alloc (Obj.cells #[.bool x0, .int .u64 x1, .int .i64 x2] 72)).drew ∧ w5.cell? ⟨W.heap.size, 0, none⟩ = some (.bool x0) ∧ w5.cell? ⟨W.heap.size, 1, none⟩ = some (.int .u64 x1) ∧ w5.cell? ⟨W.heap.size, 2, none⟩ = some (.int .i64 x2) ∧ Below W.heap.size W w5 := by
    have hnew : ((W.alloc (Obj.cells #[.bool x0, .int .u64 x1, .int .i64 x2] 72)).drew).heap[W.heap.size]? = some (.cells #[.bool x0, .int .u64 x1, .int .i64 x2] 72 (0, 0)) := heap_alloc_new W _
    exact ⟨_, rfl, (blk_cell hnew 0).trans rfl, (blk_cell hnew 1).trans rfl, (blk_cell hnew 2).trans rfl, by have h7 := (Below.refl W.heap.size W).alloc (Nat.le_refl _) (Obj.cells #[.bool x0, .int .u64 x1, .int .i64 x2] 72); exact ⟨h7.os, h7.tape, h7.output, h7.size, h7.block⟩⟩
  have K5 := Aside0.mk key5
  clear key5
  go_enter Try.func20, Try.ntmps20
  go_wp2_with (fail)
  go_region_with (first | (go_at_call 27; refine (XX.out _ ?_).mono ?_; (first | exact HI.out | exact HI.out.keep rfl rfl | (refine HI.out.keep (Below.heap_alloc _ _ _ hg) (Below.heap_alloc _ _ _ hb))); rintro e w4 ⟨rfl, h4⟩; subst w4))
  all_goals (obtain ⟨w5, hw5, e0, e1, e2, hbel⟩ := K5.out; rw [← hw5]; have HB5 := Aside0.mk hbel; clear hw5 hbel XX HI hc0 hc1 hc3 p0 p1 p2)
  all_goals (go_wp2_with (fail); go_quiet (fail); go_wp2; go_ret2)
  all_goals (exact ⟨rfl, HB5.out.os, HB5.out.tape, HB5.out.output, HB5.out.size, HB5.out.block⟩)
end Go.Proofs.Ytmcaoecmjibegaa.PIx
