/- goes. -/
import Derived.Test.YtgcelkndgjjbdaaDoorBmX
import Derived.BigRegion
import Derived.IntWalk
import Derived.Deep.CutRange
namespace Go.Proofs.YtgcelkndgjjbdaaDoor.PBm
open Go.RowKit Go.Proofs.YtgcelkndgjjbdaaDoorW.PrintWords Go.Proofs.YtgcelkndgjjbdaaDoorW.PrintLast Go.Proofs.YtgcelkndgjjbdaaDoorW.PrintMore
open Go.Shelf
set_option linter.unusedVariables false
set_option linter.unusedSimpArgs false
attribute [local go_sem] Oper.semAt_some
theorem noPanic_ret {Q : Exit → Act → World → Prop} {a : Act} {w : World} (h : Q .ret a w) : noPanic Q .ret a w := h

set_option maxHeartbeats 32000000 in
set_option maxRecDepth 100000 in
theorem goes9_calls {W : World} {g B0 : Nat} {S : St} {v : Value} {l : List Int} (kind on oth A B : Int) (hk : kind ≠ 10) (h : Bm W g S) (hT : Tz W) (hl : Li W B0 v l) (hr : Rep l S) :
    Calls Tryd.prog 44 #[.agg #[.pointer (some ⟨g, 0, none⟩), v], .agg #[.int .i64 kind, .int .i64 on, .int .i64 oth, .int .i64 A, .int .i64 B]] W fun e W' => e = .returned (.bool true) ∧ Bm W' g S ∧ Fr (fun i => i = g) W W' := by
  obtain ⟨A0, cp, rfl⟩ := hl.form
  obtain ⟨q, hq⟩ : ∃ q, q = l.length := ⟨_, rfl⟩
  rw [← hq] at hl ⊢
  have hq2 : q ≤ 262144 := by rw [hq]; exact hr.le
  have HQ2 : Aside0 (q ≤ 262144) := ⟨hq2⟩
  have HQ := Aside0.mk hq
  have HG0 := Aside0.mk (hT.ne h)
  have HNE := Aside0.mk (hl.ne h)
  have HLI := Aside0.mk hl
  have HRP := Aside0.mk hr
  have HTW := Aside0.mk hT
  have HMW := Aside0.mk h
  obtain ⟨L, hL⟩ : ∃ L, L = l := ⟨_, rfl⟩
  have HLL := Aside0.mk hL
  have HLQ : Aside0 (L.length = q) := ⟨by rw [hL, hq]⟩
  have TURN : Aside0 (∀ (w : World) (S' : St), Bm w g S' → Calls Tryd.prog 48 #[.agg #[.pointer (some ⟨g, 0, none⟩), .slice A0 q cp], .int .i64 A] w fun e w' => e = .returned (.bool (tickB A)) ∧ Bm w' g (flip S' A) ∧ Fr (fun k => k = g) w w') := ⟨fun w S' hb => turn_calls _ hb A⟩
  have ek : (kind == 10) = false := beq_eq_false_iff_ne.mpr hk
  obtain ⟨w3, hw3⟩ : ∃ w3, w3 = ((W.alloc (.cells #[.pointer (some ⟨g, 0, none⟩), .slice A0 q cp] 40)).alloc (.cells #[.int .i64 kind, .int .i64 on, .int .i64 oth, .int .i64 A, .int .i64 B] 45)).alloc (.cells #[.bool false] 4) := ⟨_, rfl⟩
  have s1 : (W.alloc (.cells #[.pointer (some ⟨g, 0, none⟩), .slice A0 q cp] 40)).heap.size = W.heap.size + 1 := World.size_alloc _ _
  have s2 : ((W.alloc (.cells #[.pointer (some ⟨g, 0, none⟩), .slice A0 q cp] 40)).alloc (.cells #[.int .i64 kind, .int .i64 on, .int .i64 oth, .int .i64 A, .int .i64 B] 45)).heap.size = W.heap.size + 1 + 1 := by rw [World.size_alloc, s1]
  have hB3 : Below W.heap.size W w3 := by rw [hw3]; exact (((Below.refl _ W).alloc (Nat.le_refl _) _).alloc (by rw [s1]; omega) _).alloc (by rw [s2]; omega) _
  have hP3 : w3.heap[W.heap.size]? = some (.cells #[.pointer (some ⟨g, 0, none⟩), .slice A0 q cp] 40 (0, 0)) := by
    rw [hw3]
    exact (Below.heap_alloc _ _ _ (by rw [s2]; omega)).trans ((Below.heap_alloc _ _ _ (by rw [s1]; omega)).trans (heap_alloc_new W _))
  have hO3 : w3.heap[W.heap.size + 1]? = some (.cells #[.int .i64 kind, .int .i64 on, .int .i64 oth, .int .i64 A, .int .i64 B] 45 (0, 0)) := by
    have := heap_alloc_new (W.alloc (.cells #[.pointer (some ⟨g, 0, none⟩), .slice A0 q cp] 40)) (.cells #[.int .i64 kind, .int .i64 on, .int .i64 oth, .int .i64 A, .int .i64 B] 45)
    rw [s1] at this
    rw [hw3]
    exact (Below.heap_alloc _ _ _ (by rw [s2]; omega)).trans this
  have hR3 : w3.heap[W.heap.size + 1 + 1]? = some (.cells #[.bool false] 4 (0, 0)) := by
    have := heap_alloc_new ((W.alloc (.cells #[.pointer (some ⟨g, 0, none⟩), .slice A0 q cp] 40)).alloc (.cells #[.int .i64 kind, .int .i64 on, .int .i64 oth, .int .i64 A, .int .i64 B] 45)) (.cells #[.bool false] 4)
    rw [s2] at this
    rw [hw3]
    exact this
  have K0 := Aside0.mk (And.intro hB3 (And.intro hP3 (And.intro hO3 hR3)))
  have HW3 := Aside0.mk hw3
  have hs3 : w3.heap.size = W.heap.size + 1 + 1 + 1 := by rw [hw3, World.size_alloc, s2]
  have HS3 := Aside0.mk hs3
  have HG3 : Aside0 (GoS W g S (.slice A0 q cp) kind on oth A B w3.heap.size (w3.heap.size + 1) ((w3.alloc (Obj.cells #[.pointer (some ⟨g, 0, none⟩)] 23)).alloc (Obj.cells #[.int .i64 ((0 : Nat) : Int)] 3))) := ⟨by
    have z1 : (w3.alloc (Obj.cells #[.pointer (some ⟨g, 0, none⟩)] 23)).heap.size = w3.heap.size + 1 := World.size_alloc _ _
    have b5 : Below w3.heap.size w3 ((w3.alloc (Obj.cells #[.pointer (some ⟨g, 0, none⟩)] 23)).alloc (Obj.cells #[.int .i64 ((0 : Nat) : Int)] 3)) := ((Below.refl _ w3).alloc (Nat.le_refl _) _).alloc (by rw [z1]; omega) _
    have b6 := below_then hB3 hB3.size b5
    have hg := h.lt
    refine ⟨(Fr.refl _ W).below b6, (b5.block _ (by omega)).trans hP3, (b5.block _ (by omega)).trans hO3, (b5.block _ (by omega)).trans hR3, ?_, h.below b6 hg, hg, by omega, by omega, by rw [World.size_alloc, z1]; omega⟩
    exact (Below.heap_alloc _ _ _ (by rw [z1]; omega)).trans (heap_alloc_new w3 _)⟩
  have HR0 : Aside0 (((w3.alloc (Obj.cells #[.pointer (some ⟨g, 0, none⟩)] 23)).alloc (Obj.cells #[.int .i64 ((0 : Nat) : Int)] 3)).heap[w3.heap.size + 1]? = some (.cells #[.int .i64 ((0 : Nat) : Int)] 3 (0, 0))) := ⟨by
    have := heap_alloc_new (w3.alloc (Obj.cells #[.pointer (some ⟨g, 0, none⟩)] 23)) (Obj.cells #[.int .i64 ((0 : Nat) : Int)] 3)
    rw [World.size_alloc] at this
    exact this⟩
  have cP0 : w3.cell? ⟨W.heap.size, 0, none⟩ = some (.pointer (some ⟨g, 0, none⟩)) := (blk_cell hP3 0).trans rfl
  have cO0 : w3.cell? ⟨W.heap.size + 1, 0, none⟩ = some (.int .i64 kind) := (blk_cell hO3 0).trans rfl
  have cO1 : (w3.alloc (Obj.cells #[.pointer (some ⟨g, 0, none⟩)] 23)).cell? ⟨W.heap.size + 1, 0, none⟩ = some (.int .i64 kind) := (blk_cell ((Below.heap_alloc _ _ _ (by omega)).trans hO3) 0).trans rfl
  clear h hT hl hr hk hq hq2 hL hB3 hP3 hO3 hR3 s1 s2 hs3 hw3
  refine (callsIn_wide (n := 8)).1 (callsIn_of_wp_marks (F := Fence.wide) Tryd.func44 rfl trivial ?_ rfl)
  refine wpIn_noPanic ?_
  refine wpIn_wide.2 ?_
  have hnf := func_nil
  simp only [Tryd.ntmps44, List.size_toArray, List.length_cons, List.length_nil, Nat.reduceAdd, Nat.reduceSub, Array.replicate_succ, Array.replicate_zero, List.push_toArray, List.append_toArray, List.nil_append, List.cons_append]
  go_upto_region 1 with (fail)
  rw [← HW3.out]
  go_wp2_with (first
    | ((with_reducible refine gate_callee (f := 46) rfl ?_); (try (refine gate_guard (by rfl) ?_; dsimp only)); refine goesL_ (some 13) rfl rfl Tryd.func46 (by kernel_rfl) rfl #[.pointer (some ⟨g, 0, none⟩)] rfl (by (try simp only [List.map_toArray, List.map_cons, List.map_nil]); first | done | rfl) ?_; (with_reducible refine (all_calls g _).mono ?_); rintro e w5 ⟨rfl, rfl⟩; refine ⟨_, rfl, ?_⟩; skip)
    | ((with_reducible refine gate_callee (f := 47) rfl ?_); (try (refine gate_guard (by rfl) ?_; dsimp only)); refine goesL_ (some 19) rfl rfl Tryd.func47 (by kernel_rfl) rfl #[.pointer (some ⟨g, 0, none⟩)] rfl (by (try simp only [List.map_toArray, List.map_cons, List.map_nil]); first | done | rfl) ?_; (with_reducible refine (back_calls g _).mono ?_); rintro e w5 ⟨rfl, rfl⟩; refine ⟨_, rfl, ?_⟩; skip))
  clear cP0 cO0 cO1 K0 HW3 hnf
  refine wp_loop_ghost_k (fun kq a w => ∃ (ds : List Deferred) (rb : Nat) (u0 u1 u7 u8 u9 u10 u11 u12 u13 u14 u15 u16 u17 u18 u19 u20 u21 u22 u23 u24 u25 u26 u27 u28 u29 u30 u31 u32 u33 u34 u35 u36 u37 u38 u39 u40 u41 u42 u43 u44 u45 u46 u47 u48 u49 u50 u51 u52 u53 u54 u55 u56 u57 u58 u59 u60 u61 u62 u63 u64 u65 u66 u67 u68 u69 u70 u71 u72 u73 u74 u75 u76 u77 u78 u79 u80 u81 u82 u83 u84 u85 u86 u87 u88 u89 u90 u91 u92 u93 u94 u95 u96 u97 : Value), (∃ (r : Nat) (Ds : List Nat), r ≤ 2 ∧ Aside0 (kq + r = 2) ∧ Aside0 (ds = Ds.map mark) ∧ Aside0 (GoS W g S (.slice A0 q cp) kind on oth A B w3.heap.size (w3.heap.size + 1) w) ∧ Aside0 (w.heap[rb]? = some (.cells #[.int .i64 (r : Int)] 3 (0, 0))) ∧ Aside0 ((w3.heap.size + 1) ≤ rb) ∧ Aside0 (DsOk (w3.heap.size + 1) Ds w ∧ ∀ D ∈ Ds, D < rb)) ∧ a = { tmps := (List.toArray (u0 :: u1 :: (.pointer (some ⟨W.heap.size, 0, none⟩) : Value) :: (.pointer (some ⟨W.heap.size + 1, 0, none⟩) : Value) :: (.pointer (some ⟨W.heap.size + 1 + 1, 0, none⟩) : Value) :: (.func (.func 49) #[] #[.pointer (some ⟨w3.heap.size, 0, none⟩)] : Value) :: (.pointer (some ⟨rb, 0, none⟩) : Value) :: u7 :: u8 :: u9 :: u10 :: u11 :: u12 :: u13 :: u14 :: u15 :: u16 :: u17 :: u18 :: u19 :: u20 :: u21 :: u22 :: u23 :: u24 :: u25 :: u26 :: u27 :: u28 :: u29 :: u30 :: u31 :: u32 :: u33 :: u34 :: u35 :: u36 :: u37 :: u38 :: u39 :: u40 :: u41 :: u42 :: u43 :: u44 :: u45 :: u46 :: u47 :: u48 :: u49 :: u50 :: u51 :: u52 :: u53 :: u54 :: u55 :: u56 :: u57 :: u58 :: u59 :: u60 :: u61 :: u62 :: u63 :: u64 :: u65 :: u66 :: u67 :: u68 :: u69 :: u70 :: u71 :: u72 :: u73 :: u74 :: u75 :: u76 :: u77 :: u78 :: u79 :: u80 :: u81 :: u82 :: u83 :: u84 :: u85 :: u86 :: u87 :: u88 :: u89 :: u90 :: u91 :: u92 :: u93 :: u94 :: u95 :: u96 :: u97 :: [])), defers := ds }) 2 ?_ ?_
  · (repeat apply Exists.intro)
    refine ⟨⟨0, [], by omega, ⟨by omega⟩, ⟨rfl⟩, HG3, HR0, ⟨by omega⟩, ⟨DsOk.nil _ _, by simp⟩⟩, rfl⟩
  · intro gk a0 wr hinv
    obtain ⟨ds, hinv⟩ := hinv
    obtain ⟨rb, hinv⟩ := hinv
    obtain ⟨u0, hinv⟩ := hinv
    obtain ⟨u1, hinv⟩ := hinv
    obtain ⟨u7, hinv⟩ := hinv
    obtain ⟨u8, hinv⟩ := hinv
    obtain ⟨u9, hinv⟩ := hinv
    obtain ⟨u10, hinv⟩ := hinv
    obtain ⟨u11, hinv⟩ := hinv
    obtain ⟨u12, hinv⟩ := hinv
    obtain ⟨u13, hinv⟩ := hinv
    obtain ⟨u14, hinv⟩ := hinv
    obtain ⟨u15, hinv⟩ := hinv
    obtain ⟨u16, hinv⟩ := hinv
    obtain ⟨u17, hinv⟩ := hinv
    obtain ⟨u18, hinv⟩ := hinv
    obtain ⟨u19, hinv⟩ := hinv
    obtain ⟨u20, hinv⟩ := hinv
    obtain ⟨u21, hinv⟩ := hinv
    obtain ⟨u22, hinv⟩ := hinv
    obtain ⟨u23, hinv⟩ := hinv
    obtain ⟨u24, hinv⟩ := hinv
    obtain ⟨u25, hinv⟩ := hinv
    obtain ⟨u26, hinv⟩ := hinv
    obtain ⟨u27, hinv⟩ := hinv
    obtain ⟨u28, hinv⟩ := hinv
    obtain ⟨u29, hinv⟩ := hinv
    obtain ⟨u30, hinv⟩ := hinv
    obtain ⟨u31, hinv⟩ := hinv
    obtain ⟨u32, hinv⟩ := hinv
    obtain ⟨u33, hinv⟩ := hinv
    obtain ⟨u34, hinv⟩ := hinv
    obtain ⟨u35, hinv⟩ := hinv
    obtain ⟨u36, hinv⟩ := hinv
    obtain ⟨u37, hinv⟩ := hinv
    obtain ⟨u38, hinv⟩ := hinv
    obtain ⟨u39, hinv⟩ := hinv
    obtain ⟨u40, hinv⟩ := hinv
    obtain ⟨u41, hinv⟩ := hinv
    obtain ⟨u42, hinv⟩ := hinv
    obtain ⟨u43, hinv⟩ := hinv
    obtain ⟨u44, hinv⟩ := hinv
    obtain ⟨u45, hinv⟩ := hinv
    obtain ⟨u46, hinv⟩ := hinv
    obtain ⟨u47, hinv⟩ := hinv
    obtain ⟨u48, hinv⟩ := hinv
    obtain ⟨u49, hinv⟩ := hinv
    obtain ⟨u50, hinv⟩ := hinv
    obtain ⟨u51, hinv⟩ := hinv
    obtain ⟨u52, hinv⟩ := hinv
    obtain ⟨u53, hinv⟩ := hinv
    obtain ⟨u54, hinv⟩ := hinv
    obtain ⟨u55, hinv⟩ := hinv
    obtain ⟨u56, hinv⟩ := hinv
    obtain ⟨u57, hinv⟩ := hinv
    obtain ⟨u58, hinv⟩ := hinv
    obtain ⟨u59, hinv⟩ := hinv
    obtain ⟨u60, hinv⟩ := hinv
    obtain ⟨u61, hinv⟩ := hinv
    obtain ⟨u62, hinv⟩ := hinv
    obtain ⟨u63, hinv⟩ := hinv
    obtain ⟨u64, hinv⟩ := hinv
    obtain ⟨u65, hinv⟩ := hinv
    obtain ⟨u66, hinv⟩ := hinv
    obtain ⟨u67, hinv⟩ := hinv
    obtain ⟨u68, hinv⟩ := hinv
    obtain ⟨u69, hinv⟩ := hinv
    obtain ⟨u70, hinv⟩ := hinv
    obtain ⟨u71, hinv⟩ := hinv
    obtain ⟨u72, hinv⟩ := hinv
    obtain ⟨u73, hinv⟩ := hinv
    obtain ⟨u74, hinv⟩ := hinv
    obtain ⟨u75, hinv⟩ := hinv
    obtain ⟨u76, hinv⟩ := hinv
    obtain ⟨u77, hinv⟩ := hinv
    obtain ⟨u78, hinv⟩ := hinv
    obtain ⟨u79, hinv⟩ := hinv
    obtain ⟨u80, hinv⟩ := hinv
    obtain ⟨u81, hinv⟩ := hinv
    obtain ⟨u82, hinv⟩ := hinv
    obtain ⟨u83, hinv⟩ := hinv
    obtain ⟨u84, hinv⟩ := hinv
    obtain ⟨u85, hinv⟩ := hinv
    obtain ⟨u86, hinv⟩ := hinv
    obtain ⟨u87, hinv⟩ := hinv
    obtain ⟨u88, hinv⟩ := hinv
    obtain ⟨u89, hinv⟩ := hinv
    obtain ⟨u90, hinv⟩ := hinv
    obtain ⟨u91, hinv⟩ := hinv
    obtain ⟨u92, hinv⟩ := hinv
    obtain ⟨u93, hinv⟩ := hinv
    obtain ⟨u94, hinv⟩ := hinv
    obtain ⟨u95, hinv⟩ := hinv
    obtain ⟨u96, hinv⟩ := hinv
    obtain ⟨u97, hinv⟩ := hinv
    obtain ⟨⟨r, Ds, hr2, HK, HDS, HG, HRB, HNR, HDO⟩, ha⟩ := hinv
    subst ha
    clear HG3 HR0
    try dsimp only
    intro _ _ _ _
    have c6 : wr.cell? ⟨rb, 0, none⟩ = some (.int .i64 (r : Int)) := (blk_cell HRB.out 0).trans rfl
    have c6f := blk_frozen HRB.out 0
    by_cases hr : r < 2
    · obtain ⟨gk1, rfl⟩ : ∃ gk1, gk = gk1 + 1 := ⟨gk - 1, by have := HK.out; omega⟩
      go_wp2_with (fail)
      refine (wpIn_wide (n := 8)).1 ?_
      refine wpIn_act ?_
      intro a0 ha0
      refine wpIn_world ?_
      intro w5 hw5
      have y1 : (wr.alloc (Obj.cells #[.int .i64 0] 3)).heap.size = wr.heap.size + 1 := World.size_alloc _ _
      have hsz : w5.heap.size = wr.heap.size + 1 + 1 := by rw [hw5, World.size_alloc, y1]
      have hrl : rb < wr.heap.size := blk_lt HRB.out
      have HB5 : Below wr.heap.size wr w5 := by rw [hw5]; exact ((Below.refl _ wr).alloc (Nat.le_refl _) _).alloc (by rw [y1]; omega) _
      have htd : turnd r A [] = false := by unfold turnd; simp
      have hfl : flp r A [] S = S := by unfold flp; rw [htd]; rfl
      have HI5 : Aside0 (GoI W g S (.slice A0 q cp) kind on oth A B w3.heap.size (w3.heap.size + 1) rb wr.heap.size (wr.heap.size + 1) w5.heap.size r Ds [] w5) := ⟨⟨by rw [hfl]; exact HG.out.below (HB5.mono HG.out.hN),
        blk_below HRB.out HB5, by rw [hw5]; exact (Below.heap_alloc _ _ _ (by rw [y1]; omega)).trans (heap_alloc_new wr _), by rw [hw5, htd]; have := heap_alloc_new (wr.alloc (Obj.cells #[.int .i64 0] 3)) (Obj.cells #[.bool false] 4); rw [y1] at this; exact this,
        HDO.out.1.below HDO.out.1.lt HB5, HNR.out, hrl, by omega, by omega, HDO.out.2⟩⟩
      have hcell : w5.cell? ⟨w3.heap.size, 0, none⟩ = some (.pointer (some ⟨g, 0, none⟩)) := (blk_cell HI5.out.st.qbk 0).trans rfl
      have hpb : w3.heap.size < w5.heap.size := by have := HI5.out.st.hN; have := HI5.out.st.o2; omega
      have HT5 : Aside0 (Tz w5) := ⟨HI5.out.st.tz HTW.out HG0.out⟩
      have HM5 : Aside0 (Bm w5 g S) := ⟨by have := HI5.out.st.m; unfold flp at this; rwa [htd] at this⟩
      have HGW : Aside0 (g < wr.heap.size ∧ W.heap.size + 1 + 1 < wr.heap.size ∧ w5.heap.size = wr.heap.size + 1 + 1 ∧ rb < wr.heap.size ∧ W.heap.size + 1 + 1 < rb) := ⟨by have := HG.out.hN; have := HG.out.g0; have := HG.out.o1; have := HG.out.o2; have := HNR.out; omega⟩
      clear c6 c6f hrl HB5 y1 htd hfl
      refine wpIn_rangeFunc_ownG rfl (by decide) (gf := 49) (lb := #[.pointer (some ⟨w3.heap.size, 0, none⟩)]) (by rw [ha0]; exact rfl) trivial (enters_of Tryd.func49 (by kernel_rfl) rfl)
        (all1_seq 7 (by decide) HM5.out HRP.out HT5.out hcell hpb) (fun h k => h.trans k) (fun W l o o' _ h hc _ => keepT_b W l o o' h hc) (Below.refl _ _) (fun _ => rfl)
        (GoI W g S (.slice A0 q cp) kind on oth A B w3.heap.size (w3.heap.size + 1) rb wr.heap.size (wr.heap.size + 1) w5.heap.size r Ds) (GoX (GoI W g S (.slice A0 q cp) kind on oth A B w3.heap.size (w3.heap.size + 1) rb wr.heap.size (wr.heap.size + 1) w5.heap.size r Ds) 2 r L B) (GoI.own _ _ _ _ _ _ _ _ _ _ _ _ _ _ _ _ _) (GoX.own (GoI.own _ _ _ _ _ _ _ _ _ _ _ _ _ _ _ _ _) _ _ _ _) HI5.out
        (fun x => { tmps := (((a0.tmps.setIfInBounds 23 (.bool true)).setIfInBounds 27 (.int .i64 x)).setIfInBounds 9 (.int .i64 x)), defers := [] }) ?assign ?body ?done ?stop
      case assign =>
        intro l x Wl Kl hK
        subst ha0
        clear hcell hpb hsz hw5
        dsimp only [encI]
        gi_wp2
        exact hK
      case body =>
        rintro ll pre x w6 HI hlen
        subst ha0
        rw [← HLL.out, HLQ.out] at hlen
        have HI6 := Aside0.mk HI
        obtain ⟨m, hm⟩ : ∃ m, m = pre.length := ⟨_, rfl⟩
        have HM := Aside0.mk hm
        have hmq : m < q := by omega
        have hq1 : q ≤ 262144 := HQ2.out
        have HMQ : Aside0 (m < q) := ⟨hmq⟩
        have HLI6 : Aside0 (Li w6 B0 (.slice A0 q cp) l) := ⟨HLI.out.fr HI6.out.st.fr (fun i hi => by rw [hi]; exact HNE.out)⟩
        obtain ⟨j, hj⟩ : ∃ j : Nat, m = j := ⟨_, rfl⟩
        have hjq : j < q := by omega
        have HJ : Aside0 (L.getD m 0 = l.getD j 0) := ⟨by rw [HLL.out, hj]⟩
        obtain ⟨c, cap, hv, p0⟩ := HLI6.out.at_ j (by rw [← HQ.out]; exact hjq)
        injection hv with e1 e2 e3
        subst e1
        subst e3
        clear e2
        rw [← HJ.out] at p0
        obtain ⟨y, hy⟩ : ∃ y, y = L.getD m 0 := ⟨_, rfl⟩
        rw [← hy] at p0
        have HY := Aside0.mk hy
        have co0 : w6.cell? ⟨W.heap.size + 1, 0, none⟩ = some (.int .i64 kind) := (blk_cell HI6.out.st.obk 0).trans rfl
        have co3 : w6.cell? ⟨W.heap.size + 1, 3, none⟩ = some (.int .i64 A) := (blk_cell HI6.out.st.obk 3).trans rfl
        have co4 : w6.cell? ⟨W.heap.size + 1, 4, none⟩ = some (.int .i64 B) := (blk_cell HI6.out.st.obk 4).trans rfl
        have cx0 : w6.cell? ⟨W.heap.size, 0, none⟩ = some (.pointer (some ⟨g, 0, none⟩)) := (blk_cell HI6.out.st.xbk 0).trans rfl
        have cx1 : w6.cell? ⟨W.heap.size, 1, none⟩ = some (.slice (some ⟨c, 0, none⟩) q cp) := (blk_cell HI6.out.st.xbk 1).trans rfl
        have cn : w6.cell? ⟨wr.heap.size, 0, none⟩ = some (.int .i64 (m : Int)) := by rw [hm]; exact (blk_cell HI6.out.nbx 0).trans rfl
        have cnf : w6.frozen? ⟨wr.heap.size, 0, none⟩ = false := blk_frozen HI6.out.nbx 0
        have cr : w6.cell? ⟨rb, 0, none⟩ = some (.int .i64 (r : Int)) := (blk_cell HI6.out.rbx 0).trans rfl
        have cR : w6.cell? ⟨W.heap.size + 1 + 1, 0, none⟩ = some (.bool false) := (blk_cell HI6.out.st.rbk 0).trans rfl
        have cRf : w6.frozen? ⟨W.heap.size + 1 + 1, 0, none⟩ = false := blk_frozen HI6.out.st.rbk 0
        have hne7 : rb ≠ wr.heap.size := by have := HGW.out; omega
        have hne8 : W.heap.size + 1 ≠ wr.heap.size := by have := HGW.out; omega
        have hle : 1 ≤ 8 - 1 - 1 := by decide
        have wm : IntKind.i64.wrap ((m : Int) + 1) = (m : Int) + 1 := IntWalk.i64_in _ (by omega)
        have d1 : decide ((j : Int) < 0) = false := decide_eq_false (by omega)
        have d0 : decide ((q : Int) ≤ (j : Int)) = false := decide_eq_false (by omega)
        have hjq' : (j : Int) < (q : Int) := by omega
        subst hj
        clear HI hlen hm hcell hpb hsz hw5 hy
        by_cases hx : x = y
        · subst hx
          by_cases hr0 : r = 0
          · subst hr0
            by_cases hm0 : m = 0
            · have HP0 : Aside0 (pre = []) := ⟨List.eq_nil_of_length_eq_zero (by rw [← HM.out]; exact hm0)⟩
              have HT6 : Aside0 (Calls Tryd.prog 48 #[.agg #[.pointer (some ⟨g, 0, none⟩), .slice (some ⟨c, 0, none⟩) q cp], .int .i64 A] w6 fun e w' => e = .returned (.bool (tickB A)) ∧ (GoI W g S (.slice (some ⟨c, 0, none⟩) q cp) kind on oth A B w3.heap.size (w3.heap.size + 1) rb wr.heap.size (wr.heap.size + 1) w5.heap.size 0 Ds [x] ((w'.setCell ⟨wr.heap.size + 1, 0, none⟩ (.bool (tickB A))).setCell ⟨wr.heap.size, 0, none⟩ (.int .i64 ((m : Int) + 1))) ∧ w'.heap[wr.heap.size]? = some (.cells #[.int .i64 (m : Int)] 3 (0, 0)) ∧ w'.heap[wr.heap.size + 1]? = some (.cells #[.bool false] 4 (0, 0)) ∧ w'.heap[rb]? = some (.cells #[.int .i64 0] 3 (0, 0)) ∧ w'.heap[W.heap.size + 1]? = some (.cells #[.int .i64 kind, .int .i64 on, .int .i64 oth, .int .i64 A, .int .i64 B] 45 (0, 0))) ∧ Fr (fun i => i = g) w6 w') := ⟨by
                have hI := HI6.out
                rw [HP0.out] at hI
                have hmm : Bm w6 g S := by have := hI.st.m; unfold flp turnd at this; simpa using this
                refine (TURN.out w6 S hmm).mono ?_
                rintro e w' ⟨rfl, hb, hf⟩
                have e0 : ((m : Int)) = 0 := by omega
                rw [e0]
                exact ⟨rfl, hI.first x hb hf, hf⟩⟩
              have HM0 := Aside0.mk hm0
              have em : ((m : Int) == 0) = true := beq_iff_eq.mpr (by omega)
              clear hm0
              obtain ⟨tA, htA⟩ : ∃ t, t = tickB A := ⟨_, rfl⟩
              rw [← htA] at HT6
              clear htA
              gi_wp2
              refine ⟨trivial, ?_⟩
              refine (CallsIn.inRound ll (callsIn_wide.2 HT6.out)).mono ?_
              rintro e w7 ⟨rfl, h7, f7⟩
              have H7 := Aside0.mk h7
              have F7 := Aside0.mk f7
              have k1 : w7.cell? ⟨wr.heap.size, 0, none⟩ = some (.int .i64 (m : Int)) := (blk_cell H7.out.2.1 0).trans rfl
              have k2 : w7.frozen? ⟨wr.heap.size, 0, none⟩ = false := blk_frozen H7.out.2.1 0
              have k3 : w7.cell? ⟨wr.heap.size + 1, 0, none⟩ = some (.bool false) := (blk_cell H7.out.2.2.1 0).trans rfl
              have k4 : w7.frozen? ⟨wr.heap.size + 1, 0, none⟩ = false := blk_frozen H7.out.2.2.1 0
              have k5 : w7.cell? ⟨rb, 0, none⟩ = some (.int .i64 0) := (blk_cell H7.out.2.2.2.1 0).trans rfl
              have k6 : w7.cell? ⟨W.heap.size + 1, 4, none⟩ = some (.int .i64 B) := (blk_cell H7.out.2.2.2.2 4).trans rfl
              have hne9 : wr.heap.size ≠ wr.heap.size + 1 := by omega
              have hne10 : rb ≠ wr.heap.size + 1 := by have := HGW.out; omega
              have hne11 : W.heap.size + 1 ≠ wr.heap.size + 1 := by have := HGW.out; omega
              have HFN : Aside0 (Fr (fun i => i = g ∨ i = wr.heap.size ∨ i = wr.heap.size + 1) w6 ((w7.setCell ⟨wr.heap.size + 1, 0, none⟩ (.bool tA)).setCell ⟨wr.heap.size, 0, none⟩ (.int .i64 ((m : Int) + 1)))) := ⟨((F7.out.mono (fun i hi => .inl (.inl hi))).setCell (p := ⟨wr.heap.size + 1, 0, none⟩) (.inl (.inr (.inr rfl))) _).setCell (p := ⟨wr.heap.size, 0, none⟩) (.inl (.inr (.inl rfl))) _⟩
              clear h7 f7 co0 co3 co4 cx0 cx1 cn cnf cr cR cRf p0
              by_cases hn1 : (m : Int) + 1 = B
              · have e7 : ((m : Int) + 1 == B) = true := beq_iff_eq.mpr hn1
                have HN1 := Aside0.mk hn1
                clear hn1
                gi_wp2
                exact ⟨HFN.out.keepsFrom (fun i hi => by have := HGW.out; omega), .inr ⟨rfl, rfl, by rw [HP0.out, ← HN1.out, HM0.out]; rfl, by rw [HP0.out]; exact H7.out.1⟩⟩
              · have e7 : ((m : Int) + 1 == B) = false := beq_eq_false_iff_ne.mpr hn1
                clear hn1
                gi_wp2
                exact ⟨HFN.out.keepsFrom (fun i hi => by have := HGW.out; omega), HFN.out.keepT (fun i hi => by have := HGW.out; omega) (fun hi => by have := HGW.out; have := HG0.out; omega), by rw [HP0.out]; exact H7.out.1⟩
            · have em : ((m : Int) == 0) = false := beq_eq_false_iff_ne.mpr (by omega)
              have HFN : Aside0 (Fr (fun i => i = wr.heap.size) w6 (w6.setCell ⟨wr.heap.size, 0, none⟩ (.int .i64 ((m : Int) + 1)))) := ⟨(Fr.refl (fun i => i = wr.heap.size) w6).setCell (p := ⟨wr.heap.size, 0, none⟩) (.inl rfl) _⟩
              have HMO : Aside0 (GoI W g S (.slice (some ⟨c, 0, none⟩) q cp) kind on oth A B w3.heap.size (w3.heap.size + 1) rb wr.heap.size (wr.heap.size + 1) w5.heap.size 0 Ds (pre ++ [x]) (w6.setCell ⟨wr.heap.size, 0, none⟩ (.int .i64 ((m : Int) + 1)))) := ⟨by rw [HM.out]; exact HI6.out.more (.inr (fun e => hm0 (by rw [HM.out, e]; rfl))) x⟩
              clear hm0
              by_cases hn1 : (m : Int) + 1 = B
              · have e7 : ((m : Int) + 1 == B) = true := beq_iff_eq.mpr hn1
                have HN1 := Aside0.mk hn1
                clear hn1
                gi_wp2
                exact ⟨HFN.out.keepsFrom (fun i hi => by have := HGW.out; omega), .inr ⟨rfl, rfl, by rw [List.length_append, List.length_singleton, ← HM.out, ← HN1.out]; rfl, HMO.out⟩⟩
              · have e7 : ((m : Int) + 1 == B) = false := beq_eq_false_iff_ne.mpr hn1
                clear hn1
                gi_wp2
                exact ⟨HFN.out.keepsFrom (fun i hi => by have := HGW.out; omega), HFN.out.keepT (fun i hi => by have := HGW.out; omega) (fun hi => by have := HGW.out; omega), HMO.out⟩
          · have e6 : ((r : Int) == 0) = false := beq_eq_false_iff_ne.mpr (by omega)
            have HFN : Aside0 (Fr (fun i => i = wr.heap.size) w6 (w6.setCell ⟨wr.heap.size, 0, none⟩ (.int .i64 ((m : Int) + 1)))) := ⟨(Fr.refl (fun i => i = wr.heap.size) w6).setCell (p := ⟨wr.heap.size, 0, none⟩) (.inl rfl) _⟩
            have HMO : Aside0 (GoI W g S (.slice (some ⟨c, 0, none⟩) q cp) kind on oth A B w3.heap.size (w3.heap.size + 1) rb wr.heap.size (wr.heap.size + 1) w5.heap.size r Ds (pre ++ [x]) (w6.setCell ⟨wr.heap.size, 0, none⟩ (.int .i64 ((m : Int) + 1)))) := ⟨by rw [HM.out]; exact HI6.out.more (.inl hr0) x⟩
            clear hr0
            gi_wp2
            exact ⟨HFN.out.keepsFrom (fun i hi => by have := HGW.out; omega), HFN.out.keepT (fun i hi => by have := HGW.out; omega) (fun hi => by have := HGW.out; omega), HMO.out⟩
        · have e5 : (x != y) = true := bne_iff_ne.mpr hx
          have HX := Aside0.mk hx
          clear hx
          gi_wp2
          exact ⟨((Fr.refl (fun i => i = W.heap.size + 1 + 1) w6).setCell (p := ⟨W.heap.size + 1 + 1, 0, none⟩) (.inl rfl) _).keepsFrom (fun i hi => by have := HGW.out; omega), .inl ⟨rfl, pre, _, rfl, by rw [← HM.out, HLQ.out]; exact HMQ.out, by rw [← HM.out, ← HY.out]; exact fun h => HX.out h.symm⟩⟩
      case done =>
        rintro D ys w6 hD hys HI hK
        subst ha0
        rw [← HLL.out] at hys
        subst hys
        have HI6 := Aside0.mk HI
        have HK6 := Aside0.mk hK
        have HD6 := Aside0.mk hD
        have cx0 : w6.cell? ⟨W.heap.size, 0, none⟩ = some (.pointer (some ⟨g, 0, none⟩)) := (blk_cell HI6.out.st.xbk 0).trans rfl
        have cx1 : w6.cell? ⟨W.heap.size, 1, none⟩ = some (.slice A0 q cp) := (blk_cell HI6.out.st.xbk 1).trans rfl
        have co3 : w6.cell? ⟨W.heap.size + 1, 3, none⟩ = some (.int .i64 A) := (blk_cell HI6.out.st.obk 3).trans rfl
        have cn : w6.cell? ⟨wr.heap.size, 0, none⟩ = some (.int .i64 (q : Int)) := by have := (blk_cell HI6.out.nbx 0).trans rfl; rwa [HLQ.out] at this
        have cr : w6.cell? ⟨rb, 0, none⟩ = some (.int .i64 (r : Int)) := (blk_cell HI6.out.rbx 0).trans rfl
        have eqq : ((q : Int) != (q : Int)) = false := bne_self_eq_false' (a := (q : Int))
        clear HI hK hD hcell hpb hsz hw5
        cases htd : turnd r A ys with
        | true =>
          have ct : w6.cell? ⟨wr.heap.size + 1, 0, none⟩ = some (.bool true) := by have := (blk_cell HI6.out.tbx 0).trans rfl; rwa [htd] at this
          have HT6 : Aside0 (Calls Tryd.prog 48 #[.agg #[.pointer (some ⟨g, 0, none⟩), .slice A0 q cp], .int .i64 A] w6 fun e w' => e = .returned (.bool (tickB A)) ∧ (GoS W g S (.slice A0 q cp) kind on oth A B w3.heap.size (w3.heap.size + 1) w' ∧ w'.heap[wr.heap.size]? = some (.cells #[.int .i64 (q : Int)] 3 (0, 0)) ∧ w'.heap[W.heap.size]? = some (.cells #[.pointer (some ⟨g, 0, none⟩), .slice A0 q cp] 40 (0, 0)) ∧ w'.heap[rb]? = some (.cells #[.int .i64 (r : Int)] 3 (0, 0)) ∧ DsOk (w3.heap.size + 1) (D :: Ds) w' ∧ ∀ D' ∈ D :: Ds, D' < w'.heap.size)) := ⟨by
            have hI := HI6.out
            have hmm : Bm w6 g (flip S A) := by have := hI.st.m; unfold flp at this; rw [htd] at this; exact this
            have hds : DsOk (w3.heap.size + 1) (D :: Ds) w6 := hI.ds.cons (B := rb) hI.hD (by have := HGW.out; have := HD6.out; omega) hI.h1 HK6.out
            refine (TURN.out w6 _ hmm).mono ?_
            rintro e w' ⟨rfl, hb, hf⟩
            have hg := hI.st.g0
            have ho := hI.st.o1
            have ho2 := hI.st.o2
            have h1 := hI.h1
            have h2 := hI.h2
            have hd' := hds.fr hf (fun D' hD' e => by have := (hds.blk D' hD').1; omega)
            have hnb := hf.blk hI.nbx (by omega)
            rw [HLQ.out] at hnb
            exact ⟨rfl, (hI.st.call hb hf).ext (fun t _ => flip_flip S A t), hnb, hf.blk hI.st.xbk (by omega), hf.blk hI.rbx (by omega), hd', hd'.lt⟩⟩
          obtain ⟨tA, htA⟩ : ∃ t, t = tickB A := ⟨_, rfl⟩
          rw [← htA] at HT6
          clear htA
          go_wp2_with (fail)
          refine (HT6.out).mono ?_
          rintro e w7 ⟨rfl, h7⟩
          have H7 := Aside0.mk h7
          have k1 : w7.cell? ⟨wr.heap.size, 0, none⟩ = some (.int .i64 (q : Int)) := (blk_cell H7.out.2.1 0).trans rfl
          have k2 : w7.cell? ⟨W.heap.size, 1, none⟩ = some (.slice A0 q cp) := (blk_cell H7.out.2.2.1 1).trans rfl
          have k3 : w7.cell? ⟨rb, 0, none⟩ = some (.int .i64 (r : Int)) := (blk_cell H7.out.2.2.2.1 0).trans rfl
          have HZ : Aside0 (∀ X : Int, X = (r : Int) + 1 → GoS W g S (.slice A0 q cp) kind on oth A B w3.heap.size (w3.heap.size + 1) (w7.alloc (Obj.cells #[.int .i64 X] 3)) ∧ (w7.alloc (Obj.cells #[.int .i64 X] 3)).heap[w7.heap.size]? = some (.cells #[.int .i64 (((r + 1 : Nat)) : Int)] 3 (0, 0)) ∧ DsOk (w3.heap.size + 1) (D :: Ds) (w7.alloc (Obj.cells #[.int .i64 X] 3)) ∧ (w3.heap.size + 1) ≤ w7.heap.size) := ⟨fun X hX => by
            have hb := (Below.refl w7.heap.size w7).alloc (Nat.le_refl _) (Obj.cells #[.int .i64 X] 3)
            refine ⟨H7.out.1.below (hb.mono H7.out.1.hN), ?_, H7.out.2.2.2.2.1.below H7.out.2.2.2.2.2 hb, H7.out.1.hN⟩
            rw [hX]
            exact heap_alloc_new w7 _⟩
          clear h7 cx0 cx1 co3 cn cr ct
          go_wp2_with (fail)
          go_roundg gk1
          case measure => omega
          case rel => exact ⟨r + 1, D :: Ds, by omega, ⟨by have := HK.out; omega⟩, ⟨by rw [HDS.out]; rfl⟩, ⟨(HZ.out _ rfl).1⟩, ⟨(HZ.out _ rfl).2.1⟩, ⟨(HZ.out _ rfl).2.2.2⟩, ⟨(HZ.out _ rfl).2.2.1, H7.out.2.2.2.2.2⟩⟩
        | false =>
          have ct : w6.cell? ⟨wr.heap.size + 1, 0, none⟩ = some (.bool false) := by have := (blk_cell HI6.out.tbx 0).trans rfl; rwa [htd] at this
          have HZ : Aside0 (∀ X : Int, X = (r : Int) + 1 → GoS W g S (.slice A0 q cp) kind on oth A B w3.heap.size (w3.heap.size + 1) (w6.alloc (Obj.cells #[.int .i64 X] 3)) ∧ (w6.alloc (Obj.cells #[.int .i64 X] 3)).heap[w6.heap.size]? = some (.cells #[.int .i64 (((r + 1 : Nat)) : Int)] 3 (0, 0)) ∧ DsOk (w3.heap.size + 1) (D :: Ds) (w6.alloc (Obj.cells #[.int .i64 X] 3)) ∧ (w3.heap.size + 1) ≤ w6.heap.size ∧ ∀ D' ∈ D :: Ds, D' < w6.heap.size) := ⟨fun X hX => by
            have hI := HI6.out
            have hb := (Below.refl w6.heap.size w6).alloc (Nat.le_refl _) (Obj.cells #[.int .i64 X] 3)
            have hs : GoS W g S (.slice A0 q cp) kind on oth A B w3.heap.size (w3.heap.size + 1) w6 := by have := hI.st; unfold flp at this; rw [htd] at this; exact this
            have hds : DsOk (w3.heap.size + 1) (D :: Ds) w6 := hI.ds.cons (B := rb) hI.hD (by have := HGW.out; have := HD6.out; omega) hI.h1 HK6.out
            refine ⟨hs.below (hb.mono hs.hN), ?_, hds.below hds.lt hb, hs.hN, hds.lt⟩
            rw [hX]
            exact heap_alloc_new w6 _⟩
          clear htd
          go_wp2_with (fail)
          go_roundg gk1
          case measure => omega
          case rel => exact ⟨r + 1, D :: Ds, by omega, ⟨by have := HK.out; omega⟩, ⟨by rw [HDS.out]; rfl⟩, ⟨(HZ.out _ rfl).1⟩, ⟨(HZ.out _ rfl).2.1⟩, ⟨(HZ.out _ rfl).2.2.2.1⟩, ⟨(HZ.out _ rfl).2.2.1, (HZ.out _ rfl).2.2.2.2⟩⟩
      case stop =>
        rintro D c pre Wl hD hSp hX hK
        rcases hX with ⟨rfl, pre0, x, he, _, hx⟩ | ⟨rfl, hr0, hn, HI⟩
        · rw [← HLL.out] at hSp
          exact (GoX.no hSp he hx).elim
        · subst ha0
          subst hr0
          obtain ⟨m, hm⟩ : ∃ m, m = pre.length := ⟨_, rfl⟩
          have HI6 := Aside0.mk HI
          have HK6 := Aside0.mk hK
          have HD6 := Aside0.mk hD
          have cx0 : Wl.cell? ⟨W.heap.size, 0, none⟩ = some (.pointer (some ⟨g, 0, none⟩)) := (blk_cell HI6.out.st.xbk 0).trans rfl
          have cx1 : Wl.cell? ⟨W.heap.size, 1, none⟩ = some (.slice A0 q cp) := (blk_cell HI6.out.st.xbk 1).trans rfl
          have co3 : Wl.cell? ⟨W.heap.size + 1, 3, none⟩ = some (.int .i64 A) := (blk_cell HI6.out.st.obk 3).trans rfl
          have co4 : Wl.cell? ⟨W.heap.size + 1, 4, none⟩ = some (.int .i64 B) := (blk_cell HI6.out.st.obk 4).trans rfl
          have cn : Wl.cell? ⟨wr.heap.size, 0, none⟩ = some (.int .i64 (m : Int)) := by rw [hm]; exact (blk_cell HI6.out.nbx 0).trans rfl
          have cr : Wl.cell? ⟨rb, 0, none⟩ = some (.int .i64 0) := (blk_cell HI6.out.rbx 0).trans rfl
          have e7 : ((m : Int) == B) = true := beq_iff_eq.mpr (by rw [hm]; exact hn)
          clear HI hK hD hSp hn hcell hpb hsz hw5
          cases htd : turnd 0 A pre with
          | true =>
            have ct : Wl.cell? ⟨wr.heap.size + 1, 0, none⟩ = some (.bool true) := by have := (blk_cell HI6.out.tbx 0).trans rfl; rwa [htd] at this
            have HT6 : Aside0 (Calls Tryd.prog 48 #[.agg #[.pointer (some ⟨g, 0, none⟩), .slice A0 q cp], .int .i64 A] Wl fun e w' => e = .returned (.bool (tickB A)) ∧ (GoS W g S (.slice A0 q cp) kind on oth A B w3.heap.size (w3.heap.size + 1) w' ∧ w'.heap[wr.heap.size]? = some (.cells #[.int .i64 (m : Int)] 3 (0, 0)) ∧ w'.heap[W.heap.size]? = some (.cells #[.pointer (some ⟨g, 0, none⟩), .slice A0 q cp] 40 (0, 0)) ∧ w'.heap[rb]? = some (.cells #[.int .i64 0] 3 (0, 0)) ∧ DsOk (w3.heap.size + 1) (D :: Ds) w' ∧ (∀ D' ∈ D :: Ds, D' < w'.heap.size) ∧ w'.heap[W.heap.size + 1]? = some (.cells #[.int .i64 kind, .int .i64 on, .int .i64 oth, .int .i64 A, .int .i64 B] 45 (0, 0)))) := ⟨by
              have hI := HI6.out
              have hmm : Bm Wl g (flip S A) := by have := hI.st.m; unfold flp at this; rw [htd] at this; exact this
              have hds : DsOk (w3.heap.size + 1) (D :: Ds) Wl := hI.ds.cons (B := rb) hI.hD (by have := HGW.out; have := HD6.out; omega) hI.h1 HK6.out
              refine (TURN.out Wl _ hmm).mono ?_
              rintro e w' ⟨rfl, hb, hf⟩
              have hg := hI.st.g0
              have ho := hI.st.o1
              have ho2 := hI.st.o2
              have h1 := hI.h1
              have h2 := hI.h2
              have hd' := hds.fr hf (fun D' hD' e => by have := (hds.blk D' hD').1; omega)
              have hnb := hf.blk hI.nbx (by omega)
              rw [← hm] at hnb
              exact ⟨rfl, (hI.st.call hb hf).ext (fun t _ => flip_flip S A t), hnb, hf.blk hI.st.xbk (by omega), hf.blk hI.rbx (by omega), hd', hd'.lt, hf.blk hI.st.obk (by omega)⟩⟩
            obtain ⟨tA, htA⟩ : ∃ t, t = tickB A := ⟨_, rfl⟩
            rw [← htA] at HT6
            clear htA hm
            gi_wp2
            go_wp2_with (fail)
            refine (HT6.out).mono ?_
            rintro e w7 ⟨rfl, h7⟩
            have H7 := Aside0.mk h7
            have k1 : w7.cell? ⟨wr.heap.size, 0, none⟩ = some (.int .i64 (m : Int)) := (blk_cell H7.out.2.1 0).trans rfl
            have k2 : w7.cell? ⟨W.heap.size, 1, none⟩ = some (.slice A0 q cp) := (blk_cell H7.out.2.2.1 1).trans rfl
            have k3 : w7.cell? ⟨rb, 0, none⟩ = some (.int .i64 0) := (blk_cell H7.out.2.2.2.1 0).trans rfl
            have k4 : w7.cell? ⟨W.heap.size + 1, 4, none⟩ = some (.int .i64 B) := (blk_cell H7.out.2.2.2.2.2.2 4).trans rfl
            have HZ : Aside0 (∀ X : Int, X = ((0 + 1 : Nat) : Int) → GoS W g S (.slice A0 q cp) kind on oth A B w3.heap.size (w3.heap.size + 1) (w7.alloc (Obj.cells #[.int .i64 X] 3)) ∧ (w7.alloc (Obj.cells #[.int .i64 X] 3)).heap[w7.heap.size]? = some (.cells #[.int .i64 (((0 + 1 : Nat)) : Int)] 3 (0, 0)) ∧ DsOk (w3.heap.size + 1) (D :: Ds) (w7.alloc (Obj.cells #[.int .i64 X] 3)) ∧ (w3.heap.size + 1) ≤ w7.heap.size) := ⟨fun X hX => by
              have hb := (Below.refl w7.heap.size w7).alloc (Nat.le_refl _) (Obj.cells #[.int .i64 X] 3)
              refine ⟨H7.out.1.below (hb.mono H7.out.1.hN), ?_, H7.out.2.2.2.2.1.below H7.out.2.2.2.2.2.1 hb, H7.out.1.hN⟩
              rw [hX]
              exact heap_alloc_new w7 _⟩
            clear h7 cx0 cx1 co3 co4 cn cr ct htd
            by_cases hmq : m = q
            · have e8 : ((m : Int) != (q : Int)) = false := by rw [hmq]; exact bne_self_eq_false' (a := (q : Int))
              clear hmq
              go_wp2_with (fail)
              go_roundg gk1
              case measure => omega
              case rel => exact ⟨0 + 1, D :: Ds, by omega, ⟨by have := HK.out; omega⟩, ⟨by rw [HDS.out]; rfl⟩, ⟨(HZ.out _ rfl).1⟩, ⟨(HZ.out _ rfl).2.1⟩, ⟨(HZ.out _ rfl).2.2.2⟩, ⟨(HZ.out _ rfl).2.2.1, H7.out.2.2.2.2.2.1⟩⟩
            · have e8 : ((m : Int) != (q : Int)) = true := bne_iff_ne.mpr (by omega)
              clear hmq
              go_wp2_with (fail)
              go_roundg gk1
              case measure => omega
              case rel => exact ⟨0 + 1, D :: Ds, by omega, ⟨by have := HK.out; omega⟩, ⟨by rw [HDS.out]; rfl⟩, ⟨(HZ.out _ rfl).1⟩, ⟨(HZ.out _ rfl).2.1⟩, ⟨(HZ.out _ rfl).2.2.2⟩, ⟨(HZ.out _ rfl).2.2.1, H7.out.2.2.2.2.2.1⟩⟩
          | false =>
            have ct : Wl.cell? ⟨wr.heap.size + 1, 0, none⟩ = some (.bool false) := by have := (blk_cell HI6.out.tbx 0).trans rfl; rwa [htd] at this
            have HZ : Aside0 (∀ X : Int, X = ((0 + 1 : Nat) : Int) → GoS W g S (.slice A0 q cp) kind on oth A B w3.heap.size (w3.heap.size + 1) (Wl.alloc (Obj.cells #[.int .i64 X] 3)) ∧ (Wl.alloc (Obj.cells #[.int .i64 X] 3)).heap[Wl.heap.size]? = some (.cells #[.int .i64 (((0 + 1 : Nat)) : Int)] 3 (0, 0)) ∧ DsOk (w3.heap.size + 1) (D :: Ds) (Wl.alloc (Obj.cells #[.int .i64 X] 3)) ∧ (w3.heap.size + 1) ≤ Wl.heap.size ∧ ∀ D' ∈ D :: Ds, D' < Wl.heap.size) := ⟨fun X hX => by
              have hI := HI6.out
              have hb := (Below.refl Wl.heap.size Wl).alloc (Nat.le_refl _) (Obj.cells #[.int .i64 X] 3)
              have hs : GoS W g S (.slice A0 q cp) kind on oth A B w3.heap.size (w3.heap.size + 1) Wl := by have := hI.st; unfold flp at this; rw [htd] at this; exact this
              have hds : DsOk (w3.heap.size + 1) (D :: Ds) Wl := hI.ds.cons (B := rb) hI.hD (by have := HGW.out; have := HD6.out; omega) hI.h1 HK6.out
              refine ⟨hs.below (hb.mono hs.hN), ?_, hds.below hds.lt hb, hs.hN, hds.lt⟩
              rw [hX]
              exact heap_alloc_new Wl _⟩
            clear htd hm
            gi_wp2
            by_cases hmq : m = q
            · have e8 : ((m : Int) != (q : Int)) = false := by rw [hmq]; exact bne_self_eq_false' (a := (q : Int))
              clear hmq
              go_wp2_with (fail)
              go_roundg gk1
              case measure => omega
              case rel => exact ⟨0 + 1, D :: Ds, by omega, ⟨by have := HK.out; omega⟩, ⟨by rw [HDS.out]; rfl⟩, ⟨(HZ.out _ rfl).1⟩, ⟨(HZ.out _ rfl).2.1⟩, ⟨(HZ.out _ rfl).2.2.2.1⟩, ⟨(HZ.out _ rfl).2.2.1, (HZ.out _ rfl).2.2.2.2⟩⟩
            · have e8 : ((m : Int) != (q : Int)) = true := bne_iff_ne.mpr (by omega)
              clear hmq
              go_wp2_with (fail)
              go_roundg gk1
              case measure => omega
              case rel => exact ⟨0 + 1, D :: Ds, by omega, ⟨by have := HK.out; omega⟩, ⟨by rw [HDS.out]; rfl⟩, ⟨(HZ.out _ rfl).1⟩, ⟨(HZ.out _ rfl).2.1⟩, ⟨(HZ.out _ rfl).2.2.2.1⟩, ⟨(HZ.out _ rfl).2.2.1, (HZ.out _ rfl).2.2.2.2⟩⟩
    · obtain rfl : r = 2 := by omega
      have cRf : wr.frozen? ⟨W.heap.size + 1 + 1, 0, none⟩ = false := blk_frozen HG.out.rbk 0
      have cR : wr.cell? ⟨W.heap.size + 1 + 1, 0, none⟩ = some (.bool false) := (blk_cell HG.out.rbk 0).trans rfl
      go_wp2_with (fail)
      have hds := HDS.out
      subst hds
      refine noPanic_ret ?_
      exact goes_leave (Ds := Ds) HG.out HDO.out.1 rfl

set_option maxHeartbeats 32000000 in
set_option maxRecDepth 100000 in
theorem goes10_calls {W : World} {g B0 : Nat} {S : St} {v : Value} {l : List Int} (kind on oth A B : Int) (hk : kind = 10) (h : Bm W g S) (hT : Tz W) (hl : Li W B0 v l) (hr : Rep l S) :
    Calls Tryd.prog 44 #[.agg #[.pointer (some ⟨g, 0, none⟩), v], .agg #[.int .i64 kind, .int .i64 on, .int .i64 oth, .int .i64 A, .int .i64 B]] W fun e W' => e = .returned (.bool true) ∧ Bm W' g S ∧ Fr (fun i => i = g) W W' := by
  obtain ⟨A0, cp, rfl⟩ := hl.form
  obtain ⟨q, hq⟩ : ∃ q, q = l.length := ⟨_, rfl⟩
  rw [← hq] at hl ⊢
  have hq2 : q ≤ 262144 := by rw [hq]; exact hr.le
  have HQ2 : Aside0 (q ≤ 262144) := ⟨hq2⟩
  have HQ := Aside0.mk hq
  have HG0 := Aside0.mk (hT.ne h)
  have HNE := Aside0.mk (hl.ne h)
  have HLI := Aside0.mk hl
  have HRP := Aside0.mk hr
  have HTW := Aside0.mk hT
  have HMW := Aside0.mk h
  obtain ⟨L, hL⟩ : ∃ L, L = l.reverse := ⟨_, rfl⟩
  have HLL := Aside0.mk hL
  have HLQ : Aside0 (L.length = q) := ⟨by rw [hL, hq]; exact List.length_reverse⟩
  have TURN : Aside0 (∀ (w : World) (S' : St), Bm w g S' → Calls Tryd.prog 48 #[.agg #[.pointer (some ⟨g, 0, none⟩), .slice A0 q cp], .int .i64 A] w fun e w' => e = .returned (.bool (tickB A)) ∧ Bm w' g (flip S' A) ∧ Fr (fun k => k = g) w w') := ⟨fun w S' hb => turn_calls _ hb A⟩
  have ek : (kind == 10) = true := beq_iff_eq.mpr hk
  obtain ⟨w3, hw3⟩ : ∃ w3, w3 = ((W.alloc (.cells #[.pointer (some ⟨g, 0, none⟩), .slice A0 q cp] 40)).alloc (.cells #[.int .i64 kind, .int .i64 on, .int .i64 oth, .int .i64 A, .int .i64 B] 45)).alloc (.cells #[.bool false] 4) := ⟨_, rfl⟩
  have s1 : (W.alloc (.cells #[.pointer (some ⟨g, 0, none⟩), .slice A0 q cp] 40)).heap.size = W.heap.size + 1 := World.size_alloc _ _
  have s2 : ((W.alloc (.cells #[.pointer (some ⟨g, 0, none⟩), .slice A0 q cp] 40)).alloc (.cells #[.int .i64 kind, .int .i64 on, .int .i64 oth, .int .i64 A, .int .i64 B] 45)).heap.size = W.heap.size + 1 + 1 := by rw [World.size_alloc, s1]
  have hB3 : Below W.heap.size W w3 := by rw [hw3]; exact (((Below.refl _ W).alloc (Nat.le_refl _) _).alloc (by rw [s1]; omega) _).alloc (by rw [s2]; omega) _
  have hP3 : w3.heap[W.heap.size]? = some (.cells #[.pointer (some ⟨g, 0, none⟩), .slice A0 q cp] 40 (0, 0)) := by
    rw [hw3]
    exact (Below.heap_alloc _ _ _ (by rw [s2]; omega)).trans ((Below.heap_alloc _ _ _ (by rw [s1]; omega)).trans (heap_alloc_new W _))
  have hO3 : w3.heap[W.heap.size + 1]? = some (.cells #[.int .i64 kind, .int .i64 on, .int .i64 oth, .int .i64 A, .int .i64 B] 45 (0, 0)) := by
    have := heap_alloc_new (W.alloc (.cells #[.pointer (some ⟨g, 0, none⟩), .slice A0 q cp] 40)) (.cells #[.int .i64 kind, .int .i64 on, .int .i64 oth, .int .i64 A, .int .i64 B] 45)
    rw [s1] at this
    rw [hw3]
    exact (Below.heap_alloc _ _ _ (by rw [s2]; omega)).trans this
  have hR3 : w3.heap[W.heap.size + 1 + 1]? = some (.cells #[.bool false] 4 (0, 0)) := by
    have := heap_alloc_new ((W.alloc (.cells #[.pointer (some ⟨g, 0, none⟩), .slice A0 q cp] 40)).alloc (.cells #[.int .i64 kind, .int .i64 on, .int .i64 oth, .int .i64 A, .int .i64 B] 45)) (.cells #[.bool false] 4)
    rw [s2] at this
    rw [hw3]
    exact this
  have K0 := Aside0.mk (And.intro hB3 (And.intro hP3 (And.intro hO3 hR3)))
  have HW3 := Aside0.mk hw3
  have hs3 : w3.heap.size = W.heap.size + 1 + 1 + 1 := by rw [hw3, World.size_alloc, s2]
  have HS3 := Aside0.mk hs3
  have HG3 : Aside0 (GoS W g S (.slice A0 q cp) kind on oth A B (w3.heap.size + 1) (w3.heap.size + 2) (((w3.alloc (Obj.cells #[.pointer (some ⟨g, 0, none⟩)] 23)).alloc (Obj.cells #[.pointer (some ⟨g, 0, none⟩)] 23)).alloc (Obj.cells #[.int .i64 ((0 : Nat) : Int)] 3))) := ⟨by
    have z1 : (w3.alloc (Obj.cells #[.pointer (some ⟨g, 0, none⟩)] 23)).heap.size = w3.heap.size + 1 := World.size_alloc _ _
    have z2 : ((w3.alloc (Obj.cells #[.pointer (some ⟨g, 0, none⟩)] 23)).alloc (Obj.cells #[.pointer (some ⟨g, 0, none⟩)] 23)).heap.size = w3.heap.size + 1 + 1 := by rw [World.size_alloc, z1]
    have b5 : Below w3.heap.size w3 (((w3.alloc (Obj.cells #[.pointer (some ⟨g, 0, none⟩)] 23)).alloc (Obj.cells #[.pointer (some ⟨g, 0, none⟩)] 23)).alloc (Obj.cells #[.int .i64 ((0 : Nat) : Int)] 3)) := (((Below.refl _ w3).alloc (Nat.le_refl _) _).alloc (by rw [z1]; omega) _).alloc (by rw [z2]; omega) _
    have b6 := below_then hB3 hB3.size b5
    have hg := h.lt
    refine ⟨(Fr.refl _ W).below b6, (b5.block _ (by omega)).trans hP3, (b5.block _ (by omega)).trans hO3, (b5.block _ (by omega)).trans hR3, ?_, h.below b6 hg, hg, by omega, by omega, by rw [World.size_alloc, z2]; omega⟩
    have := heap_alloc_new (w3.alloc (Obj.cells #[.pointer (some ⟨g, 0, none⟩)] 23)) (Obj.cells #[.pointer (some ⟨g, 0, none⟩)] 23)
    rw [z1] at this
    exact (Below.heap_alloc _ _ _ (by rw [z2]; omega)).trans this⟩
  have HR0 : Aside0 ((((w3.alloc (Obj.cells #[.pointer (some ⟨g, 0, none⟩)] 23)).alloc (Obj.cells #[.pointer (some ⟨g, 0, none⟩)] 23)).alloc (Obj.cells #[.int .i64 ((0 : Nat) : Int)] 3)).heap[w3.heap.size + 1 + 1]? = some (.cells #[.int .i64 ((0 : Nat) : Int)] 3 (0, 0))) := ⟨by
    have := heap_alloc_new ((w3.alloc (Obj.cells #[.pointer (some ⟨g, 0, none⟩)] 23)).alloc (Obj.cells #[.pointer (some ⟨g, 0, none⟩)] 23)) (Obj.cells #[.int .i64 ((0 : Nat) : Int)] 3)
    rw [World.size_alloc, World.size_alloc] at this
    exact this⟩
  have cP0 : w3.cell? ⟨W.heap.size, 0, none⟩ = some (.pointer (some ⟨g, 0, none⟩)) := (blk_cell hP3 0).trans rfl
  have cO0 : w3.cell? ⟨W.heap.size + 1, 0, none⟩ = some (.int .i64 kind) := (blk_cell hO3 0).trans rfl
  have cP1 : (w3.alloc (Obj.cells #[.pointer (some ⟨g, 0, none⟩)] 23)).cell? ⟨W.heap.size, 0, none⟩ = some (.pointer (some ⟨g, 0, none⟩)) := (blk_cell ((Below.heap_alloc _ _ _ (by omega)).trans hP3) 0).trans rfl
  have cO1 : (w3.alloc (Obj.cells #[.pointer (some ⟨g, 0, none⟩)] 23)).cell? ⟨W.heap.size + 1, 0, none⟩ = some (.int .i64 kind) := (blk_cell ((Below.heap_alloc _ _ _ (by omega)).trans hO3) 0).trans rfl
  clear h hT hl hr hk hq hq2 hL hB3 hP3 hO3 hR3 s1 s2 hs3 hw3
  refine (callsIn_wide (n := 8)).1 (callsIn_of_wp_marks (F := Fence.wide) Tryd.func44 rfl trivial ?_ rfl)
  refine wpIn_noPanic ?_
  refine wpIn_wide.2 ?_
  have hnf := func_nil
  simp only [Tryd.ntmps44, List.size_toArray, List.length_cons, List.length_nil, Nat.reduceAdd, Nat.reduceSub, Array.replicate_succ, Array.replicate_zero, List.push_toArray, List.append_toArray, List.nil_append, List.cons_append]
  go_upto_region 1 with (fail)
  rw [← HW3.out]
  go_wp2_with (first
    | ((with_reducible refine gate_callee (f := 46) rfl ?_); (try (refine gate_guard (by rfl) ?_; dsimp only)); refine goesL_ (some 13) rfl rfl Tryd.func46 (by kernel_rfl) rfl #[.pointer (some ⟨g, 0, none⟩)] rfl (by (try simp only [List.map_toArray, List.map_cons, List.map_nil]); first | done | rfl) ?_; (with_reducible refine (all_calls g _).mono ?_); rintro e w5 ⟨rfl, rfl⟩; refine ⟨_, rfl, ?_⟩; skip)
    | ((with_reducible refine gate_callee (f := 47) rfl ?_); (try (refine gate_guard (by rfl) ?_; dsimp only)); refine goesL_ (some 19) rfl rfl Tryd.func47 (by kernel_rfl) rfl #[.pointer (some ⟨g, 0, none⟩)] rfl (by (try simp only [List.map_toArray, List.map_cons, List.map_nil]); first | done | rfl) ?_; (with_reducible refine (back_calls g _).mono ?_); rintro e w5 ⟨rfl, rfl⟩; refine ⟨_, rfl, ?_⟩; skip))
  clear cP0 cO0 cO1 K0 HW3 hnf cP1
  refine wp_loop_ghost_k (fun kq a w => ∃ (ds : List Deferred) (rb : Nat) (u0 u1 u7 u8 u9 u10 u11 u12 u13 u14 u15 u16 u17 u18 u19 u20 u21 u22 u23 u24 u25 u26 u27 u28 u29 u30 u31 u32 u33 u34 u35 u36 u37 u38 u39 u40 u41 u42 u43 u44 u45 u46 u47 u48 u49 u50 u51 u52 u53 u54 u55 u56 u57 u58 u59 u60 u61 u62 u63 u64 u65 u66 u67 u68 u69 u70 u71 u72 u73 u74 u75 u76 u77 u78 u79 u80 u81 u82 u83 u84 u85 u86 u87 u88 u89 u90 u91 u92 u93 u94 u95 u96 u97 : Value), (∃ (r : Nat) (Ds : List Nat), r ≤ 2 ∧ Aside0 (kq + r = 2) ∧ Aside0 (ds = Ds.map mark) ∧ Aside0 (GoS W g S (.slice A0 q cp) kind on oth A B (w3.heap.size + 1) (w3.heap.size + 2) w) ∧ Aside0 (w.heap[rb]? = some (.cells #[.int .i64 (r : Int)] 3 (0, 0))) ∧ Aside0 ((w3.heap.size + 2) ≤ rb) ∧ Aside0 (DsOk (w3.heap.size + 2) Ds w ∧ ∀ D ∈ Ds, D < rb)) ∧ a = { tmps := (List.toArray (u0 :: u1 :: (.pointer (some ⟨W.heap.size, 0, none⟩) : Value) :: (.pointer (some ⟨W.heap.size + 1, 0, none⟩) : Value) :: (.pointer (some ⟨W.heap.size + 1 + 1, 0, none⟩) : Value) :: (.func (.func 50) #[] #[.pointer (some ⟨w3.heap.size + 1, 0, none⟩)] : Value) :: (.pointer (some ⟨rb, 0, none⟩) : Value) :: u7 :: u8 :: u9 :: u10 :: u11 :: u12 :: u13 :: u14 :: u15 :: u16 :: u17 :: u18 :: u19 :: u20 :: u21 :: u22 :: u23 :: u24 :: u25 :: u26 :: u27 :: u28 :: u29 :: u30 :: u31 :: u32 :: u33 :: u34 :: u35 :: u36 :: u37 :: u38 :: u39 :: u40 :: u41 :: u42 :: u43 :: u44 :: u45 :: u46 :: u47 :: u48 :: u49 :: u50 :: u51 :: u52 :: u53 :: u54 :: u55 :: u56 :: u57 :: u58 :: u59 :: u60 :: u61 :: u62 :: u63 :: u64 :: u65 :: u66 :: u67 :: u68 :: u69 :: u70 :: u71 :: u72 :: u73 :: u74 :: u75 :: u76 :: u77 :: u78 :: u79 :: u80 :: u81 :: u82 :: u83 :: u84 :: u85 :: u86 :: u87 :: u88 :: u89 :: u90 :: u91 :: u92 :: u93 :: u94 :: u95 :: u96 :: u97 :: [])), defers := ds }) 2 ?_ ?_
  · (repeat apply Exists.intro)
    refine ⟨⟨0, [], by omega, ⟨by omega⟩, ⟨rfl⟩, HG3, HR0, ⟨by omega⟩, ⟨DsOk.nil _ _, by simp⟩⟩, rfl⟩
  · intro gk a0 wr hinv
    obtain ⟨ds, hinv⟩ := hinv
    obtain ⟨rb, hinv⟩ := hinv
    obtain ⟨u0, hinv⟩ := hinv
    obtain ⟨u1, hinv⟩ := hinv
    obtain ⟨u7, hinv⟩ := hinv
    obtain ⟨u8, hinv⟩ := hinv
    obtain ⟨u9, hinv⟩ := hinv
    obtain ⟨u10, hinv⟩ := hinv
    obtain ⟨u11, hinv⟩ := hinv
    obtain ⟨u12, hinv⟩ := hinv
    obtain ⟨u13, hinv⟩ := hinv
    obtain ⟨u14, hinv⟩ := hinv
    obtain ⟨u15, hinv⟩ := hinv
    obtain ⟨u16, hinv⟩ := hinv
    obtain ⟨u17, hinv⟩ := hinv
    obtain ⟨u18, hinv⟩ := hinv
    obtain ⟨u19, hinv⟩ := hinv
    obtain ⟨u20, hinv⟩ := hinv
    obtain ⟨u21, hinv⟩ := hinv
    obtain ⟨u22, hinv⟩ := hinv
    obtain ⟨u23, hinv⟩ := hinv
    obtain ⟨u24, hinv⟩ := hinv
    obtain ⟨u25, hinv⟩ := hinv
    obtain ⟨u26, hinv⟩ := hinv
    obtain ⟨u27, hinv⟩ := hinv
    obtain ⟨u28, hinv⟩ := hinv
    obtain ⟨u29, hinv⟩ := hinv
    obtain ⟨u30, hinv⟩ := hinv
    obtain ⟨u31, hinv⟩ := hinv
    obtain ⟨u32, hinv⟩ := hinv
    obtain ⟨u33, hinv⟩ := hinv
    obtain ⟨u34, hinv⟩ := hinv
    obtain ⟨u35, hinv⟩ := hinv
    obtain ⟨u36, hinv⟩ := hinv
    obtain ⟨u37, hinv⟩ := hinv
    obtain ⟨u38, hinv⟩ := hinv
    obtain ⟨u39, hinv⟩ := hinv
    obtain ⟨u40, hinv⟩ := hinv
    obtain ⟨u41, hinv⟩ := hinv
    obtain ⟨u42, hinv⟩ := hinv
    obtain ⟨u43, hinv⟩ := hinv
    obtain ⟨u44, hinv⟩ := hinv
    obtain ⟨u45, hinv⟩ := hinv
    obtain ⟨u46, hinv⟩ := hinv
    obtain ⟨u47, hinv⟩ := hinv
    obtain ⟨u48, hinv⟩ := hinv
    obtain ⟨u49, hinv⟩ := hinv
    obtain ⟨u50, hinv⟩ := hinv
    obtain ⟨u51, hinv⟩ := hinv
    obtain ⟨u52, hinv⟩ := hinv
    obtain ⟨u53, hinv⟩ := hinv
    obtain ⟨u54, hinv⟩ := hinv
    obtain ⟨u55, hinv⟩ := hinv
    obtain ⟨u56, hinv⟩ := hinv
    obtain ⟨u57, hinv⟩ := hinv
    obtain ⟨u58, hinv⟩ := hinv
    obtain ⟨u59, hinv⟩ := hinv
    obtain ⟨u60, hinv⟩ := hinv
    obtain ⟨u61, hinv⟩ := hinv
    obtain ⟨u62, hinv⟩ := hinv
    obtain ⟨u63, hinv⟩ := hinv
    obtain ⟨u64, hinv⟩ := hinv
    obtain ⟨u65, hinv⟩ := hinv
    obtain ⟨u66, hinv⟩ := hinv
    obtain ⟨u67, hinv⟩ := hinv
    obtain ⟨u68, hinv⟩ := hinv
    obtain ⟨u69, hinv⟩ := hinv
    obtain ⟨u70, hinv⟩ := hinv
    obtain ⟨u71, hinv⟩ := hinv
    obtain ⟨u72, hinv⟩ := hinv
    obtain ⟨u73, hinv⟩ := hinv
    obtain ⟨u74, hinv⟩ := hinv
    obtain ⟨u75, hinv⟩ := hinv
    obtain ⟨u76, hinv⟩ := hinv
    obtain ⟨u77, hinv⟩ := hinv
    obtain ⟨u78, hinv⟩ := hinv
    obtain ⟨u79, hinv⟩ := hinv
    obtain ⟨u80, hinv⟩ := hinv
    obtain ⟨u81, hinv⟩ := hinv
    obtain ⟨u82, hinv⟩ := hinv
    obtain ⟨u83, hinv⟩ := hinv
    obtain ⟨u84, hinv⟩ := hinv
    obtain ⟨u85, hinv⟩ := hinv
    obtain ⟨u86, hinv⟩ := hinv
    obtain ⟨u87, hinv⟩ := hinv
    obtain ⟨u88, hinv⟩ := hinv
    obtain ⟨u89, hinv⟩ := hinv
    obtain ⟨u90, hinv⟩ := hinv
    obtain ⟨u91, hinv⟩ := hinv
    obtain ⟨u92, hinv⟩ := hinv
    obtain ⟨u93, hinv⟩ := hinv
    obtain ⟨u94, hinv⟩ := hinv
    obtain ⟨u95, hinv⟩ := hinv
    obtain ⟨u96, hinv⟩ := hinv
    obtain ⟨u97, hinv⟩ := hinv
    obtain ⟨⟨r, Ds, hr2, HK, HDS, HG, HRB, HNR, HDO⟩, ha⟩ := hinv
    subst ha
    clear HG3 HR0
    try dsimp only
    intro _ _ _ _
    have c6 : wr.cell? ⟨rb, 0, none⟩ = some (.int .i64 (r : Int)) := (blk_cell HRB.out 0).trans rfl
    have c6f := blk_frozen HRB.out 0
    by_cases hr : r < 2
    · obtain ⟨gk1, rfl⟩ : ∃ gk1, gk = gk1 + 1 := ⟨gk - 1, by have := HK.out; omega⟩
      go_wp2_with (fail)
      refine (wpIn_wide (n := 8)).1 ?_
      refine wpIn_act ?_
      intro a0 ha0
      refine wpIn_world ?_
      intro w5 hw5
      have y1 : (wr.alloc (Obj.cells #[.int .i64 0] 3)).heap.size = wr.heap.size + 1 := World.size_alloc _ _
      have hsz : w5.heap.size = wr.heap.size + 1 + 1 := by rw [hw5, World.size_alloc, y1]
      have hrl : rb < wr.heap.size := blk_lt HRB.out
      have HB5 : Below wr.heap.size wr w5 := by rw [hw5]; exact ((Below.refl _ wr).alloc (Nat.le_refl _) _).alloc (by rw [y1]; omega) _
      have htd : turnd r A [] = false := by unfold turnd; simp
      have hfl : flp r A [] S = S := by unfold flp; rw [htd]; rfl
      have HI5 : Aside0 (GoI W g S (.slice A0 q cp) kind on oth A B (w3.heap.size + 1) (w3.heap.size + 2) rb wr.heap.size (wr.heap.size + 1) w5.heap.size r Ds [] w5) := ⟨⟨by rw [hfl]; exact HG.out.below (HB5.mono HG.out.hN),
        blk_below HRB.out HB5, by rw [hw5]; exact (Below.heap_alloc _ _ _ (by rw [y1]; omega)).trans (heap_alloc_new wr _), by rw [hw5, htd]; have := heap_alloc_new (wr.alloc (Obj.cells #[.int .i64 0] 3)) (Obj.cells #[.bool false] 4); rw [y1] at this; exact this,
        HDO.out.1.below HDO.out.1.lt HB5, HNR.out, hrl, by omega, by omega, HDO.out.2⟩⟩
      have hcell : w5.cell? ⟨w3.heap.size + 1, 0, none⟩ = some (.pointer (some ⟨g, 0, none⟩)) := (blk_cell HI5.out.st.qbk 0).trans rfl
      have hpb : w3.heap.size + 1 < w5.heap.size := by have := HI5.out.st.hN; have := HI5.out.st.o2; omega
      have HT5 : Aside0 (Tz w5) := ⟨HI5.out.st.tz HTW.out HG0.out⟩
      have HM5 : Aside0 (Bm w5 g S) := ⟨by have := HI5.out.st.m; unfold flp at this; rwa [htd] at this⟩
      have HGW : Aside0 (g < wr.heap.size ∧ W.heap.size + 1 + 1 < wr.heap.size ∧ w5.heap.size = wr.heap.size + 1 + 1 ∧ rb < wr.heap.size ∧ W.heap.size + 1 + 1 < rb) := ⟨by have := HG.out.hN; have := HG.out.g0; have := HG.out.o1; have := HG.out.o2; have := HNR.out; omega⟩
      clear c6 c6f hrl HB5 y1 htd hfl
      refine wpIn_rangeFunc_ownG rfl (by decide) (gf := 50) (lb := #[.pointer (some ⟨w3.heap.size + 1, 0, none⟩)]) (by rw [ha0]; exact rfl) trivial (enters_of Tryd.func50 (by kernel_rfl) rfl)
        (back1_seq 7 (by decide) HM5.out HRP.out HT5.out hcell hpb) (fun h k => h.trans k) (fun W l o o' _ h hc _ => keepT_b W l o o' h hc) (Below.refl _ _) (fun _ => rfl)
        (GoI W g S (.slice A0 q cp) kind on oth A B (w3.heap.size + 1) (w3.heap.size + 2) rb wr.heap.size (wr.heap.size + 1) w5.heap.size r Ds) (GoX (GoI W g S (.slice A0 q cp) kind on oth A B (w3.heap.size + 1) (w3.heap.size + 2) rb wr.heap.size (wr.heap.size + 1) w5.heap.size r Ds) 2 r L B) (GoI.own _ _ _ _ _ _ _ _ _ _ _ _ _ _ _ _ _) (GoX.own (GoI.own _ _ _ _ _ _ _ _ _ _ _ _ _ _ _ _ _) _ _ _ _) HI5.out
        (fun x => { tmps := (((a0.tmps.setIfInBounds 23 (.bool true)).setIfInBounds 27 (.int .i64 x)).setIfInBounds 9 (.int .i64 x)), defers := [] }) ?assign ?body ?done ?stop
      case assign =>
        intro l x Wl Kl hK
        subst ha0
        clear hcell hpb hsz hw5
        dsimp only [encI]
        gi_wp2
        exact hK
      case body =>
        rintro ll pre x w6 HI hlen
        subst ha0
        rw [← HLL.out, HLQ.out] at hlen
        have HI6 := Aside0.mk HI
        obtain ⟨m, hm⟩ : ∃ m, m = pre.length := ⟨_, rfl⟩
        have HM := Aside0.mk hm
        have hmq : m < q := by omega
        have hq1 : q ≤ 262144 := HQ2.out
        have HMQ : Aside0 (m < q) := ⟨hmq⟩
        have HLI6 : Aside0 (Li w6 B0 (.slice A0 q cp) l) := ⟨HLI.out.fr HI6.out.st.fr (fun i hi => by rw [hi]; exact HNE.out)⟩
        obtain ⟨j, hj⟩ : ∃ j : Nat, (q : Int) - 1 - (m : Int) = (j : Int) := ⟨q - 1 - m, by omega⟩
        have hjq : j < q := by omega
        have wq : IntKind.i64.wrap ((q : Int) - 1) = (q : Int) - 1 := IntWalk.i64_in _ (by omega)
        have wj : IntKind.i64.wrap ((q : Int) - 1 - (m : Int)) = (j : Int) := by rw [hj]; exact IntWalk.i64_in _ (by omega)
        have HJ : Aside0 (L.getD m 0 = l.getD j 0) := ⟨by
          have hjn : q - 1 - m = j := by omega
          rw [HLL.out, gD _ _ (by rw [List.length_reverse, ← HQ.out]; omega), gD _ _ (by rw [← HQ.out]; omega), List.getElem_reverse]
          congr 1
          rw [← HQ.out]
          omega⟩
        obtain ⟨c, cap, hv, p0⟩ := HLI6.out.at_ j (by rw [← HQ.out]; exact hjq)
        injection hv with e1 e2 e3
        subst e1
        subst e3
        clear e2
        rw [← HJ.out] at p0
        obtain ⟨y, hy⟩ : ∃ y, y = L.getD m 0 := ⟨_, rfl⟩
        rw [← hy] at p0
        have HY := Aside0.mk hy
        have co0 : w6.cell? ⟨W.heap.size + 1, 0, none⟩ = some (.int .i64 kind) := (blk_cell HI6.out.st.obk 0).trans rfl
        have co3 : w6.cell? ⟨W.heap.size + 1, 3, none⟩ = some (.int .i64 A) := (blk_cell HI6.out.st.obk 3).trans rfl
        have co4 : w6.cell? ⟨W.heap.size + 1, 4, none⟩ = some (.int .i64 B) := (blk_cell HI6.out.st.obk 4).trans rfl
        have cx0 : w6.cell? ⟨W.heap.size, 0, none⟩ = some (.pointer (some ⟨g, 0, none⟩)) := (blk_cell HI6.out.st.xbk 0).trans rfl
        have cx1 : w6.cell? ⟨W.heap.size, 1, none⟩ = some (.slice (some ⟨c, 0, none⟩) q cp) := (blk_cell HI6.out.st.xbk 1).trans rfl
        have cn : w6.cell? ⟨wr.heap.size, 0, none⟩ = some (.int .i64 (m : Int)) := by rw [hm]; exact (blk_cell HI6.out.nbx 0).trans rfl
        have cnf : w6.frozen? ⟨wr.heap.size, 0, none⟩ = false := blk_frozen HI6.out.nbx 0
        have cr : w6.cell? ⟨rb, 0, none⟩ = some (.int .i64 (r : Int)) := (blk_cell HI6.out.rbx 0).trans rfl
        have cR : w6.cell? ⟨W.heap.size + 1 + 1, 0, none⟩ = some (.bool false) := (blk_cell HI6.out.st.rbk 0).trans rfl
        have cRf : w6.frozen? ⟨W.heap.size + 1 + 1, 0, none⟩ = false := blk_frozen HI6.out.st.rbk 0
        have hne7 : rb ≠ wr.heap.size := by have := HGW.out; omega
        have hne8 : W.heap.size + 1 ≠ wr.heap.size := by have := HGW.out; omega
        have hle : 1 ≤ 8 - 1 - 1 := by decide
        have wm : IntKind.i64.wrap ((m : Int) + 1) = (m : Int) + 1 := IntWalk.i64_in _ (by omega)
        have d1 : decide ((j : Int) < 0) = false := decide_eq_false (by omega)
        have d0 : decide ((q : Int) ≤ (j : Int)) = false := decide_eq_false (by omega)
        have hjq' : (j : Int) < (q : Int) := by omega
        clear HI hlen hm hcell hpb hsz hw5 hy hj
        by_cases hx : x = y
        · subst hx
          by_cases hr0 : r = 0
          · subst hr0
            by_cases hm0 : m = 0
            · have HP0 : Aside0 (pre = []) := ⟨List.eq_nil_of_length_eq_zero (by rw [← HM.out]; exact hm0)⟩
              have HT6 : Aside0 (Calls Tryd.prog 48 #[.agg #[.pointer (some ⟨g, 0, none⟩), .slice (some ⟨c, 0, none⟩) q cp], .int .i64 A] w6 fun e w' => e = .returned (.bool (tickB A)) ∧ (GoI W g S (.slice (some ⟨c, 0, none⟩) q cp) kind on oth A B (w3.heap.size + 1) (w3.heap.size + 2) rb wr.heap.size (wr.heap.size + 1) w5.heap.size 0 Ds [x] ((w'.setCell ⟨wr.heap.size + 1, 0, none⟩ (.bool (tickB A))).setCell ⟨wr.heap.size, 0, none⟩ (.int .i64 ((m : Int) + 1))) ∧ w'.heap[wr.heap.size]? = some (.cells #[.int .i64 (m : Int)] 3 (0, 0)) ∧ w'.heap[wr.heap.size + 1]? = some (.cells #[.bool false] 4 (0, 0)) ∧ w'.heap[rb]? = some (.cells #[.int .i64 0] 3 (0, 0)) ∧ w'.heap[W.heap.size + 1]? = some (.cells #[.int .i64 kind, .int .i64 on, .int .i64 oth, .int .i64 A, .int .i64 B] 45 (0, 0))) ∧ Fr (fun i => i = g) w6 w') := ⟨by
                have hI := HI6.out
                rw [HP0.out] at hI
                have hmm : Bm w6 g S := by have := hI.st.m; unfold flp turnd at this; simpa using this
                refine (TURN.out w6 S hmm).mono ?_
                rintro e w' ⟨rfl, hb, hf⟩
                have e0 : ((m : Int)) = 0 := by omega
                rw [e0]
                exact ⟨rfl, hI.first x hb hf, hf⟩⟩
              have HM0 := Aside0.mk hm0
              have em : ((m : Int) == 0) = true := beq_iff_eq.mpr (by omega)
              clear hm0
              obtain ⟨tA, htA⟩ : ∃ t, t = tickB A := ⟨_, rfl⟩
              rw [← htA] at HT6
              clear htA
              gi_wp2
              refine ⟨trivial, ?_⟩
              refine (CallsIn.inRound ll (callsIn_wide.2 HT6.out)).mono ?_
              rintro e w7 ⟨rfl, h7, f7⟩
              have H7 := Aside0.mk h7
              have F7 := Aside0.mk f7
              have k1 : w7.cell? ⟨wr.heap.size, 0, none⟩ = some (.int .i64 (m : Int)) := (blk_cell H7.out.2.1 0).trans rfl
              have k2 : w7.frozen? ⟨wr.heap.size, 0, none⟩ = false := blk_frozen H7.out.2.1 0
              have k3 : w7.cell? ⟨wr.heap.size + 1, 0, none⟩ = some (.bool false) := (blk_cell H7.out.2.2.1 0).trans rfl
              have k4 : w7.frozen? ⟨wr.heap.size + 1, 0, none⟩ = false := blk_frozen H7.out.2.2.1 0
              have k5 : w7.cell? ⟨rb, 0, none⟩ = some (.int .i64 0) := (blk_cell H7.out.2.2.2.1 0).trans rfl
              have k6 : w7.cell? ⟨W.heap.size + 1, 4, none⟩ = some (.int .i64 B) := (blk_cell H7.out.2.2.2.2 4).trans rfl
              have hne9 : wr.heap.size ≠ wr.heap.size + 1 := by omega
              have hne10 : rb ≠ wr.heap.size + 1 := by have := HGW.out; omega
              have hne11 : W.heap.size + 1 ≠ wr.heap.size + 1 := by have := HGW.out; omega
              have HFN : Aside0 (Fr (fun i => i = g ∨ i = wr.heap.size ∨ i = wr.heap.size + 1) w6 ((w7.setCell ⟨wr.heap.size + 1, 0, none⟩ (.bool tA)).setCell ⟨wr.heap.size, 0, none⟩ (.int .i64 ((m : Int) + 1)))) := ⟨((F7.out.mono (fun i hi => .inl (.inl hi))).setCell (p := ⟨wr.heap.size + 1, 0, none⟩) (.inl (.inr (.inr rfl))) _).setCell (p := ⟨wr.heap.size, 0, none⟩) (.inl (.inr (.inl rfl))) _⟩
              clear h7 f7 co0 co3 co4 cx0 cx1 cn cnf cr cR cRf p0
              by_cases hn1 : (m : Int) + 1 = B
              · have e7 : ((m : Int) + 1 == B) = true := beq_iff_eq.mpr hn1
                have HN1 := Aside0.mk hn1
                clear hn1
                gi_wp2
                exact ⟨HFN.out.keepsFrom (fun i hi => by have := HGW.out; omega), .inr ⟨rfl, rfl, by rw [HP0.out, ← HN1.out, HM0.out]; rfl, by rw [HP0.out]; exact H7.out.1⟩⟩
              · have e7 : ((m : Int) + 1 == B) = false := beq_eq_false_iff_ne.mpr hn1
                clear hn1
                gi_wp2
                exact ⟨HFN.out.keepsFrom (fun i hi => by have := HGW.out; omega), HFN.out.keepT (fun i hi => by have := HGW.out; omega) (fun hi => by have := HGW.out; have := HG0.out; omega), by rw [HP0.out]; exact H7.out.1⟩
            · have em : ((m : Int) == 0) = false := beq_eq_false_iff_ne.mpr (by omega)
              have HFN : Aside0 (Fr (fun i => i = wr.heap.size) w6 (w6.setCell ⟨wr.heap.size, 0, none⟩ (.int .i64 ((m : Int) + 1)))) := ⟨(Fr.refl (fun i => i = wr.heap.size) w6).setCell (p := ⟨wr.heap.size, 0, none⟩) (.inl rfl) _⟩
              have HMO : Aside0 (GoI W g S (.slice (some ⟨c, 0, none⟩) q cp) kind on oth A B (w3.heap.size + 1) (w3.heap.size + 2) rb wr.heap.size (wr.heap.size + 1) w5.heap.size 0 Ds (pre ++ [x]) (w6.setCell ⟨wr.heap.size, 0, none⟩ (.int .i64 ((m : Int) + 1)))) := ⟨by rw [HM.out]; exact HI6.out.more (.inr (fun e => hm0 (by rw [HM.out, e]; rfl))) x⟩
              clear hm0
              by_cases hn1 : (m : Int) + 1 = B
              · have e7 : ((m : Int) + 1 == B) = true := beq_iff_eq.mpr hn1
                have HN1 := Aside0.mk hn1
                clear hn1
                gi_wp2
                exact ⟨HFN.out.keepsFrom (fun i hi => by have := HGW.out; omega), .inr ⟨rfl, rfl, by rw [List.length_append, List.length_singleton, ← HM.out, ← HN1.out]; rfl, HMO.out⟩⟩
              · have e7 : ((m : Int) + 1 == B) = false := beq_eq_false_iff_ne.mpr hn1
                clear hn1
                gi_wp2
                exact ⟨HFN.out.keepsFrom (fun i hi => by have := HGW.out; omega), HFN.out.keepT (fun i hi => by have := HGW.out; omega) (fun hi => by have := HGW.out; omega), HMO.out⟩
          · have e6 : ((r : Int) == 0) = false := beq_eq_false_iff_ne.mpr (by omega)
            have HFN : Aside0 (Fr (fun i => i = wr.heap.size) w6 (w6.setCell ⟨wr.heap.size, 0, none⟩ (.int .i64 ((m : Int) + 1)))) := ⟨(Fr.refl (fun i => i = wr.heap.size) w6).setCell (p := ⟨wr.heap.size, 0, none⟩) (.inl rfl) _⟩
            have HMO : Aside0 (GoI W g S (.slice (some ⟨c, 0, none⟩) q cp) kind on oth A B (w3.heap.size + 1) (w3.heap.size + 2) rb wr.heap.size (wr.heap.size + 1) w5.heap.size r Ds (pre ++ [x]) (w6.setCell ⟨wr.heap.size, 0, none⟩ (.int .i64 ((m : Int) + 1)))) := ⟨by rw [HM.out]; exact HI6.out.more (.inl hr0) x⟩
            clear hr0
            gi_wp2
            exact ⟨HFN.out.keepsFrom (fun i hi => by have := HGW.out; omega), HFN.out.keepT (fun i hi => by have := HGW.out; omega) (fun hi => by have := HGW.out; omega), HMO.out⟩
        · have e5 : (x != y) = true := bne_iff_ne.mpr hx
          have HX := Aside0.mk hx
          clear hx
          gi_wp2
          exact ⟨((Fr.refl (fun i => i = W.heap.size + 1 + 1) w6).setCell (p := ⟨W.heap.size + 1 + 1, 0, none⟩) (.inl rfl) _).keepsFrom (fun i hi => by have := HGW.out; omega), .inl ⟨rfl, pre, _, rfl, by rw [← HM.out, HLQ.out]; exact HMQ.out, by rw [← HM.out, ← HY.out]; exact fun h => HX.out h.symm⟩⟩
      case done =>
        rintro D ys w6 hD hys HI hK
        subst ha0
        rw [← HLL.out] at hys
        subst hys
        have HI6 := Aside0.mk HI
        have HK6 := Aside0.mk hK
        have HD6 := Aside0.mk hD
        have cx0 : w6.cell? ⟨W.heap.size, 0, none⟩ = some (.pointer (some ⟨g, 0, none⟩)) := (blk_cell HI6.out.st.xbk 0).trans rfl
        have cx1 : w6.cell? ⟨W.heap.size, 1, none⟩ = some (.slice A0 q cp) := (blk_cell HI6.out.st.xbk 1).trans rfl
        have co3 : w6.cell? ⟨W.heap.size + 1, 3, none⟩ = some (.int .i64 A) := (blk_cell HI6.out.st.obk 3).trans rfl
        have cn : w6.cell? ⟨wr.heap.size, 0, none⟩ = some (.int .i64 (q : Int)) := by have := (blk_cell HI6.out.nbx 0).trans rfl; rwa [HLQ.out] at this
        have cr : w6.cell? ⟨rb, 0, none⟩ = some (.int .i64 (r : Int)) := (blk_cell HI6.out.rbx 0).trans rfl
        have eqq : ((q : Int) != (q : Int)) = false := bne_self_eq_false' (a := (q : Int))
        clear HI hK hD hcell hpb hsz hw5
        cases htd : turnd r A ys with
        | true =>
          have ct : w6.cell? ⟨wr.heap.size + 1, 0, none⟩ = some (.bool true) := by have := (blk_cell HI6.out.tbx 0).trans rfl; rwa [htd] at this
          have HT6 : Aside0 (Calls Tryd.prog 48 #[.agg #[.pointer (some ⟨g, 0, none⟩), .slice A0 q cp], .int .i64 A] w6 fun e w' => e = .returned (.bool (tickB A)) ∧ (GoS W g S (.slice A0 q cp) kind on oth A B (w3.heap.size + 1) (w3.heap.size + 2) w' ∧ w'.heap[wr.heap.size]? = some (.cells #[.int .i64 (q : Int)] 3 (0, 0)) ∧ w'.heap[W.heap.size]? = some (.cells #[.pointer (some ⟨g, 0, none⟩), .slice A0 q cp] 40 (0, 0)) ∧ w'.heap[rb]? = some (.cells #[.int .i64 (r : Int)] 3 (0, 0)) ∧ DsOk (w3.heap.size + 2) (D :: Ds) w' ∧ ∀ D' ∈ D :: Ds, D' < w'.heap.size)) := ⟨by
            have hI := HI6.out
            have hmm : Bm w6 g (flip S A) := by have := hI.st.m; unfold flp at this; rw [htd] at this; exact this
            have hds : DsOk (w3.heap.size + 2) (D :: Ds) w6 := hI.ds.cons (B := rb) hI.hD (by have := HGW.out; have := HD6.out; omega) hI.h1 HK6.out
            refine (TURN.out w6 _ hmm).mono ?_
            rintro e w' ⟨rfl, hb, hf⟩
            have hg := hI.st.g0
            have ho := hI.st.o1
            have ho2 := hI.st.o2
            have h1 := hI.h1
            have h2 := hI.h2
            have hd' := hds.fr hf (fun D' hD' e => by have := (hds.blk D' hD').1; omega)
            have hnb := hf.blk hI.nbx (by omega)
            rw [HLQ.out] at hnb
            exact ⟨rfl, (hI.st.call hb hf).ext (fun t _ => flip_flip S A t), hnb, hf.blk hI.st.xbk (by omega), hf.blk hI.rbx (by omega), hd', hd'.lt⟩⟩
          obtain ⟨tA, htA⟩ : ∃ t, t = tickB A := ⟨_, rfl⟩
          rw [← htA] at HT6
          clear htA
          go_wp2_with (fail)
          refine (HT6.out).mono ?_
          rintro e w7 ⟨rfl, h7⟩
          have H7 := Aside0.mk h7
          have k1 : w7.cell? ⟨wr.heap.size, 0, none⟩ = some (.int .i64 (q : Int)) := (blk_cell H7.out.2.1 0).trans rfl
          have k2 : w7.cell? ⟨W.heap.size, 1, none⟩ = some (.slice A0 q cp) := (blk_cell H7.out.2.2.1 1).trans rfl
          have k3 : w7.cell? ⟨rb, 0, none⟩ = some (.int .i64 (r : Int)) := (blk_cell H7.out.2.2.2.1 0).trans rfl
          have HZ : Aside0 (∀ X : Int, X = (r : Int) + 1 → GoS W g S (.slice A0 q cp) kind on oth A B (w3.heap.size + 1) (w3.heap.size + 2) (w7.alloc (Obj.cells #[.int .i64 X] 3)) ∧ (w7.alloc (Obj.cells #[.int .i64 X] 3)).heap[w7.heap.size]? = some (.cells #[.int .i64 (((r + 1 : Nat)) : Int)] 3 (0, 0)) ∧ DsOk (w3.heap.size + 2) (D :: Ds) (w7.alloc (Obj.cells #[.int .i64 X] 3)) ∧ (w3.heap.size + 2) ≤ w7.heap.size) := ⟨fun X hX => by
            have hb := (Below.refl w7.heap.size w7).alloc (Nat.le_refl _) (Obj.cells #[.int .i64 X] 3)
            refine ⟨H7.out.1.below (hb.mono H7.out.1.hN), ?_, H7.out.2.2.2.2.1.below H7.out.2.2.2.2.2 hb, H7.out.1.hN⟩
            rw [hX]
            exact heap_alloc_new w7 _⟩
          clear h7 cx0 cx1 co3 cn cr ct
          go_wp2_with (fail)
          go_roundg gk1
          case measure => omega
          case rel => exact ⟨r + 1, D :: Ds, by omega, ⟨by have := HK.out; omega⟩, ⟨by rw [HDS.out]; rfl⟩, ⟨(HZ.out _ rfl).1⟩, ⟨(HZ.out _ rfl).2.1⟩, ⟨(HZ.out _ rfl).2.2.2⟩, ⟨(HZ.out _ rfl).2.2.1, H7.out.2.2.2.2.2⟩⟩
        | false =>
          have ct : w6.cell? ⟨wr.heap.size + 1, 0, none⟩ = some (.bool false) := by have := (blk_cell HI6.out.tbx 0).trans rfl; rwa [htd] at this
          have HZ : Aside0 (∀ X : Int, X = (r : Int) + 1 → GoS W g S (.slice A0 q cp) kind on oth A B (w3.heap.size + 1) (w3.heap.size + 2) (w6.alloc (Obj.cells #[.int .i64 X] 3)) ∧ (w6.alloc (Obj.cells #[.int .i64 X] 3)).heap[w6.heap.size]? = some (.cells #[.int .i64 (((r + 1 : Nat)) : Int)] 3 (0, 0)) ∧ DsOk (w3.heap.size + 2) (D :: Ds) (w6.alloc (Obj.cells #[.int .i64 X] 3)) ∧ (w3.heap.size + 2) ≤ w6.heap.size ∧ ∀ D' ∈ D :: Ds, D' < w6.heap.size) := ⟨fun X hX => by
            have hI := HI6.out
            have hb := (Below.refl w6.heap.size w6).alloc (Nat.le_refl _) (Obj.cells #[.int .i64 X] 3)
            have hs : GoS W g S (.slice A0 q cp) kind on oth A B (w3.heap.size + 1) (w3.heap.size + 2) w6 := by have := hI.st; unfold flp at this; rw [htd] at this; exact this
            have hds : DsOk (w3.heap.size + 2) (D :: Ds) w6 := hI.ds.cons (B := rb) hI.hD (by have := HGW.out; have := HD6.out; omega) hI.h1 HK6.out
            refine ⟨hs.below (hb.mono hs.hN), ?_, hds.below hds.lt hb, hs.hN, hds.lt⟩
            rw [hX]
            exact heap_alloc_new w6 _⟩
          clear htd
          go_wp2_with (fail)
          go_roundg gk1
          case measure => omega
          case rel => exact ⟨r + 1, D :: Ds, by omega, ⟨by have := HK.out; omega⟩, ⟨by rw [HDS.out]; rfl⟩, ⟨(HZ.out _ rfl).1⟩, ⟨(HZ.out _ rfl).2.1⟩, ⟨(HZ.out _ rfl).2.2.2.1⟩, ⟨(HZ.out _ rfl).2.2.1, (HZ.out _ rfl).2.2.2.2⟩⟩
      case stop =>
        rintro D c pre Wl hD hSp hX hK
        rcases hX with ⟨rfl, pre0, x, he, _, hx⟩ | ⟨rfl, hr0, hn, HI⟩
        · rw [← HLL.out] at hSp
          exact (GoX.no hSp he hx).elim
        · subst ha0
          subst hr0
          obtain ⟨m, hm⟩ : ∃ m, m = pre.length := ⟨_, rfl⟩
          have HI6 := Aside0.mk HI
          have HK6 := Aside0.mk hK
          have HD6 := Aside0.mk hD
          have cx0 : Wl.cell? ⟨W.heap.size, 0, none⟩ = some (.pointer (some ⟨g, 0, none⟩)) := (blk_cell HI6.out.st.xbk 0).trans rfl
          have cx1 : Wl.cell? ⟨W.heap.size, 1, none⟩ = some (.slice A0 q cp) := (blk_cell HI6.out.st.xbk 1).trans rfl
          have co3 : Wl.cell? ⟨W.heap.size + 1, 3, none⟩ = some (.int .i64 A) := (blk_cell HI6.out.st.obk 3).trans rfl
          have co4 : Wl.cell? ⟨W.heap.size + 1, 4, none⟩ = some (.int .i64 B) := (blk_cell HI6.out.st.obk 4).trans rfl
          have cn : Wl.cell? ⟨wr.heap.size, 0, none⟩ = some (.int .i64 (m : Int)) := by rw [hm]; exact (blk_cell HI6.out.nbx 0).trans rfl
          have cr : Wl.cell? ⟨rb, 0, none⟩ = some (.int .i64 0) := (blk_cell HI6.out.rbx 0).trans rfl
          have e7 : ((m : Int) == B) = true := beq_iff_eq.mpr (by rw [hm]; exact hn)
          clear HI hK hD hSp hn hcell hpb hsz hw5
          cases htd : turnd 0 A pre with
          | true =>
            have ct : Wl.cell? ⟨wr.heap.size + 1, 0, none⟩ = some (.bool true) := by have := (blk_cell HI6.out.tbx 0).trans rfl; rwa [htd] at this
            have HT6 : Aside0 (Calls Tryd.prog 48 #[.agg #[.pointer (some ⟨g, 0, none⟩), .slice A0 q cp], .int .i64 A] Wl fun e w' => e = .returned (.bool (tickB A)) ∧ (GoS W g S (.slice A0 q cp) kind on oth A B (w3.heap.size + 1) (w3.heap.size + 2) w' ∧ w'.heap[wr.heap.size]? = some (.cells #[.int .i64 (m : Int)] 3 (0, 0)) ∧ w'.heap[W.heap.size]? = some (.cells #[.pointer (some ⟨g, 0, none⟩), .slice A0 q cp] 40 (0, 0)) ∧ w'.heap[rb]? = some (.cells #[.int .i64 0] 3 (0, 0)) ∧ DsOk (w3.heap.size + 2) (D :: Ds) w' ∧ (∀ D' ∈ D :: Ds, D' < w'.heap.size) ∧ w'.heap[W.heap.size + 1]? = some (.cells #[.int .i64 kind, .int .i64 on, .int .i64 oth, .int .i64 A, .int .i64 B] 45 (0, 0)))) := ⟨by
              have hI := HI6.out
              have hmm : Bm Wl g (flip S A) := by have := hI.st.m; unfold flp at this; rw [htd] at this; exact this
              have hds : DsOk (w3.heap.size + 2) (D :: Ds) Wl := hI.ds.cons (B := rb) hI.hD (by have := HGW.out; have := HD6.out; omega) hI.h1 HK6.out
              refine (TURN.out Wl _ hmm).mono ?_
              rintro e w' ⟨rfl, hb, hf⟩
              have hg := hI.st.g0
              have ho := hI.st.o1
              have ho2 := hI.st.o2
              have h1 := hI.h1
              have h2 := hI.h2
              have hd' := hds.fr hf (fun D' hD' e => by have := (hds.blk D' hD').1; omega)
              have hnb := hf.blk hI.nbx (by omega)
              rw [← hm] at hnb
              exact ⟨rfl, (hI.st.call hb hf).ext (fun t _ => flip_flip S A t), hnb, hf.blk hI.st.xbk (by omega), hf.blk hI.rbx (by omega), hd', hd'.lt, hf.blk hI.st.obk (by omega)⟩⟩
            obtain ⟨tA, htA⟩ : ∃ t, t = tickB A := ⟨_, rfl⟩
            rw [← htA] at HT6
            clear htA hm
            gi_wp2
            go_wp2_with (fail)
            refine (HT6.out).mono ?_
            rintro e w7 ⟨rfl, h7⟩
            have H7 := Aside0.mk h7
            have k1 : w7.cell? ⟨wr.heap.size, 0, none⟩ = some (.int .i64 (m : Int)) := (blk_cell H7.out.2.1 0).trans rfl
            have k2 : w7.cell? ⟨W.heap.size, 1, none⟩ = some (.slice A0 q cp) := (blk_cell H7.out.2.2.1 1).trans rfl
            have k3 : w7.cell? ⟨rb, 0, none⟩ = some (.int .i64 0) := (blk_cell H7.out.2.2.2.1 0).trans rfl
            have k4 : w7.cell? ⟨W.heap.size + 1, 4, none⟩ = some (.int .i64 B) := (blk_cell H7.out.2.2.2.2.2.2 4).trans rfl
            have HZ : Aside0 (∀ X : Int, X = ((0 + 1 : Nat) : Int) → GoS W g S (.slice A0 q cp) kind on oth A B (w3.heap.size + 1) (w3.heap.size + 2) (w7.alloc (Obj.cells #[.int .i64 X] 3)) ∧ (w7.alloc (Obj.cells #[.int .i64 X] 3)).heap[w7.heap.size]? = some (.cells #[.int .i64 (((0 + 1 : Nat)) : Int)] 3 (0, 0)) ∧ DsOk (w3.heap.size + 2) (D :: Ds) (w7.alloc (Obj.cells #[.int .i64 X] 3)) ∧ (w3.heap.size + 2) ≤ w7.heap.size) := ⟨fun X hX => by
              have hb := (Below.refl w7.heap.size w7).alloc (Nat.le_refl _) (Obj.cells #[.int .i64 X] 3)
              refine ⟨H7.out.1.below (hb.mono H7.out.1.hN), ?_, H7.out.2.2.2.2.1.below H7.out.2.2.2.2.2.1 hb, H7.out.1.hN⟩
              rw [hX]
              exact heap_alloc_new w7 _⟩
            clear h7 cx0 cx1 co3 co4 cn cr ct htd
            by_cases hmq : m = q
            · have e8 : ((m : Int) != (q : Int)) = false := by rw [hmq]; exact bne_self_eq_false' (a := (q : Int))
              clear hmq
              go_wp2_with (fail)
              go_roundg gk1
              case measure => omega
              case rel => exact ⟨0 + 1, D :: Ds, by omega, ⟨by have := HK.out; omega⟩, ⟨by rw [HDS.out]; rfl⟩, ⟨(HZ.out _ rfl).1⟩, ⟨(HZ.out _ rfl).2.1⟩, ⟨(HZ.out _ rfl).2.2.2⟩, ⟨(HZ.out _ rfl).2.2.1, H7.out.2.2.2.2.2.1⟩⟩
            · have e8 : ((m : Int) != (q : Int)) = true := bne_iff_ne.mpr (by omega)
              clear hmq
              go_wp2_with (fail)
              go_roundg gk1
              case measure => omega
              case rel => exact ⟨0 + 1, D :: Ds, by omega, ⟨by have := HK.out; omega⟩, ⟨by rw [HDS.out]; rfl⟩, ⟨(HZ.out _ rfl).1⟩, ⟨(HZ.out _ rfl).2.1⟩, ⟨(HZ.out _ rfl).2.2.2⟩, ⟨(HZ.out _ rfl).2.2.1, H7.out.2.2.2.2.2.1⟩⟩
          | false =>
            have ct : Wl.cell? ⟨wr.heap.size + 1, 0, none⟩ = some (.bool false) := by have := (blk_cell HI6.out.tbx 0).trans rfl; rwa [htd] at this
            have HZ : Aside0 (∀ X : Int, X = ((0 + 1 : Nat) : Int) → GoS W g S (.slice A0 q cp) kind on oth A B (w3.heap.size + 1) (w3.heap.size + 2) (Wl.alloc (Obj.cells #[.int .i64 X] 3)) ∧ (Wl.alloc (Obj.cells #[.int .i64 X] 3)).heap[Wl.heap.size]? = some (.cells #[.int .i64 (((0 + 1 : Nat)) : Int)] 3 (0, 0)) ∧ DsOk (w3.heap.size + 2) (D :: Ds) (Wl.alloc (Obj.cells #[.int .i64 X] 3)) ∧ (w3.heap.size + 2) ≤ Wl.heap.size ∧ ∀ D' ∈ D :: Ds, D' < Wl.heap.size) := ⟨fun X hX => by
              have hI := HI6.out
              have hb := (Below.refl Wl.heap.size Wl).alloc (Nat.le_refl _) (Obj.cells #[.int .i64 X] 3)
              have hs : GoS W g S (.slice A0 q cp) kind on oth A B (w3.heap.size + 1) (w3.heap.size + 2) Wl := by have := hI.st; unfold flp at this; rw [htd] at this; exact this
              have hds : DsOk (w3.heap.size + 2) (D :: Ds) Wl := hI.ds.cons (B := rb) hI.hD (by have := HGW.out; have := HD6.out; omega) hI.h1 HK6.out
              refine ⟨hs.below (hb.mono hs.hN), ?_, hds.below hds.lt hb, hs.hN, hds.lt⟩
              rw [hX]
              exact heap_alloc_new Wl _⟩
            clear htd hm
            gi_wp2
            by_cases hmq : m = q
            · have e8 : ((m : Int) != (q : Int)) = false := by rw [hmq]; exact bne_self_eq_false' (a := (q : Int))
              clear hmq
              go_wp2_with (fail)
              go_roundg gk1
              case measure => omega
              case rel => exact ⟨0 + 1, D :: Ds, by omega, ⟨by have := HK.out; omega⟩, ⟨by rw [HDS.out]; rfl⟩, ⟨(HZ.out _ rfl).1⟩, ⟨(HZ.out _ rfl).2.1⟩, ⟨(HZ.out _ rfl).2.2.2.1⟩, ⟨(HZ.out _ rfl).2.2.1, (HZ.out _ rfl).2.2.2.2⟩⟩
            · have e8 : ((m : Int) != (q : Int)) = true := bne_iff_ne.mpr (by omega)
              clear hmq
              go_wp2_with (fail)
              go_roundg gk1
              case measure => omega
              case rel => exact ⟨0 + 1, D :: Ds, by omega, ⟨by have := HK.out; omega⟩, ⟨by rw [HDS.out]; rfl⟩, ⟨(HZ.out _ rfl).1⟩, ⟨(HZ.out _ rfl).2.1⟩, ⟨(HZ.out _ rfl).2.2.2.1⟩, ⟨(HZ.out _ rfl).2.2.1, (HZ.out _ rfl).2.2.2.2⟩⟩
    · obtain rfl : r = 2 := by omega
      have cRf : wr.frozen? ⟨W.heap.size + 1 + 1, 0, none⟩ = false := blk_frozen HG.out.rbk 0
      have cR : wr.cell? ⟨W.heap.size + 1 + 1, 0, none⟩ = some (.bool false) := (blk_cell HG.out.rbk 0).trans rfl
      go_wp2_with (fail)
      have hds := HDS.out
      subst hds
      refine noPanic_ret ?_
      exact goes_leave (Ds := Ds) HG.out HDO.out.1 rfl
end Go.Proofs.YtgcelkndgjjbdaaDoor.PBm
