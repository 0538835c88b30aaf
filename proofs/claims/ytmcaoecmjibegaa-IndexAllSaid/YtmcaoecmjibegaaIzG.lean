/- goes. -/
import Derived.Test.YtmcaoecmjibegaaIzI
import Derived.BigRegion
import Derived.IntWalk
import Derived.Deep.CutRange
namespace Go.Proofs.Ytmcaoecmjibegaa.PIx
open Go.RowKit Go.Proofs.YtmcaoecmjibegaaW.PrintWords Go.Proofs.YtmcaoecmjibegaaW.PrintLast Go.Proofs.YtmcaoecmjibegaaW.PrintMore
open Go.Shelf
set_option linter.unusedVariables false
set_option linter.unusedSimpArgs false
attribute [local go_sem] Oper.semAt_some

set_option maxHeartbeats 32000000 in
set_option maxRecDepth 100000 in
theorem goes_calls {W : World} {g b g2 b2 : Nat} {room keys : Int} {bits : Nat} {pl : List S72} (kind : Int) (oth : Bool) (key v n : Int) (h1 : Live W g b room keys bits pl) (h2 : Rt W g2 b2 room keys pl) (hne : g2 ≠ g ∧ g2 ≠ b ∧ b2 ≠ g ∧ b2 ≠ b) :
    Calls Try.prog 36 #[.agg #[.pointer (some ⟨g, 0, none⟩), .pointer (some ⟨g2, 0, none⟩)], .agg #[.int .i64 kind, .bool oth, .int .u64 key, .int .i64 v, .int .i64 n]] W fun e W' => e = .returned (.bool true) ∧ (∃ k' pl', Live W' g b room k' bits pl' ∧ Rt W' g2 b2 room k' pl') ∧ Fr (fun i => i = g ∨ i = b ∨ i = g2 ∨ i = b2) W W' := by
  have HX := Aside0.mk h1
  have HY := Aside0.mk h2
  have HNE := Aside0.mk hne
  have hpl : pl.length ≤ 131072 := by rw [h1.2.1.len]; exact Nat.le_trans (Nat.pow_le_pow_right (by decide) h1.2.1.hb) (by decide)
  have HPL := Aside0.mk hpl
  obtain ⟨p, hpe⟩ := h1.2.1.wf.ends key
  have HPE := Aside0.mk hpe
  have HPP : Aside0 (0 < pl.length) := ⟨by rw [h1.2.1.len]; exact Nat.pow_pos (by decide)⟩
  have HRM : Aside0 (room ≤ 65536) := ⟨h1.2.2⟩
  clear hpe
  obtain ⟨w3, hw3⟩ : ∃ w3, w3 = ((W.alloc (.cells #[.pointer (some ⟨g, 0, none⟩), .pointer (some ⟨g2, 0, none⟩)] 26)).alloc (.cells #[.int .i64 kind, .bool oth, .int .u64 key, .int .i64 v, .int .i64 n] 62)).alloc (.cells #[.bool false] 4) := ⟨_, rfl⟩
  have s1 : (W.alloc (.cells #[.pointer (some ⟨g, 0, none⟩), .pointer (some ⟨g2, 0, none⟩)] 26)).heap.size = W.heap.size + 1 := World.size_alloc _ _
  have s2 : ((W.alloc (.cells #[.pointer (some ⟨g, 0, none⟩), .pointer (some ⟨g2, 0, none⟩)] 26)).alloc (.cells #[.int .i64 kind, .bool oth, .int .u64 key, .int .i64 v, .int .i64 n] 62)).heap.size = W.heap.size + 1 + 1 := by rw [World.size_alloc, s1]
  have hB3 : Below W.heap.size W w3 := by rw [hw3]; exact (((Below.refl _ W).alloc (Nat.le_refl _) _).alloc (by rw [s1]; omega) _).alloc (by rw [s2]; omega) _
  have hP3 : w3.heap[W.heap.size]? = some (.cells #[.pointer (some ⟨g, 0, none⟩), .pointer (some ⟨g2, 0, none⟩)] 26 (0, 0)) := by
    rw [hw3]
    exact (Below.heap_alloc _ _ _ (by rw [s2]; omega)).trans ((Below.heap_alloc _ _ _ (by rw [s1]; omega)).trans (heap_alloc_new W _))
  have hO3 : w3.heap[W.heap.size + 1]? = some (.cells #[.int .i64 kind, .bool oth, .int .u64 key, .int .i64 v, .int .i64 n] 62 (0, 0)) := by
    have := heap_alloc_new (W.alloc (.cells #[.pointer (some ⟨g, 0, none⟩), .pointer (some ⟨g2, 0, none⟩)] 26)) (.cells #[.int .i64 kind, .bool oth, .int .u64 key, .int .i64 v, .int .i64 n] 62)
    rw [s1] at this
    rw [hw3]
    exact (Below.heap_alloc _ _ _ (by rw [s2]; omega)).trans this
  have hR3 : w3.heap[W.heap.size + 1 + 1]? = some (.cells #[.bool false] 4 (0, 0)) := by
    have := heap_alloc_new ((W.alloc (.cells #[.pointer (some ⟨g, 0, none⟩), .pointer (some ⟨g2, 0, none⟩)] 26)).alloc (.cells #[.int .i64 kind, .bool oth, .int .u64 key, .int .i64 v, .int .i64 n] 62)) (.cells #[.bool false] 4)
    rw [s2] at this
    rw [hw3]
    exact this
  have K0 := Aside0.mk (And.intro hB3 (And.intro hP3 (And.intro hO3 hR3)))
  have HW3 := Aside0.mk hw3
  have HS3 : Aside0 (w3.heap.size = W.heap.size + 1 + 1 + 1) := ⟨by rw [hw3, World.size_alloc, s2]⟩
  clear h1 h2 hne hpl hB3 hP3 hO3 hR3 s1 s2 hw3
  refine (callsIn_wide (n := 8)).1 (callsIn_of_wp_marks (F := Fence.wide) Try.func36 rfl trivial ?_ rfl)
  refine wpIn_noPanic ?_
  refine wpIn_wide.2 ?_
  have hnf := func_nil
  simp only [Try.ntmps36, List.size_toArray, List.length_cons, List.length_nil, Nat.reduceAdd, Nat.reduceSub, Array.replicate_succ, Array.replicate_zero, List.push_toArray, List.append_toArray, List.nil_append, List.cons_append]
  go_upto_region 1 with (fail)
  rw [← HW3.out]
  have cP1 : w3.cell? ⟨W.heap.size, 1, none⟩ = some (.pointer (some ⟨g2, 0, none⟩)) := (blk_cell K0.out.2.1 1).trans rfl
  go_wp2_with (first
    | ((with_reducible refine gate_callee (f := 43) rfl ?_); (try (refine gate_guard (by rfl) ?_; dsimp only)); refine goesL_ (some 20) rfl rfl Try.func43 (by kernel_rfl) rfl #[.pointer (some ⟨g2, 0, none⟩)] rfl (by (try simp only [List.map_toArray, List.map_cons, List.map_nil]); first | done | rfl) ?_; (with_reducible refine (rkeys_calls (HY.out.below K0.out.1) HPL.out).mono ?_); rintro e w4 ⟨wv, l, rfl, hs4, he4, hb4⟩; refine ⟨_, rfl, ?_⟩; obtain ⟨A, cp, rfl⟩ := he4.form; obtain ⟨q, hq⟩ : ∃ q, q = l.length := ⟨_, rfl⟩; rw [← hq] at he4; rw [← hq]; have HQ := Aside0.mk hq; have HSR := Aside0.mk hs4; have HE4 := Aside0.mk he4; have HB4 := Aside0.mk hb4; have cP0 : (w4.alloc (.cells #[.slice A q cp] 34)).cell? ⟨W.heap.size, 0, none⟩ = some (.pointer (some ⟨g, 0, none⟩)) := (blk_cell ((Below.heap_alloc _ _ _ (DsOk.lt.blk_lt' (blk_below K0.out.2.1 hb4))).trans (blk_below K0.out.2.1 hb4)) 0).trans rfl; clear hq hs4 he4 hb4)
    | ((with_reducible refine gate_callee (f := 22) rfl ?_); (try (refine gate_guard (by rfl) ?_; dsimp only)); refine goesL_ (some 23) rfl rfl Try.func22 (by kernel_rfl) rfl #[.pointer (some ⟨g, 0, none⟩)] rfl (by (try simp only [List.map_toArray, List.map_cons, List.map_nil]); first | done | rfl) ?_; (with_reducible refine (all_calls g _).mono ?_); rintro e w5 ⟨rfl, rfl⟩; refine ⟨_, rfl, ?_⟩; skip))
  have HW4 : Aside0 (W.heap.size + 1 + 1 + 1 ≤ w4.heap.size) := ⟨by have := HB4.out.size; have := HS3.out; omega⟩
  have HG0 : Aside0 (GoS W W.heap.size (W.heap.size + 1) (W.heap.size + 1 + 1) w4.heap.size (w4.heap.size + 1) g b g2 b2 (w4.heap.size + 2) room bits l (.slice A q cp) kind oth key v n keys pl keys pl (((w4.alloc (Obj.cells #[.slice A q cp] 34)).alloc (Obj.cells #[.pointer (some ⟨g, 0, none⟩)] 23)).alloc (Obj.cells #[.int .i64 0] 3))) := ⟨by
    have z0 := HW4.out
    have z1 : (w4.alloc (Obj.cells #[.slice A q cp] 34)).heap.size = w4.heap.size + 1 := World.size_alloc _ _
    have z2 : ((w4.alloc (Obj.cells #[.slice A q cp] 34)).alloc (Obj.cells #[.pointer (some ⟨g, 0, none⟩)] 23)).heap.size = w4.heap.size + 1 + 1 := by rw [World.size_alloc, z1]
    have b4 : Below W.heap.size W w4 := below_then K0.out.1 K0.out.1.size HB4.out
    have b5 : Below w4.heap.size w4 (((w4.alloc (Obj.cells #[.slice A q cp] 34)).alloc (Obj.cells #[.pointer (some ⟨g, 0, none⟩)] 23)).alloc (Obj.cells #[.int .i64 0] 3)) := (((Below.refl _ w4).alloc (Nat.le_refl _) _).alloc (by rw [z1]; omega) _).alloc (by rw [z2]; omega) _
    have b6 : Below W.heap.size W (((w4.alloc (Obj.cells #[.slice A q cp] 34)).alloc (Obj.cells #[.pointer (some ⟨g, 0, none⟩)] 23)).alloc (Obj.cells #[.int .i64 0] 3)) := below_then b4 b4.size b5
    have c0 := HX.out.1.lt
    have c1 := HX.out.1.ltb
    have c2 := HY.out.lt
    have c3 := HY.out.ltb
    refine ⟨(Fr.refl _ W).below b6, blk_below (blk_below K0.out.2.1 HB4.out) b5, blk_below (blk_below K0.out.2.2.1 HB4.out) b5, blk_below (blk_below K0.out.2.2.2 HB4.out) b5, ?_, Er.below (w := w4) (Kd.R_lower HE4.out (by have := HS3.out; omega)) b5, ?_, HX.out.below b6, HY.out.below b6, ⟨by omega, by omega, by omega, by omega, by omega, by omega, by omega, by omega, by omega, by omega, c0, c1, c2, c3, HNE.out.1, HNE.out.2.1, HNE.out.2.2.1, HNE.out.2.2.2, fun k hk => ?_⟩, by rw [World.size_alloc, z2]; omega⟩
    · exact (Below.heap_alloc _ _ _ (by rw [z2]; omega)).trans ((Below.heap_alloc _ _ _ (by rw [z1]; omega)).trans (heap_alloc_new w4 _))
    · have := heap_alloc_new (w4.alloc (Obj.cells #[.slice A q cp] 34)) (Obj.cells #[.pointer (some ⟨g, 0, none⟩)] 23)
      rw [z1] at this
      exact (Below.heap_alloc _ _ _ (by rw [z2]; omega)).trans this
    · have := Kd.R_lt HE4.out k hk
      omega⟩
  have HR0 : Aside0 ((((w4.alloc (Obj.cells #[.slice A q cp] 34)).alloc (Obj.cells #[.pointer (some ⟨g, 0, none⟩)] 23)).alloc (Obj.cells #[.int .i64 0] 3)).heap[w4.heap.size + 1 + 1]? = some (.cells #[.int .i64 ((0 : Nat) : Int)] 3 (0, 0))) := ⟨by
    have := heap_alloc_new ((w4.alloc (Obj.cells #[.slice A q cp] 34)).alloc (Obj.cells #[.pointer (some ⟨g, 0, none⟩)] 23)) (Obj.cells #[.int .i64 0] 3)
    rw [World.size_alloc, World.size_alloc] at this
    exact this⟩
  have HSR2 : Aside0 (q = l.length ∧ q ≤ 131072 ∧ q = (used pl).length) := ⟨HQ.out, by rw [HQ.out, HSR.out.1.length_eq]; exact Nat.le_trans (List.length_filter_le _ _) HPL.out, by rw [HQ.out, HSR.out.1.length_eq]⟩
  clear cP1 cP0 K0 HE4 HB4 HW3 HS3
  refine wp_loop_ghost_k (fun kq a w => ∃ (ds : List Deferred) (rb : Nat) (u0 u1 u8 u9 u10 u11 u12 u13 u14 u15 u16 u17 u18 u19 u20 u21 u22 u23 u24 u25 u26 u27 u28 u29 u30 u31 u32 u33 u34 u35 u36 u37 u38 u39 u40 u41 u42 u43 u44 u45 u46 u47 u48 u49 u50 u51 u52 u53 u54 u55 u56 u57 u58 u59 u60 u61 u62 u63 u64 u65 u66 u67 u68 u69 u70 u71 u72 u73 u74 u75 u76 u77 u78 u79 u80 u81 u82 u83 u84 u85 u86 u87 u88 u89 u90 u91 u92 u93 u94 u95 u96 u97 u98 u99 u100 u101 u102 u103 u104 u105 u106 u107 u108 u109 u110 u111 u112 u113 u114 u115 u116 u117 u118 u119 u120 u121 u122 u123 u124 u125 u126 u127 u128 u129 u130 u131 u132 u133 u134 u135 u136 u137 u138 u139 u140 u141 u142 u143 u144 u145 u146 u147 u148 u149 u150 u151 u152 u153 u154 u155 u156 : Value), (∃ (r : Nat) (Ds : List Nat), r ≤ 2 ∧ Aside0 (kq + r = 2) ∧ Aside0 (ds = Ds.map mark) ∧ Aside0 (GoS W W.heap.size (W.heap.size + 1) (W.heap.size + 1 + 1) w4.heap.size (w4.heap.size + 1) g b g2 b2 (w4.heap.size + 2) room bits l (.slice A q cp) kind oth key v n keys pl keys pl w) ∧ Aside0 (w.heap[rb]? = some (.cells #[.int .i64 (r : Int)] 3 (0, 0))) ∧ Aside0 ((w4.heap.size + 2) ≤ rb) ∧ Aside0 (DsOk (w4.heap.size + 2) Ds w)) ∧ a = { tmps := (List.toArray (u0 :: u1 :: (.pointer (some ⟨W.heap.size, 0, none⟩) : Value) :: (.pointer (some ⟨W.heap.size + 1, 0, none⟩) : Value) :: (.pointer (some ⟨W.heap.size + 1 + 1, 0, none⟩) : Value) :: (.pointer (some ⟨w4.heap.size, 0, none⟩) : Value) :: (.func (.func 30) #[] #[.pointer (some ⟨w4.heap.size + 1, 0, none⟩)] : Value) :: (.pointer (some ⟨rb, 0, none⟩) : Value) :: u8 :: u9 :: u10 :: u11 :: u12 :: u13 :: u14 :: u15 :: u16 :: u17 :: u18 :: u19 :: u20 :: u21 :: u22 :: u23 :: u24 :: u25 :: u26 :: u27 :: u28 :: u29 :: u30 :: u31 :: u32 :: u33 :: u34 :: u35 :: u36 :: u37 :: u38 :: u39 :: u40 :: u41 :: u42 :: u43 :: u44 :: u45 :: u46 :: u47 :: u48 :: u49 :: u50 :: u51 :: u52 :: u53 :: u54 :: u55 :: u56 :: u57 :: u58 :: u59 :: u60 :: u61 :: u62 :: u63 :: u64 :: u65 :: u66 :: u67 :: u68 :: u69 :: u70 :: u71 :: u72 :: u73 :: u74 :: u75 :: u76 :: u77 :: u78 :: u79 :: u80 :: u81 :: u82 :: u83 :: u84 :: u85 :: u86 :: u87 :: u88 :: u89 :: u90 :: u91 :: u92 :: u93 :: u94 :: u95 :: u96 :: u97 :: u98 :: u99 :: u100 :: u101 :: u102 :: u103 :: u104 :: u105 :: u106 :: u107 :: u108 :: u109 :: u110 :: u111 :: u112 :: u113 :: u114 :: u115 :: u116 :: u117 :: u118 :: u119 :: u120 :: u121 :: u122 :: u123 :: u124 :: u125 :: u126 :: u127 :: u128 :: u129 :: u130 :: u131 :: u132 :: u133 :: u134 :: u135 :: u136 :: u137 :: u138 :: u139 :: u140 :: u141 :: u142 :: u143 :: u144 :: u145 :: u146 :: u147 :: u148 :: u149 :: u150 :: u151 :: u152 :: u153 :: u154 :: u155 :: u156 :: [])), defers := ds }) 2 ?_ ?_
  · (repeat apply Exists.intro)
    refine ⟨⟨0, [], by omega, ⟨by omega⟩, ⟨rfl⟩, HG0, HR0, ⟨by omega⟩, ⟨DsOk.nil _ _⟩⟩, rfl⟩
  · intro gk a0 wr hinv
    obtain ⟨ds, hinv⟩ := hinv
    obtain ⟨rb, hinv⟩ := hinv
    obtain ⟨u0, hinv⟩ := hinv
    obtain ⟨u1, hinv⟩ := hinv
    obtain ⟨u8, hinv⟩ := hinv
    obtain ⟨u9, hinv⟩ := hinv
    obtain ⟨u10, hinv⟩ := hinv
    obtain ⟨u11, hinv⟩ := hinv
    obtain ⟨u12, hinv⟩ := hinv
    obtain ⟨u13, hinv⟩ := hinv
    obtain ⟨u14, hinv⟩ := hinv
    obtain ⟨u15, hinv⟩ := hinv
    obtain ⟨u16, hinv⟩ := hinv
    obtain ⟨u17, hinv⟩ := hinv
    obtain ⟨u18, hinv⟩ := hinv
    obtain ⟨u19, hinv⟩ := hinv
    obtain ⟨u20, hinv⟩ := hinv
    obtain ⟨u21, hinv⟩ := hinv
    obtain ⟨u22, hinv⟩ := hinv
    obtain ⟨u23, hinv⟩ := hinv
    obtain ⟨u24, hinv⟩ := hinv
    obtain ⟨u25, hinv⟩ := hinv
    obtain ⟨u26, hinv⟩ := hinv
    obtain ⟨u27, hinv⟩ := hinv
    obtain ⟨u28, hinv⟩ := hinv
    obtain ⟨u29, hinv⟩ := hinv
    obtain ⟨u30, hinv⟩ := hinv
    obtain ⟨u31, hinv⟩ := hinv
    obtain ⟨u32, hinv⟩ := hinv
    obtain ⟨u33, hinv⟩ := hinv
    obtain ⟨u34, hinv⟩ := hinv
    obtain ⟨u35, hinv⟩ := hinv
    obtain ⟨u36, hinv⟩ := hinv
    obtain ⟨u37, hinv⟩ := hinv
    obtain ⟨u38, hinv⟩ := hinv
    obtain ⟨u39, hinv⟩ := hinv
    obtain ⟨u40, hinv⟩ := hinv
    obtain ⟨u41, hinv⟩ := hinv
    obtain ⟨u42, hinv⟩ := hinv
    obtain ⟨u43, hinv⟩ := hinv
    obtain ⟨u44, hinv⟩ := hinv
    obtain ⟨u45, hinv⟩ := hinv
    obtain ⟨u46, hinv⟩ := hinv
    obtain ⟨u47, hinv⟩ := hinv
    obtain ⟨u48, hinv⟩ := hinv
    obtain ⟨u49, hinv⟩ := hinv
    obtain ⟨u50, hinv⟩ := hinv
    obtain ⟨u51, hinv⟩ := hinv
    obtain ⟨u52, hinv⟩ := hinv
    obtain ⟨u53, hinv⟩ := hinv
    obtain ⟨u54, hinv⟩ := hinv
    obtain ⟨u55, hinv⟩ := hinv
    obtain ⟨u56, hinv⟩ := hinv
    obtain ⟨u57, hinv⟩ := hinv
    obtain ⟨u58, hinv⟩ := hinv
    obtain ⟨u59, hinv⟩ := hinv
    obtain ⟨u60, hinv⟩ := hinv
    obtain ⟨u61, hinv⟩ := hinv
    obtain ⟨u62, hinv⟩ := hinv
    obtain ⟨u63, hinv⟩ := hinv
    obtain ⟨u64, hinv⟩ := hinv
    obtain ⟨u65, hinv⟩ := hinv
    obtain ⟨u66, hinv⟩ := hinv
    obtain ⟨u67, hinv⟩ := hinv
    obtain ⟨u68, hinv⟩ := hinv
    obtain ⟨u69, hinv⟩ := hinv
    obtain ⟨u70, hinv⟩ := hinv
    obtain ⟨u71, hinv⟩ := hinv
    obtain ⟨u72, hinv⟩ := hinv
    obtain ⟨u73, hinv⟩ := hinv
    obtain ⟨u74, hinv⟩ := hinv
    obtain ⟨u75, hinv⟩ := hinv
    obtain ⟨u76, hinv⟩ := hinv
    obtain ⟨u77, hinv⟩ := hinv
    obtain ⟨u78, hinv⟩ := hinv
    obtain ⟨u79, hinv⟩ := hinv
    obtain ⟨u80, hinv⟩ := hinv
    obtain ⟨u81, hinv⟩ := hinv
    obtain ⟨u82, hinv⟩ := hinv
    obtain ⟨u83, hinv⟩ := hinv
    obtain ⟨u84, hinv⟩ := hinv
    obtain ⟨u85, hinv⟩ := hinv
    obtain ⟨u86, hinv⟩ := hinv
    obtain ⟨u87, hinv⟩ := hinv
    obtain ⟨u88, hinv⟩ := hinv
    obtain ⟨u89, hinv⟩ := hinv
    obtain ⟨u90, hinv⟩ := hinv
    obtain ⟨u91, hinv⟩ := hinv
    obtain ⟨u92, hinv⟩ := hinv
    obtain ⟨u93, hinv⟩ := hinv
    obtain ⟨u94, hinv⟩ := hinv
    obtain ⟨u95, hinv⟩ := hinv
    obtain ⟨u96, hinv⟩ := hinv
    obtain ⟨u97, hinv⟩ := hinv
    obtain ⟨u98, hinv⟩ := hinv
    obtain ⟨u99, hinv⟩ := hinv
    obtain ⟨u100, hinv⟩ := hinv
    obtain ⟨u101, hinv⟩ := hinv
    obtain ⟨u102, hinv⟩ := hinv
    obtain ⟨u103, hinv⟩ := hinv
    obtain ⟨u104, hinv⟩ := hinv
    obtain ⟨u105, hinv⟩ := hinv
    obtain ⟨u106, hinv⟩ := hinv
    obtain ⟨u107, hinv⟩ := hinv
    obtain ⟨u108, hinv⟩ := hinv
    obtain ⟨u109, hinv⟩ := hinv
    obtain ⟨u110, hinv⟩ := hinv
    obtain ⟨u111, hinv⟩ := hinv
    obtain ⟨u112, hinv⟩ := hinv
    obtain ⟨u113, hinv⟩ := hinv
    obtain ⟨u114, hinv⟩ := hinv
    obtain ⟨u115, hinv⟩ := hinv
    obtain ⟨u116, hinv⟩ := hinv
    obtain ⟨u117, hinv⟩ := hinv
    obtain ⟨u118, hinv⟩ := hinv
    obtain ⟨u119, hinv⟩ := hinv
    obtain ⟨u120, hinv⟩ := hinv
    obtain ⟨u121, hinv⟩ := hinv
    obtain ⟨u122, hinv⟩ := hinv
    obtain ⟨u123, hinv⟩ := hinv
    obtain ⟨u124, hinv⟩ := hinv
    obtain ⟨u125, hinv⟩ := hinv
    obtain ⟨u126, hinv⟩ := hinv
    obtain ⟨u127, hinv⟩ := hinv
    obtain ⟨u128, hinv⟩ := hinv
    obtain ⟨u129, hinv⟩ := hinv
    obtain ⟨u130, hinv⟩ := hinv
    obtain ⟨u131, hinv⟩ := hinv
    obtain ⟨u132, hinv⟩ := hinv
    obtain ⟨u133, hinv⟩ := hinv
    obtain ⟨u134, hinv⟩ := hinv
    obtain ⟨u135, hinv⟩ := hinv
    obtain ⟨u136, hinv⟩ := hinv
    obtain ⟨u137, hinv⟩ := hinv
    obtain ⟨u138, hinv⟩ := hinv
    obtain ⟨u139, hinv⟩ := hinv
    obtain ⟨u140, hinv⟩ := hinv
    obtain ⟨u141, hinv⟩ := hinv
    obtain ⟨u142, hinv⟩ := hinv
    obtain ⟨u143, hinv⟩ := hinv
    obtain ⟨u144, hinv⟩ := hinv
    obtain ⟨u145, hinv⟩ := hinv
    obtain ⟨u146, hinv⟩ := hinv
    obtain ⟨u147, hinv⟩ := hinv
    obtain ⟨u148, hinv⟩ := hinv
    obtain ⟨u149, hinv⟩ := hinv
    obtain ⟨u150, hinv⟩ := hinv
    obtain ⟨u151, hinv⟩ := hinv
    obtain ⟨u152, hinv⟩ := hinv
    obtain ⟨u153, hinv⟩ := hinv
    obtain ⟨u154, hinv⟩ := hinv
    obtain ⟨u155, hinv⟩ := hinv
    obtain ⟨u156, hinv⟩ := hinv
    obtain ⟨⟨r, Ds, hr2, HK, HDS, HG, HRB, HNR, HDO⟩, ha⟩ := hinv
    subst ha
    clear HG0 HR0
    try dsimp only
    intro _ _ _ _
    have c7 : wr.cell? ⟨rb, 0, none⟩ = some (.int .i64 (r : Int)) := (blk_cell HRB.out 0).trans rfl
    have c7f := blk_frozen HRB.out 0
    by_cases hr : r < 2
    · obtain ⟨gk1, rfl⟩ : ∃ gk1, gk = gk1 + 1 := ⟨gk - 1, by have := HK.out; omega⟩
      go_wp2_with (fail)
      have HFIT := Aside0.mk HG.out.x.2.1
      refine (wpIn_wide (n := 8)).1 ?_
      refine wpIn_act ?_
      intro a0 ha0
      refine wpIn_world ?_
      intro w5 hw5
      have hsz : w5.heap.size = wr.heap.size + 1 := by rw [hw5, World.size_alloc]
      have hrl : rb < wr.heap.size := blk_lt HRB.out
      have HB5 : Below wr.heap.size wr w5 := by rw [hw5]; exact (Below.refl _ wr).alloc (Nat.le_refl _) _
      have HI5 : Aside0 (GoI W W.heap.size (W.heap.size + 1) (W.heap.size + 1 + 1) w4.heap.size (w4.heap.size + 1) g b g2 b2 (w4.heap.size + 2) room bits l (.slice A q cp) kind oth key v n keys pl rb wr.heap.size w5.heap.size r Ds [] w5) := ⟨⟨HG.out.below (HB5.mono HG.out.hN), blk_below HRB.out HB5, by rw [hw5]; exact heap_alloc_new wr _, HDO.out.below HDO.out.lt HB5, HNR.out, hrl, by omega, fun D hD => by have := HDO.out.lt D hD; omega⟩⟩
      have hcell : w5.cell? ⟨w4.heap.size + 1, 0, none⟩ = some (.pointer (some ⟨g, 0, none⟩)) := (blk_cell HI5.out.st.qbk 0).trans rfl
      have hpb : w4.heap.size + 1 < w5.heap.size := by have := HI5.out.st.hN; omega
      have hpl5 : pl.length ≤ 131072 := HPL.out
      have HGW : Aside0 (g < w5.heap.size ∧ b < w5.heap.size ∧ W.heap.size + 1 + 1 < w5.heap.size ∧ wr.heap.size < w5.heap.size ∧ W.heap.size + 1 + 1 < wr.heap.size) := ⟨by have := HI5.out.st.hN; have := HW4.out; have := HI5.out.st.ord.g0; have := HI5.out.st.ord.b0; have := HG.out.hN; omega⟩
      clear c7 c7f hrl HB5
      obtain ⟨B, hB⟩ : ∃ B, B = w5.heap.size := ⟨_, rfl⟩
      obtain ⟨nb, hnb⟩ : ∃ nb, nb = wr.heap.size := ⟨_, rfl⟩
      refine wpIn_rangeFunc_ownG rfl (by decide) (gf := 30) (lb := #[.pointer (some ⟨w4.heap.size + 1, 0, none⟩)]) (by rw [ha0]; exact rfl) trivial (enters_of Try.func30 (by kernel_rfl) rfl)
        (all1_seq 7 (by decide) HI5.out.st.x.1 hpl5 hcell hpb) (fun h k => h.trans k) (fun W l o o' _ h hc _ => keepCells_b W l o o' h hc) (Below.refl _ _) (fun _ => rfl)
        (GoI W W.heap.size (W.heap.size + 1) (W.heap.size + 1 + 1) w4.heap.size (w4.heap.size + 1) g b g2 b2 (w4.heap.size + 2) room bits l (.slice A q cp) kind oth key v n keys pl rb wr.heap.size w5.heap.size r Ds) (GoX (GoI W W.heap.size (W.heap.size + 1) (W.heap.size + 1 + 1) w4.heap.size (w4.heap.size + 1) g b g2 b2 (w4.heap.size + 2) room bits l (.slice A q cp) kind oth key v n keys pl rb wr.heap.size w5.heap.size r Ds) 2 r l n) (GoI.own _ _ _ _ _ _ _ _ _ _ _ _ _ _ _ _ _ _ _ _ _ _ _ _ _ _ _) (GoX.own (GoI.own _ _ _ _ _ _ _ _ _ _ _ _ _ _ _ _ _ _ _ _ _ _ _ _ _ _ _) _ _ _ _) HI5.out
        (fun x => { tmps := ((((a0.tmps.setIfInBounds 27 (.bool true)).setIfInBounds 31 (.int .u64 x.1)).setIfInBounds 32 (.int .i64 x.2)).setIfInBounds 9 (.int .u64 x.1)).setIfInBounds 10 (.int .i64 x.2), defers := [] }) ?assign ?body ?done ?stop
      case assign =>
        intro l x Wl Kl hK
        subst ha0
        clear hcell hpb hpl5 hsz hw5
        dsimp only [encKV]
        gi_wp2
        exact hK
      case body =>
        rintro ll pre x w6 HI hlen
        subst ha0
        have HI6 := Aside0.mk HI
        obtain ⟨m, hm⟩ : ∃ m, m = pre.length := ⟨_, rfl⟩
        have HM := Aside0.mk hm
        have hmq : m < q := by have := HSR2.out.2.2; omega
        have hq1 : q ≤ 131072 := HSR2.out.2.1
        obtain ⟨c, cap, hv, _, _⟩ := HI6.out.st.er.head (by have := HSR2.out.1; omega)
        injection hv with e1 e2 e3
        subst e1
        subst e3
        clear e2
        obtain ⟨⟨_, p1, p2⟩, _⟩ := HI6.out.st.er.elem m (by have := HSR2.out.1; omega)
        have cw : w6.cell? ⟨w4.heap.size, 0, none⟩ = some (.slice (some ⟨c, 0, none⟩) q cp) := (blk_cell HI6.out.st.wbk 0).trans rfl
        have cn : w6.cell? ⟨wr.heap.size, 0, none⟩ = some (.int .i64 (m : Int)) := by rw [hm]; exact (blk_cell HI6.out.nbx 0).trans rfl
        have cnf : w6.frozen? ⟨wr.heap.size, 0, none⟩ = false := blk_frozen HI6.out.nbx 0
        have cr : w6.cell? ⟨rb, 0, none⟩ = some (.int .i64 (r : Int)) := (blk_cell HI6.out.rbx 0).trans rfl
        have co : w6.cell? ⟨W.heap.size + 1, 4, none⟩ = some (.int .i64 n) := (blk_cell HI6.out.st.obk 4).trans rfl
        have cR : w6.cell? ⟨W.heap.size + 1 + 1, 0, none⟩ = some (.bool false) := (blk_cell HI6.out.st.rbk 0).trans rfl
        have cRf : w6.frozen? ⟨W.heap.size + 1 + 1, 0, none⟩ = false := blk_frozen HI6.out.st.rbk 0
        have hne7 : rb ≠ wr.heap.size := by have := HI6.out.h2; omega
        have hne8 : W.heap.size + 1 ≠ wr.heap.size := by have := HGW.out; omega
        have HKV : Aside0 (kv (pa l m) = ((pa l m).f0.f1, (pa l m).f1)) := ⟨rfl⟩
        obtain ⟨y1, hy1⟩ : ∃ y, y = (pa l m).f0.f1 := ⟨_, rfl⟩
        obtain ⟨y2, hy2⟩ : ∃ y, y = (pa l m).f1 := ⟨_, rfl⟩
        rw [← hy1] at p1 HKV
        rw [← hy2] at p2 HKV
        have hle : 1 ≤ 8 - 1 - 1 := by decide
        obtain ⟨x1, x2⟩ := x
        have HML : Aside0 (m < l.length) := ⟨by have := HSR2.out.1; omega⟩
        have wm : IntKind.i64.wrap ((m : Int) + 1) = (m : Int) + 1 := IntWalk.i64_in _ (by omega)
        have d0 : decide ((q : Int) ≤ (m : Int)) = false := decide_eq_false (by omega)
        clear HI hlen hm hy1 hy2 hcell hpb hpl5 hsz hw5
        by_cases hx1 : x1 = y1
        · by_cases hx2 : x2 = y2
          · subst hx1
            subst hx2
            have HMO : Aside0 (GoI W W.heap.size (W.heap.size + 1) (W.heap.size + 1 + 1) w4.heap.size (w4.heap.size + 1) g b g2 b2 (w4.heap.size + 2) room bits l (.slice (some ⟨c, 0, none⟩) q cp) kind oth key v n keys pl rb wr.heap.size w5.heap.size r Ds (pre ++ [(x1, x2)]) (w6.setCell ⟨wr.heap.size, 0, none⟩ (.int .i64 ((m : Int) + 1)))) := ⟨by rw [HM.out]; exact HI6.out.more (x1, x2)⟩
            have HFN : Aside0 (Fr (fun i => i = wr.heap.size) w6 (w6.setCell ⟨wr.heap.size, 0, none⟩ (.int .i64 ((m : Int) + 1)))) := ⟨(Fr.refl (fun i => i = wr.heap.size) w6).setCell (p := ⟨wr.heap.size, 0, none⟩) (.inl rfl) _⟩
            by_cases hr0 : r = 0
            · subst hr0
              by_cases hn1 : (m : Int) + 1 = n
              · have HN1 := Aside0.mk hn1
                have e7 : ((m : Int) + 1 == n) = true := beq_iff_eq.mpr hn1
                clear hn1
                gi_wp2
                exact ⟨HFN.out.keepsFrom (fun i hi => by have := HGW.out; omega), .inr ⟨rfl, rfl, by rw [List.length_append, List.length_singleton, ← HM.out, ← HN1.out]; rfl, HMO.out⟩⟩
              · have e7 : ((m : Int) + 1 == n) = false := beq_eq_false_iff_ne.mpr hn1
                clear hn1
                gi_wp2
                exact ⟨HFN.out.keepsFrom (fun i hi => by have := HGW.out; omega), HFN.out.keepCells (fun i hi => by have := HGW.out; omega), HMO.out⟩
            · have e6 : ((r : Int) == 0) = false := beq_eq_false_iff_ne.mpr (by omega)
              gi_wp2
              exact ⟨HFN.out.keepsFrom (fun i hi => by have := HGW.out; omega), HFN.out.keepCells (fun i hi => by have := HGW.out; omega), HMO.out⟩
          · have e5 : (x2 != y2) = true := bne_iff_ne.mpr hx2
            subst hx1
            have HX2 := Aside0.mk hx2
            clear hx2
            gi_wp2
            exact ⟨((Fr.refl (fun i => i = W.heap.size + 1 + 1) w6).setCell (p := ⟨W.heap.size + 1 + 1, 0, none⟩) (.inl rfl) _).keepsFrom (fun i hi => by have := HGW.out; omega), .inl ⟨rfl, pre, _, rfl, by rw [← HM.out]; exact HML.out, by rw [← HM.out, HKV.out]; exact fun h => HX2.out (congrArg Prod.snd h).symm⟩⟩
        · have e5 : (x1 != y1) = true := bne_iff_ne.mpr hx1
          have HX1 := Aside0.mk hx1
          clear hx1
          gi_wp2
          exact ⟨((Fr.refl (fun i => i = W.heap.size + 1 + 1) w6).setCell (p := ⟨W.heap.size + 1 + 1, 0, none⟩) (.inl rfl) _).keepsFrom (fun i hi => by have := HGW.out; omega), .inl ⟨rfl, pre, _, rfl, by rw [← HM.out]; exact HML.out, by rw [← HM.out, HKV.out]; exact fun h => HX1.out (congrArg Prod.fst h).symm⟩⟩
      case done =>
        rintro D ys w6 hD ⟨l', hsrt, rfl⟩ HI hK
        subst ha0
        obtain rfl := HSR.out.uniq hsrt HFIT.out.wf
        have HI6 := Aside0.mk HI
        have hlq : (l'.map kv).length = q := by rw [List.length_map]; exact HSR2.out.1.symm
        have HLQ := Aside0.mk hlq
        have HK6 := Aside0.mk hK
        have HD6 := Aside0.mk hD
        have cw : w6.cell? ⟨w4.heap.size, 0, none⟩ = some (.slice A q cp) := (blk_cell HI6.out.st.wbk 0).trans rfl
        have cn : w6.cell? ⟨wr.heap.size, 0, none⟩ = some (.int .i64 (q : Int)) := by rw [← HLQ.out]; exact (blk_cell HI6.out.nbx 0).trans rfl
        have cr : w6.cell? ⟨rb, 0, none⟩ = some (.int .i64 (r : Int)) := (blk_cell HI6.out.rbx 0).trans rfl
        clear hD hsrt HI hK hlq hcell hpb hpl5 hsz hw5
        go_wp2_with (fail)
        go_roundg gk1
        case measure => omega
        case rel =>
          have hb := (Below.refl w6.heap.size w6).alloc (Nat.le_refl _) (Obj.cells #[.int .i64 ((r : Int) + 1)] 3)
          exact ⟨r + 1, D :: Ds, by omega, ⟨by have := HK.out; omega⟩, ⟨by rw [HDS.out]; rfl⟩, ⟨HI6.out.st.below (hb.mono HI6.out.st.hN)⟩, ⟨heap_alloc_new w6 _⟩, ⟨HI6.out.st.hN⟩, ⟨(HI6.out.ds.cons HI6.out.hD HD6.out (by have := HI6.out.h1; have := HI6.out.h2; have := HI6.out.h3; omega) HK6.out).below (DsOk.lt (HI6.out.ds.cons HI6.out.hD HD6.out (by have := HI6.out.h1; have := HI6.out.h2; have := HI6.out.h3; omega) HK6.out)) hb⟩⟩
      case stop =>
        rintro D c pre Wl hD hSp hX hK
        rcases hX with ⟨rfl, pre0, x, he, _, hx⟩ | ⟨rfl, hr0, hn, HI⟩
        · exact (srt_no HSR.out HFIT.out.wf hSp he hx).elim
        · subst ha0
          subst hr0
          obtain ⟨m, hm⟩ : ∃ m, m = pre.length := ⟨_, rfl⟩
          have HI6 := Aside0.mk HI
          have HK6 := Aside0.mk hK
          have HD6 := Aside0.mk hD
          have cw : Wl.cell? ⟨w4.heap.size, 0, none⟩ = some (.slice A q cp) := (blk_cell HI6.out.st.wbk 0).trans rfl
          have cn : Wl.cell? ⟨wr.heap.size, 0, none⟩ = some (.int .i64 (m : Int)) := by rw [hm]; exact (blk_cell HI6.out.nbx 0).trans rfl
          have cr : Wl.cell? ⟨rb, 0, none⟩ = some (.int .i64 0) := (blk_cell HI6.out.rbx 0).trans rfl
          have co : Wl.cell? ⟨W.heap.size + 1, 4, none⟩ = some (.int .i64 n) := (blk_cell HI6.out.st.obk 4).trans rfl
          have e7 : ((m : Int) == n) = true := beq_iff_eq.mpr (by rw [hm]; exact hn)
          clear hD hSp hK hm hn HI hcell hpb hpl5 hsz hw5
          gi_wp2
          by_cases hmq : m = q
          · have e8 : ((m : Int) != (q : Int)) = false := by rw [hmq]; exact bne_self_eq_false' (a := (q : Int))
            clear hmq
            go_wp2_with (fail)
            go_roundg gk1
            case measure => omega
            case rel =>
              have hb := (Below.refl Wl.heap.size Wl).alloc (Nat.le_refl _) (Obj.cells #[.int .i64 (((0 + 1 : Nat)) : Int)] 3)
              exact ⟨0 + 1, D :: Ds, by omega, ⟨by have := HK.out; omega⟩, ⟨by rw [HDS.out]; rfl⟩, ⟨HI6.out.st.below (hb.mono HI6.out.st.hN)⟩, ⟨heap_alloc_new Wl _⟩, ⟨HI6.out.st.hN⟩, ⟨(HI6.out.ds.cons HI6.out.hD HD6.out (by have := HI6.out.h1; have := HI6.out.h2; have := HI6.out.h3; omega) HK6.out).below (DsOk.lt (HI6.out.ds.cons HI6.out.hD HD6.out (by have := HI6.out.h1; have := HI6.out.h2; have := HI6.out.h3; omega) HK6.out)) hb⟩⟩
          · have e8 : ((m : Int) != (q : Int)) = true := bne_iff_ne.mpr (by omega)
            clear hmq
            go_wp2_with (fail)
            go_roundg gk1
            case measure => omega
            case rel =>
              have hb := (Below.refl Wl.heap.size Wl).alloc (Nat.le_refl _) (Obj.cells #[.int .i64 (((0 + 1 : Nat)) : Int)] 3)
              exact ⟨0 + 1, D :: Ds, by omega, ⟨by have := HK.out; omega⟩, ⟨by rw [HDS.out]; rfl⟩, ⟨HI6.out.st.below (hb.mono HI6.out.st.hN)⟩, ⟨heap_alloc_new Wl _⟩, ⟨HI6.out.st.hN⟩, ⟨(HI6.out.ds.cons HI6.out.hD HD6.out (by have := HI6.out.h1; have := HI6.out.h2; have := HI6.out.h3; omega) HK6.out).below (DsOk.lt (HI6.out.ds.cons HI6.out.hD HD6.out (by have := HI6.out.h1; have := HI6.out.h2; have := HI6.out.h3; omega) HK6.out)) hb⟩⟩

    · obtain rfl : r = 2 := by omega
      have HIY : Aside0 (Rt wr g2 b2 room keys pl) := ⟨HG.out.y⟩
      have hc1 : wr.cell? ⟨W.heap.size, 1, none⟩ = some (.pointer (some ⟨g2, 0, none⟩)) := (blk_cell HG.out.pbk 1).trans rfl
      obtain ⟨c2, ⟨r0, r1, r2⟩, _, _⟩ := HIY.out.cells
      have z1 : W.heap.size < wr.heap.size := blk_lt HG.out.pbk
      have z2 : g2 < wr.heap.size := HIY.out.lt
      go_upto_region 23 with (fail)
      obtain ⟨w7, hw7⟩ : ∃ w7, w7 = ((wr.alloc (Obj.cells #[.int .i64 0] 3)).alloc (Obj.cells #[.bool false] 4)).alloc (Obj.cells #[.int .i64 room, .int .i64 keys, .slice (some ⟨b2, 0, none⟩) pl.length c2] 36) := ⟨_, rfl⟩
      rw [← hw7]
      have y1 : (wr.alloc (Obj.cells #[.int .i64 0] 3)).heap.size = wr.heap.size + 1 := World.size_alloc _ _
      have y2 : ((wr.alloc (Obj.cells #[.int .i64 0] 3)).alloc (Obj.cells #[.bool false] 4)).heap.size = wr.heap.size + 1 + 1 := by rw [World.size_alloc, y1]
      have y3 : w7.heap.size = wr.heap.size + 1 + 1 + 1 := by rw [hw7, World.size_alloc, y2]
      have hB7 : Below wr.heap.size wr w7 := by rw [hw7]; exact (((Below.refl _ wr).alloc (Nat.le_refl _) _).alloc (by rw [y1]; omega) _).alloc (by rw [y2]; omega) _
      have hn7 : w7.heap[wr.heap.size]? = some (.cells #[.int .i64 0] 3 (0, 0)) := by
        rw [hw7]
        exact (Below.heap_alloc _ _ _ (by rw [y2]; omega)).trans ((Below.heap_alloc _ _ _ (by rw [y1]; omega)).trans (heap_alloc_new wr _))
      have ht7 : w7.heap[wr.heap.size + 1]? = some (.cells #[.bool false] 4 (0, 0)) := by
        have := heap_alloc_new (wr.alloc (Obj.cells #[.int .i64 0] 3)) (Obj.cells #[.bool false] 4)
        rw [y1] at this
        rw [hw7]
        exact (Below.heap_alloc _ _ _ (by rw [y2]; omega)).trans this
      have hc7 : w7.heap[wr.heap.size + 1 + 1]? = some (.cells #[.int .i64 room, .int .i64 keys, .slice (some ⟨b2, 0, none⟩) pl.length c2] 36 (0, 0)) := by
        have := heap_alloc_new ((wr.alloc (Obj.cells #[.int .i64 0] 3)).alloc (Obj.cells #[.bool false] 4)) (Obj.cells #[.int .i64 room, .int .i64 keys, .slice (some ⟨b2, 0, none⟩) pl.length c2] 36)
        rw [y2] at this
        rw [hw7]
        exact this
      have HG7 : Aside0 (GoS W W.heap.size (W.heap.size + 1) (W.heap.size + 1 + 1) w4.heap.size (w4.heap.size + 1) g b g2 b2 (w4.heap.size + 2) room bits l (.slice A q cp) kind oth key v n keys pl keys pl w7) := ⟨HG.out.below (hB7.mono HG.out.hN)⟩
      have HD7 : Aside0 (DsOk (w4.heap.size + 2) Ds w7 ∧ ∀ D ∈ Ds, D < wr.heap.size) := ⟨HDO.out.below HDO.out.lt hB7, HDO.out.lt⟩
      have H7 := Aside0.mk (And.intro y3 (And.intro hn7 (And.intro ht7 hc7)))
      have hbe : Below w7.heap.size w7 (w7.alloc (Obj.cells #[] 79)) := (Below.refl _ w7).alloc (Nat.le_refl _) _
      have HBE := Aside0.mk hbe
      have q1 : (w7.alloc (Obj.cells #[] 79)).cell? ⟨W.heap.size, 1, none⟩ = some (.pointer (some ⟨g2, 0, none⟩)) := (blk_cell (blk_below HG7.out.pbk hbe) 1).trans rfl
      have q2 : (w7.alloc (Obj.cells #[] 79)).cell? ⟨g2, 2, none⟩ = some (.slice (some ⟨b2, 0, none⟩) pl.length c2) := (hbe.cell (p := ⟨g2, 2, none⟩) (show g2 < w7.heap.size by omega)).trans ((hB7.cell (p := ⟨g2, 2, none⟩) z2).trans r2)
      clear hw7 y1 y2 y3 hB7 hn7 ht7 hc7 hbe r0 r1 r2 z1 z2 hc1 HG HDO HIY c7 c7f
      go_wp2_with (first
        | ((with_reducible refine gate_builtin (b := .append) rfl ?_); refine er_copy (Wx := w7) (g2 := g2) (b2 := b2) (c2 := c2) (m := pl.length) (room := room) (k := keys) (xs := pl) (hgd := ?_) (s := .tmp 85) (x := .tmp 90) (ho := ?_) (hs := ?_) (hx := ?_) (hm := rfl) (hr := HG7.out.y) (hl := by have := HPL.out; omega) (hp := HPP.out) ?_; exact rfl; exact rfl; exact rfl; exact rfl; intro cb cap w8 m1 m2 m3; have M1 := Aside0.mk m1; have M2 := Aside0.mk m2; have M3 := Aside0.mk m3; have k2 : w8.cell? ⟨wr.heap.size + 1 + 1, 2, none⟩ = some (.slice (some ⟨b2, 0, none⟩) pl.length c2) := (blk_cell (blk_below H7.out.2.2.2 m3) 2).trans rfl; have k2f : w8.frozen? ⟨wr.heap.size + 1 + 1, 2, none⟩ = false := blk_frozen (blk_below H7.out.2.2.2 m3) 2; clear m1 m2 m3))
      clear q1 q2 k2 k2f
      have HFIT := Aside0.mk HG7.out.x.2.1
      refine (wpIn_wide (n := 8)).1 ?_
      refine wpIn_act ?_
      intro a0 ha0
      refine wpIn_world ?_
      intro w9 hw9
      have hs9 : w9.heap.size = w8.heap.size := by rw [hw9]; simp [World.setCell]
      have hlt8 : w7.heap.size ≤ w8.heap.size := M3.out.size
      have hj : GoJ W W.heap.size (W.heap.size + 1) (W.heap.size + 1 + 1) w4.heap.size (w4.heap.size + 1) g b g2 b2 (w4.heap.size + 2) room bits l (.slice A q cp) kind oth key v n keys pl p wr.heap.size (wr.heap.size + 1) (wr.heap.size + 1 + 1) cb w9.heap.size Ds [] w9 := by
        have e7 := H7.out.1
        have e8 := M2.out
        have e9 : cb < w8.heap.size := Kd.R_lt M1.out cb (by simp [Value.ownBlock])
        have hN := HG7.out.hN
        have hrl : w4.heap.size + 2 ≤ wr.heap.size := Nat.le_trans HNR.out (Nat.le_of_lt (blk_lt HRB.out))
        have hf : Fr (fun i => i = wr.heap.size + 1 + 1) w8 w9 := by rw [hw9]; exact (Fr.refl (fun i => i = wr.heap.size + 1 + 1) w8).setCell (p := ⟨wr.heap.size + 1 + 1, 2, none⟩) (.inl rfl) _
        refine ⟨?_, hf.blk (blk_below H7.out.2.1 M3.out) (by omega), hf.blk (blk_below H7.out.2.2.1 M3.out) (by omega), ⟨cap, ?_, ?_⟩, (HD7.out.1.below HD7.out.1.lt M3.out).fr hf (fun D hD e => by have := HD7.out.2 D hD; omega), hrl, by omega, by omega, by omega, by omega, fun D hD => HD7.out.2 D hD⟩
        · refine (HG7.out.below (M3.out.mono HG7.out.hN)).below ⟨hf.os, hf.tape, hf.output, hf.size, fun i hi => hf.block i (by omega) (by omega)⟩
        · have := blk_set (blk_below H7.out.2.2.2 M3.out) 2 (.slice (some ⟨cb, 0, none⟩) pl.length cap)
          rw [List.length_map, hw9]
          simpa using this
        · rw [List.length_map, hw9]
          exact Kd.R_far M1.out (fun k hk => by rw [hk]; show cb ≠ wr.heap.size + 1 + 1; omega) _
      have HJ := Aside0.mk hj
      have hcell : w9.cell? ⟨w4.heap.size + 1, 0, none⟩ = some (.pointer (some ⟨g, 0, none⟩)) := (blk_cell HJ.out.st.qbk 0).trans rfl
      have hpb : w4.heap.size + 1 < w9.heap.size := by have := HJ.out.st.hN; omega
      have hpl5 : pl.length ≤ 131072 := HPL.out
      have HGW : Aside0 (g < w9.heap.size ∧ b < w9.heap.size ∧ W.heap.size + 1 + 1 < w9.heap.size ∧ wr.heap.size + 1 < w9.heap.size ∧ W.heap.size + 1 + 1 < wr.heap.size) := ⟨by have := HJ.out.st.hN; have := HW4.out; have := HJ.out.st.ord.g0; have := HJ.out.st.ord.b0; have := HJ.out.h1; have := HJ.out.h3; have := HJ.out.h4; have := HJ.out.h5; omega⟩
      clear hj hlt8 hs9
      refine wpIn_rangeFunc_ownG rfl (by decide) (gf := 30) (lb := #[.pointer (some ⟨w4.heap.size + 1, 0, none⟩)]) (by rw [ha0]; exact rfl) trivial (enters_of Try.func30 (by kernel_rfl) rfl)
        (all1_seq 7 (by decide) (show Ix w9 g b room keys bits pl from HJ.out.st.x.1) hpl5 hcell hpb) (fun h k => h.trans k) (fun W l o o' _ h hc _ => keepCells_b W l o o' h hc) (Below.refl _ _) (fun _ => rfl)
        (GoJ W W.heap.size (W.heap.size + 1) (W.heap.size + 1 + 1) w4.heap.size (w4.heap.size + 1) g b g2 b2 (w4.heap.size + 2) room bits l (.slice A q cp) kind oth key v n keys pl p wr.heap.size (wr.heap.size + 1) (wr.heap.size + 1 + 1) cb w9.heap.size Ds) (GoX (fun _ _ => False) 0 0 l n) (GoJ.own _ _ _ _ _ _ _ _ _ _ _ _ _ _ _ _ _ _ _ _ _ _ _ _ _ _ _ _ _) (GoX.own (fun _ _ _ _ h _ _ => h) _ _ _ _) HJ.out
        (fun x => { tmps := (((a0.tmps.setIfInBounds 94 (.int .u64 x.1)).setIfInBounds 95 (.int .i64 x.2)).setIfInBounds 14 (.int .u64 x.1)).setIfInBounds 15 (.int .i64 x.2), defers := [] }) ?assign ?body ?done ?stop
      case assign =>
        intro l x Wl Kl hK
        subst ha0
        clear hcell hpb hpl5 hw9
        dsimp only [encKV]
        gi_wp2
        exact hK
      case body =>
        rintro ll pre x w6 HI hlen
        subst ha0
        have HI6 := Aside0.mk HI
        obtain ⟨m, hm⟩ : ∃ m, m = pre.length := ⟨_, rfl⟩
        have HM := Aside0.mk hm
        have hmq : m < q := by have := HSR2.out.2.2; omega
        have hq1 : q ≤ 131072 := HSR2.out.2.1
        obtain ⟨c, cap', hv, _, _⟩ := HI6.out.st.er.head (by have := HSR2.out.1; omega)
        injection hv with e1 e2 e3
        subst e1
        subst e3
        clear e2
        obtain ⟨⟨_, p1, p2⟩, _⟩ := HI6.out.st.er.elem m (by have := HSR2.out.1; omega)
        have cw : w6.cell? ⟨w4.heap.size, 0, none⟩ = some (.slice (some ⟨c, 0, none⟩) q cp) := (blk_cell HI6.out.st.wbk 0).trans rfl
        have cn : w6.cell? ⟨wr.heap.size, 0, none⟩ = some (.int .i64 (m : Int)) := by rw [hm]; exact (blk_cell HI6.out.nbx 0).trans rfl
        have cnf : w6.frozen? ⟨wr.heap.size, 0, none⟩ = false := blk_frozen HI6.out.nbx 0
        have co : w6.cell? ⟨W.heap.size + 1, 2, none⟩ = some (.int .u64 key) := (blk_cell HI6.out.st.obk 2).trans rfl
        have cR : w6.cell? ⟨W.heap.size + 1 + 1, 0, none⟩ = some (.bool false) := (blk_cell HI6.out.st.rbk 0).trans rfl
        have cRf : w6.frozen? ⟨W.heap.size + 1 + 1, 0, none⟩ = false := blk_frozen HI6.out.st.rbk 0
        have cP0 : w6.cell? ⟨W.heap.size, 0, none⟩ = some (.pointer (some ⟨g, 0, none⟩)) := (blk_cell HI6.out.st.pbk 0).trans rfl
        have cP1 : w6.cell? ⟨W.heap.size, 1, none⟩ = some (.pointer (some ⟨g2, 0, none⟩)) := (blk_cell HI6.out.st.pbk 1).trans rfl
        have HKV : Aside0 (kv (pa l m) = ((pa l m).f0.f1, (pa l m).f1)) := ⟨rfl⟩
        obtain ⟨y1, hy1⟩ : ∃ y, y = (pa l m).f0.f1 := ⟨_, rfl⟩
        obtain ⟨y2, hy2⟩ : ∃ y, y = (pa l m).f1 := ⟨_, rfl⟩
        rw [← hy1] at p1 HKV
        rw [← hy2] at p2 HKV
        have hle : 1 ≤ 8 - 1 - 1 := by decide
        obtain ⟨x1, x2⟩ := x
        have HML : Aside0 (m < l.length) := ⟨by have := HSR2.out.1; omega⟩
        have wm : IntKind.i64.wrap ((m : Int) + 1) = (m : Int) + 1 := IntWalk.i64_in _ (by omega)
        have d0 : decide ((q : Int) ≤ (m : Int)) = false := decide_eq_false (by omega)
        clear HI hlen hm hy1 hy2 hcell hpb hpl5 hw9
        by_cases hx1 : x1 = y1
        · by_cases hx2 : x2 = y2
          · subst hx1
            subst hx2
            by_cases hm0 : m = 0
            · subst hm0
              obtain rfl : pre = [] := List.eq_nil_of_length_eq_zero HM.out.symm
              have X44 : Aside0 (Calls Try.prog 44 #[.agg #[.pointer (some ⟨g, 0, none⟩), .pointer (some ⟨g2, 0, none⟩)], .int .u64 key] w6 fun e w' => e = .returned (.bool (tuT room keys pl p)) ∧ Fr (fun i => i = g ∨ i = b) w6 w' ∧ (GoJ W W.heap.size (W.heap.size + 1) (W.heap.size + 1 + 1) w4.heap.size (w4.heap.size + 1) g b g2 b2 (w4.heap.size + 2) room bits l (.slice (some ⟨c, 0, none⟩) q cp) kind oth key v n keys pl p wr.heap.size (wr.heap.size + 1) (wr.heap.size + 1 + 1) cb w9.heap.size Ds [(x1, x2)] ((w'.setCell ⟨wr.heap.size + 1, 0, none⟩ (.bool (tuT room keys pl p))).setCell ⟨wr.heap.size, 0, none⟩ (.int .i64 1)) ∧ w'.heap[wr.heap.size]? = some (.cells #[.int .i64 0] 3 (0, 0)) ∧ w'.heap[wr.heap.size + 1]? = some (.cells #[.bool false] 4 (0, 0)))) := ⟨(turn_calls _ key p HI6.out.st.x HPE.out).mono (fun e w' h => ⟨h.1, h.2.2, HI6.out.first (x1, x2) h.2.1 h.2.2⟩)⟩
              gi_wp2_with (refine ⟨trivial, ?_⟩; gi_at_call 44; refine (CallsIn.inRound ll (callsIn_wide.2 X44.out)).mono ?_; rintro e w7' ⟨rfl, f7, j7, n7, t7⟩; have F7 := Aside0.mk f7; have J7 := Aside0.mk j7; have ct7 : w7'.cell? ⟨wr.heap.size + 1, 0, none⟩ = some (.bool false) := (blk_cell t7 0).trans rfl; have ct7f := blk_frozen t7 0; have cn7 : w7'.cell? ⟨wr.heap.size, 0, none⟩ = some (.int .i64 0) := (blk_cell n7 0).trans rfl; have cn7f := blk_frozen n7 0; clear f7 j7 n7 t7)
              have HFN : Aside0 (Fr (fun i => i = g ∨ i = b ∨ i = wr.heap.size ∨ i = wr.heap.size + 1) w6 ((w7'.setCell ⟨wr.heap.size + 1, 0, none⟩ (.bool (tuT room keys pl p))).setCell ⟨wr.heap.size, 0, none⟩ (.int .i64 1))) := ⟨((F7.out.mono (S' := fun i => i = g ∨ i = b ∨ i = wr.heap.size ∨ i = wr.heap.size + 1) (fun i hi => .inl (hi.elim .inl (fun e => .inr (.inl e))))).setCell (p := ⟨wr.heap.size + 1, 0, none⟩) (.inl (.inr (.inr (.inr rfl)))) _).setCell (p := ⟨wr.heap.size, 0, none⟩) (.inl (.inr (.inr (.inl rfl)))) _⟩
              exact ⟨HFN.out.keepsFrom (fun i hi => by have := HGW.out; omega), HFN.out.keepCells (fun i hi => by have := HGW.out; omega), J7.out⟩
            · have e6 : ((m : Int) == 0) = false := beq_eq_false_iff_ne.mpr (by omega)
              have HMO : Aside0 (GoJ W W.heap.size (W.heap.size + 1) (W.heap.size + 1 + 1) w4.heap.size (w4.heap.size + 1) g b g2 b2 (w4.heap.size + 2) room bits l (.slice (some ⟨c, 0, none⟩) q cp) kind oth key v n keys pl p wr.heap.size (wr.heap.size + 1) (wr.heap.size + 1 + 1) cb w9.heap.size Ds (pre ++ [(x1, x2)]) (w6.setCell ⟨wr.heap.size, 0, none⟩ (.int .i64 ((m : Int) + 1)))) := ⟨by rw [HM.out]; exact HI6.out.more (fun e => hm0 (by rw [HM.out, e]; rfl)) (x1, x2)⟩
              have HFN : Aside0 (Fr (fun i => i = wr.heap.size) w6 (w6.setCell ⟨wr.heap.size, 0, none⟩ (.int .i64 ((m : Int) + 1)))) := ⟨(Fr.refl (fun i => i = wr.heap.size) w6).setCell (p := ⟨wr.heap.size, 0, none⟩) (.inl rfl) _⟩
              clear hm0
              gi_wp2
              exact ⟨HFN.out.keepsFrom (fun i hi => by have := HGW.out; omega), HFN.out.keepCells (fun i hi => by have := HGW.out; omega), HMO.out⟩
          · have e5 : (x2 != y2) = true := bne_iff_ne.mpr hx2
            subst hx1
            have HX2 := Aside0.mk hx2
            clear hx2
            gi_wp2
            exact ⟨((Fr.refl (fun i => i = W.heap.size + 1 + 1) w6).setCell (p := ⟨W.heap.size + 1 + 1, 0, none⟩) (.inl rfl) _).keepsFrom (fun i hi => by have := HGW.out; omega), .inl ⟨rfl, pre, _, rfl, by rw [← HM.out]; exact HML.out, by rw [← HM.out, HKV.out]; exact fun h => HX2.out (congrArg Prod.snd h).symm⟩⟩
        · have e5 : (x1 != y1) = true := bne_iff_ne.mpr hx1
          have HX1 := Aside0.mk hx1
          clear hx1
          gi_wp2
          exact ⟨((Fr.refl (fun i => i = W.heap.size + 1 + 1) w6).setCell (p := ⟨W.heap.size + 1 + 1, 0, none⟩) (.inl rfl) _).keepsFrom (fun i hi => by have := HGW.out; omega), .inl ⟨rfl, pre, _, rfl, by rw [← HM.out]; exact HML.out, by rw [← HM.out, HKV.out]; exact fun h => HX1.out (congrArg Prod.fst h).symm⟩⟩
      case done =>
        rintro D ys w6 hD ⟨l', hsrt, rfl⟩ HI hK
        subst ha0
        obtain rfl := HSR.out.uniq hsrt HFIT.out.wf
        have HI6 := Aside0.mk HI
        have hlq : (l'.map kv).length = q := by rw [List.length_map]; exact HSR2.out.1.symm
        have HLQ := Aside0.mk hlq
        have HDD : Aside0 (DsOk (w4.heap.size + 2) (D :: Ds) w6) := ⟨HI6.out.ds.cons (B := w9.heap.size) (fun D' h => by have := HI6.out.hD D' h; have := HI6.out.h2; have := HI6.out.h3; have := HI6.out.h4; have := HI6.out.h5; omega) hD (by have := HI6.out.h1; have := HI6.out.h2; have := HI6.out.h3; have := HI6.out.h4; have := HI6.out.h5; omega) hK⟩
        have hds := HDS.out
        subst hds
        clear hD hsrt HI hK hlq hcell hpb hpl5 hw9
        cases hT : tT room keys pl p (l'.map kv) with
        | false =>
          obtain ⟨hk2, hl2⟩ := tT_false (bits := bits) (key := key) hT
          have HE9 : Aside0 (GoE W W.heap.size (W.heap.size + 1) (W.heap.size + 1 + 1) w4.heap.size (w4.heap.size + 1) g b g2 b2 (w4.heap.size + 2) room bits l' (.slice A q cp) kind oth key v n (keys) (pl) (keys) (pl) wr.heap.size q (D :: Ds) w6) := ⟨⟨by have := HI6.out.st; rwa [hk2, hl2] at this, by have := HI6.out.nbx; rwa [HLQ.out] at this, HDD.out, HI6.out.h1⟩⟩
          have ct : w6.cell? ⟨wr.heap.size + 1, 0, none⟩ = some (.bool false) := by rw [← hT]; exact (blk_cell HI6.out.tbx 0).trans rfl
          obtain ⟨_, _, ⟨cR, cRf⟩, cw, cn⟩ := HE9.out.cells
          clear hk2 hl2 hT
          go_wp2_with (fail)
          refine noPanic_ret ?_
          exact goes_end (Ds := D :: Ds) HE9.out.st HE9.out.ds rfl
        | true =>
          obtain ⟨hTT, hk2, hl2⟩ := tT_true (bits := bits) (key := key) hT
          have X34 : Aside0 (Calls Try.prog 34 #[.pointer (some ⟨wr.heap.size + 1 + 1, 0, none⟩), .int .u64 key] w6 fun e w' => e = .returned (.tuple #[.int .i64 (vl pl p), .bool (us pl p)]) ∧ ∃ m, w' = w6.drewN m) := ⟨rget_calls key p HI6.out.cc HFIT.out HPE.out⟩
          have ct : w6.cell? ⟨wr.heap.size + 1, 0, none⟩ = some (.bool true) := by rw [← hT]; exact (blk_cell HI6.out.tbx 0).trans rfl
          have cP1 : w6.cell? ⟨W.heap.size, 1, none⟩ = some (.pointer (some ⟨g2, 0, none⟩)) := (blk_cell HI6.out.st.pbk 1).trans rfl
          have co : w6.cell? ⟨W.heap.size + 1, 2, none⟩ = some (.int .u64 key) := (blk_cell HI6.out.st.obk 2).trans rfl
          obtain ⟨v1, hv1⟩ : ∃ x, x = vl pl p := ⟨_, rfl⟩
          rw [← hv1] at X34
          cases hu : us pl p with
          | true =>
            have e2 : tuK room keys pl p = keys - 1 := by unfold tuK; rw [hu]; rfl
            have e3 : tuL bits room keys pl p key = dropP bits pl p := by unfold tuL; rw [hu]; rfl
            rw [e2] at hk2
            rw [e3] at hl2
            rw [hu] at X34
            have HE6 : Aside0 (GoE W W.heap.size (W.heap.size + 1) (W.heap.size + 1 + 1) w4.heap.size (w4.heap.size + 1) g b g2 b2 (w4.heap.size + 2) room bits l' (.slice A q cp) kind oth key v n (keys - 1) (dropP bits pl p) (keys) (pl) wr.heap.size q (D :: Ds) w6) := ⟨⟨by have := HI6.out.st; rwa [hk2, hl2] at this, by have := HI6.out.nbx; rwa [HLQ.out] at this, HDD.out, HI6.out.h1⟩⟩
            have HCN : Aside0 (∀ m, ∀ w8', Rt w8' g2 b2 room (keys - 1) (dropP bits pl p) → Fr (fun i => i = g2 ∨ i = b2) (w6.drewN m) w8' → (GoE W W.heap.size (W.heap.size + 1) (W.heap.size + 1 + 1) w4.heap.size (w4.heap.size + 1) g b g2 b2 (w4.heap.size + 2) room bits l' (.slice A q cp) kind oth key v n (keys - 1) (dropP bits pl p) (keys - 1) (dropP bits pl p) wr.heap.size q (D :: Ds) w8')) := ⟨fun m w8' h1 h2 => (HE6.out.drewN m).ycall h1 h2⟩
            have X35 : Aside0 (∀ m, Calls Try.prog 35 #[.pointer (some ⟨g2, 0, none⟩), .int .u64 key] (w6.drewN m) fun e w' => e = .returned (.tuple #[.int .i64 v1, .bool true]) ∧ Rt w' g2 b2 room (keys - 1) (dropP bits pl p) ∧ Fr (fun k => k = g2 ∨ k = b2) (w6.drewN m) w') := ⟨fun m => by rw [hv1]; exact rdrop_done key p ((HE6.out.drewN m).st.y) HFIT.out HPE.out HRM.out hu⟩
            clear hk2 hl2 hT hu
            go_wp2_with (first
              | ((with_reducible refine gate_callee (f := 34) rfl ?_); (try (refine gate_guard (by rfl) ?_; dsimp only)); refine goesL_ (some 135) rfl rfl Try.func34 (by kernel_rfl) rfl #[.pointer (some ⟨wr.heap.size + 1 + 1, 0, none⟩), .int .u64 key] rfl (by (try simp only [List.map_toArray, List.map_cons, List.map_nil]); first | done | rfl) ?_; (with_reducible refine (X34.out).mono ?_); rintro e w7' ⟨rfl, m4, h4⟩; refine ⟨_, rfl, ?_⟩; subst w7')
              | ((with_reducible refine gate_callee (f := 35) rfl ?_); (try (refine gate_guard (by rfl) ?_; dsimp only)); refine goesL_ (some 143) rfl rfl Try.func35 (by kernel_rfl) rfl #[.pointer (some ⟨g2, 0, none⟩), .int .u64 key] rfl (by (try simp only [List.map_toArray, List.map_cons, List.map_nil]); first | done | rfl) ?_; (with_reducible refine (X35.out m4).mono ?_); rintro e w8' ⟨rfl, hr8, hf8⟩; refine ⟨_, rfl, ?_⟩; have HE8 := Aside0.mk (HCN.out m4 w8' hr8 hf8); (obtain ⟨⟨cP8, cP9⟩, _, _, cw8, cn8⟩ := HE8.out.cells); have HPL8 := Aside0.mk (placed_calls HE8.out.st.x.1 HE8.out.st.x.2.1 HE8.out.st.y); clear hr8 hf8)
              | (go_at_call 24; (with_reducible refine (HPL8.out).mono ?_); rintro e w9' ⟨rfl, hb9⟩; have HE9 := Aside0.mk (HE8.out.below hb9); (obtain ⟨_, _, ⟨cR9, cR9f⟩, _, _⟩ := HE9.out.cells); clear hb9))
            refine noPanic_ret ?_
            exact goes_end (Ds := D :: Ds) HE9.out.st HE9.out.ds rfl
          | false =>
            have hkr : keys ≠ room := by unfold tuT at hTT; rw [hu] at hTT; simpa using hTT
            have e2 : tuK room keys pl p = keys + 1 := by unfold tuK; rw [hu, if_neg (by decide), if_neg hkr]
            have e3 : tuL bits room keys pl p key = pl.set p ⟨⟨true, key⟩, 4242⟩ := by unfold tuL; rw [hu, if_neg (by decide), if_neg hkr]
            rw [e2] at hk2
            rw [e3] at hl2
            rw [hu] at X34
            have HE6 : Aside0 (GoE W W.heap.size (W.heap.size + 1) (W.heap.size + 1 + 1) w4.heap.size (w4.heap.size + 1) g b g2 b2 (w4.heap.size + 2) room bits l' (.slice A q cp) kind oth key v n (keys + 1) (pl.set p ⟨⟨true, key⟩, 4242⟩) (keys) (pl) wr.heap.size q (D :: Ds) w6) := ⟨⟨by have := HI6.out.st; rwa [hk2, hl2] at this, by have := HI6.out.nbx; rwa [HLQ.out] at this, HDD.out, HI6.out.h1⟩⟩
            have HCN : Aside0 (∀ m, ∀ w8', Rt w8' g2 b2 room (keys + 1) (pl.set p ⟨⟨true, key⟩, 4242⟩) → Fr (fun i => i = g2 ∨ i = b2) (w6.drewN m) w8' → (GoE W W.heap.size (W.heap.size + 1) (W.heap.size + 1 + 1) w4.heap.size (w4.heap.size + 1) g b g2 b2 (w4.heap.size + 2) room bits l' (.slice A q cp) kind oth key v n (keys + 1) (pl.set p ⟨⟨true, key⟩, 4242⟩) (keys + 1) (pl.set p ⟨⟨true, key⟩, 4242⟩) wr.heap.size q (D :: Ds) w8')) := ⟨fun m w8' h1 h2 => (HE6.out.drewN m).ycall h1 h2⟩
            have X33 : Aside0 (∀ m, Calls Try.prog 33 #[.pointer (some ⟨g2, 0, none⟩), .int .u64 key, .int .i64 4242] (w6.drewN m) fun e w' => e = .returned (.int .i64 0) ∧ Rt w' g2 b2 room (keys + 1) (pl.set p ⟨⟨true, key⟩, 4242⟩) ∧ Fr (fun k => k = g2 ∨ k = b2) (w6.drewN m) w') := ⟨fun m => rput_done key 4242 p ((HE6.out.drewN m).st.y) HFIT.out HPE.out HRM.out hu hkr⟩
            clear hkr
            clear hk2 hl2 hT hu
            go_wp2_with (first
              | ((with_reducible refine gate_callee (f := 34) rfl ?_); (try (refine gate_guard (by rfl) ?_; dsimp only)); refine goesL_ (some 135) rfl rfl Try.func34 (by kernel_rfl) rfl #[.pointer (some ⟨wr.heap.size + 1 + 1, 0, none⟩), .int .u64 key] rfl (by (try simp only [List.map_toArray, List.map_cons, List.map_nil]); first | done | rfl) ?_; (with_reducible refine (X34.out).mono ?_); rintro e w7' ⟨rfl, m4, h4⟩; refine ⟨_, rfl, ?_⟩; subst w7')
              | ((with_reducible refine gate_callee (f := 33) rfl ?_); (try (refine gate_guard (by rfl) ?_; dsimp only)); refine goesL_ (some 148) rfl rfl Try.func33 (by kernel_rfl) rfl #[.pointer (some ⟨g2, 0, none⟩), .int .u64 key, .int .i64 4242] rfl (by (try simp only [List.map_toArray, List.map_cons, List.map_nil]); first | done | rfl) ?_; (with_reducible refine (X33.out m4).mono ?_); rintro e w8' ⟨rfl, hr8, hf8⟩; refine ⟨_, rfl, ?_⟩; have HE8 := Aside0.mk (HCN.out m4 w8' hr8 hf8); (obtain ⟨⟨cP8, cP9⟩, _, _, cw8, cn8⟩ := HE8.out.cells); have HPL8 := Aside0.mk (placed_calls HE8.out.st.x.1 HE8.out.st.x.2.1 HE8.out.st.y); clear hr8 hf8)
              | (go_at_call 24; (with_reducible refine (HPL8.out).mono ?_); rintro e w9' ⟨rfl, hb9⟩; have HE9 := Aside0.mk (HE8.out.below hb9); (obtain ⟨_, _, ⟨cR9, cR9f⟩, _, _⟩ := HE9.out.cells); clear hb9))
            refine noPanic_ret ?_
            exact goes_end (Ds := D :: Ds) HE9.out.st HE9.out.ds rfl
      case stop =>
        rintro D c pre Wl hD hSp hX hK
        rcases hX with ⟨rfl, pre0, x, he, _, hx⟩ | ⟨_, _, _, hf⟩
        · exact (srt_no HSR.out HFIT.out.wf hSp he hx).elim
        · exact hf.elim

end Go.Proofs.Ytmcaoecmjibegaa.PIx
