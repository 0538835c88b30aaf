/- BitmapOrder. -/
import Derived.Test.YtgcelkndgjjbdaaBmI
import Derived.IntWalk
import Derived.Deep.CutRange
namespace Go.Proofs.Ytgcelkndgjjbdaa.PBm
open Go.RowKit Go.Proofs.YtgcelkndgjjbdaaW.PrintWords Go.Proofs.YtgcelkndgjjbdaaW.PrintLast Go.Proofs.YtgcelkndgjjbdaaW.PrintMore
set_option linter.unusedVariables false
set_option linter.unusedSimpArgs false

theorem Bm.drewN {W : World} {g : Nat} {S : St} (h : Bm W g S) (n : Nat) : Bm (W.drewN n) g S := h
theorem eqB_self (S : St) : eqB S S = true := eqB_iff.mpr fun _ _ => rfl

theorem neg_lt_tmod (a : Int) {m : Int} (hm : 0 < m) : -m < a.tmod m := by
  by_cases h : 0 ≤ a
  · have := Int.tmod_nonneg m h
    omega
  · have h1 := Int.tmod_lt_of_pos (-a) hm
    rw [Int.neg_tmod] at h1
    omega
theorem lowerB {w w' : World} {B C : Nat} (h : Below B w w') (hc : C ≤ B) : Below C w w' := ⟨h.os, h.tape, h.output, h.size, fun k hk => h.block k (by omega)⟩

theorem has_put {S : St} {t : Int} (h : tickB t = true) : hasB (put S t) t = true := by
  unfold hasB put
  rw [h, if_pos rfl, up_self]
  rfl
theorem del_put {S : St} {t : Int} (h : tickB t = true) (h2 : hasB S t = false) (x : Nat) : del (put S t) t x = S x := by
  unfold hasB at h2
  rw [h, Bool.true_and] at h2
  unfold del put
  rw [if_pos h, if_pos h]
  unfold up
  by_cases e : x = t.toNat
  · rw [if_pos e, e, h2]
  · rw [if_neg e, if_neg e]
theorem eqB_put {S : St} {t : Int} (h : tickB t = true) (h2 : hasB S t = false) : eqB S (put S t) = false := by
  unfold hasB at h2
  rw [h, Bool.true_and] at h2
  have h4 : 0 ≤ t ∧ t < 262144 := of_decide_eq_true h
  cases e : eqB S (put S t)
  · rfl
  · have := eqB_iff.mp e t.toNat (by omega)
    unfold put at this
    rw [if_pos h, up_self, h2] at this
    cases this

/-- Where the law stands: what is left (L), both maps. -/
structure Ord (W : World) (g g2 : Nat) (S : St) (w : World) (v : Value) (L : List Int) (T : St) : Prop where
  li : Li w g v L
  m : Bm w g S
  o : Bm w g2 T
  goes : Goes S T L
  bel : Below W.heap.size W w
  g_ : g = W.heap.size
  lt : g < g2

set_option maxHeartbeats 8000000 in
set_option maxRecDepth 100000 in
theorem order_calls {W : World} {A A2 : Option Addr} {n cap n2 cap2 : Nat} {f f2 : Nat → Int} (more : Int) (hl : Ints W A n f) (hn : n ≤ 17592186044416) (hl2 : Ints W A2 n2 f2) (hn2 : n2 ≤ 9223372036854775807) :
    Calls Try.prog 3 #[.slice A n cap, .slice A2 n2 cap2, .int .i64 more] W fun e w' => e = .returned (.bool true) ∧ Below W.heap.size W w' := by
  have HL := Aside0.mk (filled_calls (cap := cap) hl (by omega))
  have HLI := Aside0.mk hl
  have HTI := Aside0.mk hl2
  obtain ⟨Z, hZ⟩ : ∃ Z, Z = cells E0 := ⟨_, rfl⟩
  have hz : ∀ w, (zeroValue 30).run Try.prog w = .ok (.agg Z) w := fun w => by rw [hZ]; exact zero30 w
  have Z0 := Aside0.mk hZ
  clear hZ hl hl2
  obtain ⟨g, hg⟩ : ∃ g, g = W.heap.size := ⟨_, rfl⟩
  have Hg := Aside0.mk hg
  rw [← hg] at HL ⊢
  clear hg
  go_enter Try.func3, Try.ntmps3
  go_wp2_with (first
    | (go_at_call 6; (with_reducible refine (HL.out).mono ?_); rintro e w1 ⟨rfl, h1, f1⟩; have H1 := Aside0.mk h1; have G1 := Aside0.mk f1; have KL : Aside0 (ReadsRow (fun (x : Int) cs => cs = [.int .i64 x]) 1 (w1.alloc (.cells #[] 3)) A n ((List.range n).map f)) := ⟨((HLI.out.below (by rw [Hg.out] at f1; exact f1)).below (below_alloc (Below.refl _ _) _)).row (by omega)⟩; have KB : Aside0 (g ≤ w1.heap.size ∧ g ≤ (w1.alloc (.cells #[] 3)).heap.size) := ⟨by have := h1.lt; simp; omega⟩; have KN : Aside0 (([] : List Int).length + n ≤ 17592186044416) := ⟨by simpa using hn⟩; clear h1 f1)
    | ((with_reducible refine gate_builtin (b := .append) rfl ?_); refine Li.append_any rfl (.tmp 20) (.tmp 21) rfl rfl rfl (Li.empty (B := g) KB.out.1) KL.out KB.out.2 KN.out ?_; intro v1 w2 m1 m2 m3 m4; have M1 := Aside0.mk m1; have M2 := Aside0.mk m2; have M3 := Aside0.mk m3; clear m1 m2 m3 m4))
  obtain ⟨S, hS⟩ : ∃ S, S = fillN f n := ⟨_, rfl⟩
  rw [← hS] at H1
  have GS : Goes S E0 ((List.range n).map f) := by rw [hS]; exact goes_start f n
  obtain ⟨g2, hg2⟩ : ∃ g2, g2 = w2.heap.size := ⟨_, rfl⟩
  have hw12 : ∀ k, k < w1.heap.size → w2.heap[k]? = w1.heap[k]? := fun k hk => (M3.out.block k (by simp; omega) (fun e => by have e2 : some k = some w1.heap.size := e; injection e2; omega)).trans (Below.heap_alloc w1 _ k hk)
  have hsz : w1.heap.size < w2.heap.size := by have := M2.out.size; simp at this; omega
  have OR : Aside0 (Ord W g g2 S (w2.alloc (.cells Z 30)) v1 ((List.range n).map f) E0) := ⟨by
    have m1 := M1.out
    rw [List.nil_append] at m1
    refine ⟨m1.below (below_alloc (Below.refl _ _) _), (Below.heap_alloc w2 _ g (by have := H1.out.lt; omega)).trans ((hw12 g H1.out.lt).trans H1.out), by rw [hg2, Z0.out]; exact heap_alloc_new w2 _, GS, ?_, Hg.out, by have := H1.out.lt; omega⟩
    have b1 := G1.out
    rw [Hg.out] at b1
    have m2 := M2.out
    have b2 : Below W.heap.size W w2 := ⟨m2.os.trans b1.os, m2.tape.trans b1.tape, m2.output.trans b1.output, by have := b1.size; omega, fun k hk => (hw12 k (by have := b1.size; omega)).trans (b1.block k hk)⟩
    exact below_alloc b2 _⟩
  obtain ⟨w3, hw3⟩ : ∃ w3, w3 = w2.alloc (.cells Z 30) := ⟨_, rfl⟩
  rw [← hw3] at OR ⊢
  rw [← hg2]
  obtain ⟨A9, c9, hv⟩ := OR.out.li.form
  rw [List.length_map, List.length_range] at hv
  subst hv
  have HLEN : Aside0 (((List.range n).map f).length = n) := ⟨by simp⟩
  clear hS GS hg2 hw12 hsz M1 M2 M3 H1 G1 KL KB KN hw3 HL HLI Z0
  go_loopg [9, 11] n (fun kq v9 v11 w' => ∃ (m i : Nat) (A9 : Option Addr) (c9 : Nat) (L : List Int) (T : St), v9 = .slice A9 m c9 ∧ v11 = .int .i64 (i : Int) ∧ m ≤ 17592186044416 ∧ i ≤ 17592186044416 ∧ Aside0 (L.length = m) ∧ Aside0 (kq = m) ∧ Aside0 (i + m = n) ∧ Aside0 (Ord W g g2 S w' (.slice A9 m c9) L T))
  case atStart => exact ⟨n, 0, A9, c9, _, E0, rfl, rfl, hn, Nat.zero_le _, HLEN, ⟨rfl⟩, ⟨by omega⟩, OR⟩
  case round =>
    clear OR HLEN
    obtain ⟨m, i, A9, c9, L, T, rfl, rfl, hm, hi, HLN, HK, HIM, OR⟩ := hrel
    by_cases hm0 : 0 < m
    · have hmI : (0 : Int) < (m : Int) := by omega
      have hmD : decide ((0 : Int) < (m : Int)) = true := decide_eq_true hmI
      obtain ⟨c0, cap0, hv0, _⟩ := OR.out.li.at_ 0 (by rw [HLN.out]; exact hm0)
      rw [HLN.out] at hv0
      injection hv0 with hA9 _ hc9
      subst hA9 hc9
      go_upto_if 33 with (fail)
      go_cut [12] from 25 to 62 (fun v wc => ∃ k : Nat, v = .int .i64 (k : Int) ∧ k < m ∧ wc = wr)
      case first =>
        by_cases hi2 : i < n2
        · have hiI : (i : Int) < (n2 : Int) := by omega
          obtain ⟨ab, ao, rfl, hc⟩ := (HTI.out.below OR.out.bel) i hi2
          obtain ⟨r, hr⟩ : ∃ r, (f2 i).tmod (m : Int) = r := ⟨_, rfl⟩
          have hr1 : r < m := by rw [← hr]; exact Int.tmod_lt_of_pos _ hmI
          have hr2 : -(m : Int) < r := by rw [← hr]; exact neg_lt_tmod (f2 i) hmI
          by_cases hr0 : r < 0
          · go_wp2
            go_meet
            case rel => exact ⟨(r + m).toNat, by rw [Int.toNat_of_nonneg (by omega)], by omega, rfl⟩
          · have hr3 : 0 ≤ r := by omega
            go_wp2
            go_meet
            case rel => exact ⟨r.toNat, by rw [Int.toNat_of_nonneg (by omega)], by omega, rfl⟩
        · have hiI : ¬ (i : Int) < (n2 : Int) := by omega
          go_wp2
          go_meet
          case rel => exact ⟨0, rfl, hm0, rfl⟩
      case rest =>
        obtain ⟨k, rfl, hk, rfl⟩ := hcut
        obtain ⟨c0', cap0', hv0, q0⟩ := OR.out.li.at_ k (by rw [HLN.out]; exact hk)
        rw [HLN.out] at hv0
        injection hv0 with hA9 _ hc9
        injection hA9 with hA9
        injection hA9 with hA9
        subst hA9 hc9
        have hkI : (k : Int) < (m : Int) := by omega
        obtain ⟨x, hx⟩ : ∃ x, x = L.getD k 0 := ⟨_, rfl⟩
        rw [← hx] at q0
        have HX := Aside0.mk hx
        clear hx
        go_wp2_with (go_at_call 7; (with_reducible refine (set_any T OR.out.o x).mono ?_); rintro e w2 ⟨rfl, h5, f5⟩; have H5 := Aside0.mk h5; have F5 := Aside0.mk f5; clear h5 f5)
        have hmc : m ≤ c9 := OR.out.li.cap
        have hkc : k ≤ c9 := by omega
        have hkm1 : k + 1 ≤ m := by omega
        have hwr2 : IntKind.i64.wrap ((k : Int) + 1) = (k : Int) + 1 := IntWalk.i64_in _ (by omega)
        have hp0 : (0 : Int) ≤ (k : Int) + 1 := by omega
        have hp1 : (k : Int) + 1 ≤ (m : Int) := by omega
        have hp2 : ((k : Int) + 1).toNat = k + 1 := by omega
        have hne2 : ∀ i, i = g2 → (Value.slice (some ⟨c0, 0, none⟩) m c9).ownBlock ≠ some i := fun i e => by rw [e]; exact OR.out.li.ne OR.out.o
        have N2 : Li w2 g (.slice (some ⟨c0, 0, none⟩) m c9) L := OR.out.li.fr F5.out hne2
        have hsz2 : g ≤ w2.heap.size := by have := F5.out.size; have := OR.out.m.lt; omega
        have MM2 : Bm w2 g S := OR.out.m.fr F5.out (by have := OR.out.lt; omega)
        have BW2 : Below W.heap.size W w2 := Fr.onto OR.out.bel F5.out (fun i hi => by have := OR.out.lt; have := OR.out.g_; omega)
        have NA : Li ((w2.alloc (Obj.cells #[] 3)).drew) g (.slice (some ⟨c0, 0, none⟩) m c9) L := N2.keep (fun i _ _ hl => Below.heap_alloc _ _ _ hl)
        have hcw : c0 < w2.heap.size := Kd.R_lt N2 c0 (by simp [Value.ownBlock])
        have KA : Aside0 (∃ wa, wa = (w2.alloc (Obj.cells #[] 3)).drew ∧ Li wa g (.slice (some ⟨w2.heap.size, 0, none⟩) 0 0) [] ∧ ReadsRow (fun (x : Int) cs => cs = [.int .i64 x]) 1 wa (some ⟨c0, 0, none⟩) k (L.take k) ∧ g ≤ wa.heap.size ∧
            (∀ w3, wa.grownBy w3 (some w2.heap.size) → ∀ A', (0 < m - (k + 1) → A' = some ⟨c0, k + 1, none⟩) → ReadsRow (fun (x : Int) cs => cs = [.int .i64 x]) 1 w3 A' (m - (k + 1)) (L.drop (k + 1))) ∧
            Below W.heap.size W wa ∧ Bm wa g S ∧ Bm wa g2 (put T x) ∧ g2 < w2.heap.size ∧ w2.heap.size < wa.heap.size) := ⟨by
          refine ⟨_, rfl, (Li.empty hsz2).keep (fun _ _ _ _ => rfl), ?_, Nat.le_trans hsz2 (Below.alloc (Below.refl _ w2) (Nat.le_refl _) _).size, ?_, ?_, MM2.keep (Below.heap_alloc _ _ _ MM2.lt), H5.out.keep (Below.heap_alloc _ _ _ H5.out.lt), H5.out.lt, by show w2.heap.size < (w2.alloc _).heap.size; simp⟩
          · have h7 := NA.part (c := c0) (cap := c9) (by rw [HLN.out]) 0 k (by rw [HLN.out]; omega) (by omega) (some ⟨c0, 0, none⟩) (fun _ => rfl)
            rwa [List.drop_zero] at h7
          · intro w3 hg3 A' hA'
            have N3 := NA.grown hg3 (fun i hi e => by simp [Value.ownBlock] at hi; injection e with e; omega)
            have h7 := N3.part (c := c0) (cap := c9) (by rw [HLN.out]) (k + 1) (m - (k + 1)) (by rw [HLN.out]; omega) (by omega) A' hA'
            rwa [List.take_of_length_le (by rw [List.length_drop, HLN.out]; omega)] at h7
          · have h8 := BW2.alloc BW2.size (Obj.cells #[] 3)
            exact ⟨h8.os, h8.tape, h8.output, h8.size, h8.block⟩⟩
        have hmk : (L.take k).length + (m - (k + 1)) ≤ 17592186044416 := by rw [List.length_take]; omega
        have HMK := Aside0.mk hmk
        clear hsz2 BW2 NA hcw hmk q0 MM2 N2 hne2
        obtain ⟨wa, hwa, ka1, ka2, ka3, ka4, ka5, ka6, ka7, ka8, ka9⟩ := KA.out
        have KA1 := Aside0.mk ka1
        have KA2 := Aside0.mk ka2
        have KA3 := Aside0.mk ka3
        have KA4 := Aside0.mk ka4
        have KA5 := Aside0.mk ka5
        have KA6 := Aside0.mk ka6
        have KA7 := Aside0.mk ka7
        have KA8 := Aside0.mk (And.intro ka8 ka9)
        have HWA := Aside0.mk hwa
        clear ka1 ka2 ka3 ka4 ka5 ka6 ka7 ka8 ka9 hwa KA
        have HL0 : Aside0 (([] : List Int).length + k ≤ 17592186044416) := ⟨by simp only [List.length_nil]; omega⟩
        have HL1 : Aside0 (([] ++ L.take k).length + (m - (k + 1)) ≤ 17592186044416) := ⟨by rw [List.nil_append]; exact HMK.out⟩
        have HA1 : Aside0 (0 < m - (k + 1) → (if c9 = k + 1 then some (⟨c0, 0, none⟩ : Addr) else some ⟨c0, k + 1, none⟩) = some ⟨c0, k + 1, none⟩) := ⟨fun h => if_neg (by omega)⟩
        go_region_law (first
          | (rw [← HWA.out]; apply Li.append_step (c := c9) (s := .tmp 53) (x := .tmp 56) (HO := KA1.out) (HR := KA2.out) (hbase := KA3.out) (hl := HL0.out); (case hw => simp [Region.wanted]); (case ho => rfl); (case hs => simp [Act.eval, Act.put]); (case hx => simp [Act.eval, Act.put]; done); intro v1 w3 m1 m2 m3 m4; have M1 := Aside0.mk m1; have M2 := Aside0.mk m2; have M3 := Aside0.mk m3; have M3b := Aside0.mk m4; clear m1 m2 m3 m4)
          | (apply Li.append_step (c := c9 - (k + 1)) (s := .tmp 57) (x := .tmp 61) (HO := M1.out) (HR := KA4.out _ M3.out _ HA1.out) (hbase := Nat.le_trans KA3.out M2.out.size) (hl := HL1.out); (case hw => simp [Region.wanted]); (case ho => rfl); (case hs => simp [Act.eval, Act.put]); (case hx => simp [Act.eval, Act.put]; done); intro v2 w4 m1 m2 m3 m4; have M4 := Aside0.mk m1; have M5 := Aside0.mk m2; have M6 := Aside0.mk m3; clear m1 m2 m3 m4))
        all_goals
          have KP : ∀ b, b < w2.heap.size → w4.heap[b]? = wa.heap[b]? := fun b hb => by
            have hk8 := KA8.out
            have e1 : w3.heap[b]? = wa.heap[b]? := M3.out.block b (by omega) (fun e => by have e2 : some b = some w2.heap.size := e; injection e2; omega)
            refine (M6.out.block b (by have := M2.out.size; omega) (fun e => ?_)).trans e1
            rcases M3b.out with h | ⟨b', h, hb'⟩
            · rw [h] at e
              have e2 : some b = some w2.heap.size := e
              injection e2; omega
            · rw [h] at e; injection e; omega
          have M4' : Aside0 (Li w4 g v2 (L.take k ++ L.drop (k + 1))) := ⟨by have := M4.out; rwa [List.nil_append] at this⟩
          obtain ⟨A3, c3, hv2⟩ := M4'.out.form
          obtain ⟨m3, hm3⟩ : ∃ m3, m3 = (L.take k ++ L.drop (k + 1)).length := ⟨_, rfl⟩
          rw [← hm3] at hv2
          have hm3' : m3 + 1 = m := by rw [hm3, List.length_append, List.length_take, List.length_drop, HLN.out]; omega
          have HM3 := Aside0.mk hm3
          subst hv2
          have HF : Aside0 (Ord W g g2 S w4 (.slice A3 m3 c3) (L.take k ++ L.drop (k + 1)) (put T x)) := ⟨by
            have hk8 := KA8.out
            have hg_ := OR.out.g_
            have hlt := OR.out.lt
            refine ⟨M4'.out, KA6.out.keep (KP g (by omega)), KA7.out.keep (KP g2 (by omega)), by rw [HX.out]; exact goes_step OR.out.goes k (by rw [HLN.out]; exact hk), ?_, hg_, hlt⟩
            have b2 := M2.out
            have b5 := M5.out
            rw [hg_] at b2 b5
            exact (KA5.out.trans b2).trans b5⟩
          clear hm3 KP
        all_goals go_wp2
        all_goals go_roundg m3
        all_goals first
          | exact ⟨m3, i + 1, A3, c3, _, _, rfl, by simp, by omega, by have := HIM.out; omega, ⟨HM3.out.symm⟩, ⟨rfl⟩, ⟨by have := HIM.out; omega⟩, HF⟩
          | (have := HK.out; omega)
    · obtain rfl : m = 0 := by omega
      have hL : L = [] := List.eq_nil_of_length_eq_zero HLN.out
      have HO : Aside0 (Bm wr g2 S) := ⟨OR.out.o.ext fun t ht => (goes_end (by have := OR.out.goes; rwa [hL] at this) t ht).symm⟩
      have HMm : Aside0 (Bm wr g S) := ⟨OR.out.m⟩
      have HB : Aside0 (Below W.heap.size W wr) := ⟨OR.out.bel⟩
      have HG : Aside0 (g = W.heap.size ∧ g < g2) := ⟨OR.out.g_, OR.out.lt⟩
      clear OR hL HLN HK HIM hm0
      have EQ : Aside0 (∀ w a b, Bm w a S → Bm w b S → Calls Try.prog 8 #[.pointer (some ⟨a, 0, none⟩), .pointer (some ⟨b, 0, none⟩)] w fun e w' => e = .returned (.bool true) ∧ ∃ m, w' = w.drewN m) := ⟨fun w a b ha hb => by have := equal_calls ha hb; rwa [eqB_self] at this⟩
      obtain ⟨N, hN⟩ : ∃ N, N = topW S := ⟨_, rfl⟩
      have TP : Aside0 (∀ w a, Bm w a S → Calls Try.prog 10 #[.pointer (some ⟨a, 0, none⟩)] w fun e w' => e = .returned (.int .u64 ((N : Nat) : Int)) ∧ w' = w) := ⟨fun w a h => by rw [hN]; exact top_calls h⟩
      clear hN
      by_cases hb : tickB more = false ∨ hasB S more = true
      · have HS : Aside0 (∀ w, Bm w g2 S → Calls Try.prog 7 #[.pointer (some ⟨g2, 0, none⟩), .int .i64 more] w fun e w' => e = .returned (.bool false) ∧ w' = w) := ⟨fun w h => set_no S h more hb⟩
        clear hb
        go_wp2_with (first
          | (go_at_call 8; (with_reducible refine (EQ.out _ _ _ HMm.out HO.out).mono ?_); rintro e w5 ⟨rfl, m5, rfl⟩)
          | (go_at_call 8; (with_reducible refine (EQ.out _ _ _ (HO.out.drewN _) (HMm.out.drewN _)).mono ?_); rintro e w5 ⟨rfl, m6, rfl⟩)
          | (go_at_call 7; (with_reducible refine (HS.out _ (HO.out.drewN _)).mono ?_); rintro e w6 ⟨rfl, h6⟩; subst w6)
          | (go_at_call 8; (with_reducible refine (EQ.out _ _ _ (HMm.out.drewN _) (HO.out.drewN _)).mono ?_); rintro e w5 ⟨rfl, m7, rfl⟩)
          | (go_at_call 10; (with_reducible refine (TP.out _ _ (HMm.out.drewN _)).mono ?_); rintro e w6 ⟨rfl, h6⟩; subst w6)
          | (go_at_call 10; (with_reducible refine (TP.out _ _ (HO.out.drewN _)).mono ?_); rintro e w6 ⟨rfl, h6⟩; subst w6))
        go_ret
        refine ⟨rfl, ?_⟩
        have b1 := HB.out
        rw [← HG.out.1] at b1
        exact pw_below_drewN b1 _
      · have h2 : tickB more = true := by cases e : tickB more; exact absurd (.inl e) hb; rfl
        have h3 : hasB S more = false := by cases e : hasB S more; rfl; exact absurd (.inr e) hb
        have HS : Aside0 (∀ w, Bm w g2 S → Calls Try.prog 7 #[.pointer (some ⟨g2, 0, none⟩), .int .i64 more] w fun e w' => e = .returned (.bool true) ∧ Bm w' g2 (put S more) ∧ Fr (fun k => k = g2) w w') := ⟨fun w h => by have := set_any S h more; rwa [h2, h3] at this⟩
        have NE : Aside0 (∀ w, Bm w g S → Bm w g2 (put S more) → Calls Try.prog 8 #[.pointer (some ⟨g, 0, none⟩), .pointer (some ⟨g2, 0, none⟩)] w fun e w' => e = .returned (.bool false) ∧ ∃ m, w' = w.drewN m) := ⟨fun w ha hb => by have := equal_calls ha hb; rwa [eqB_put h2 h3] at this⟩
        have CC : Aside0 (∀ w, Bm w g2 (put S more) → Calls Try.prog 9 #[.pointer (some ⟨g2, 0, none⟩), .int .i64 more] w fun e w' => e = .returned (.bool true) ∧ Bm w' g2 S ∧ Fr (fun k => k = g2) w w') := ⟨fun w h => by
          have := clear_any _ h more
          rw [has_put h2] at this
          exact this.mono fun e w' ⟨a, b, c⟩ => ⟨a, b.ext fun x _ => del_put h2 h3 x, c⟩⟩
        clear hb h2 h3
        go_wp2_with (first
          | (go_at_call 8; (with_reducible refine (EQ.out _ _ _ HMm.out HO.out).mono ?_); rintro e w5 ⟨rfl, m5, rfl⟩)
          | (go_at_call 8; (with_reducible refine (EQ.out _ _ _ (HO.out.drewN _) (HMm.out.drewN _)).mono ?_); rintro e w5 ⟨rfl, m6, rfl⟩)
          | (go_at_call 7; (with_reducible refine (HS.out _ (HO.out.drewN _)).mono ?_); rintro e w6 ⟨rfl, h6, f6⟩; have A1 := Aside0.mk h6; have A2 : Aside0 (Bm w6 g S) := ⟨(HMm.out.drewN _).fr f6 (by have := HG.out; omega)⟩; have A3 := Aside0.mk f6; clear h6 f6)
          | (go_at_call 8; (with_reducible refine (NE.out _ A2.out A1.out).mono ?_); rintro e w5 ⟨rfl, m7, rfl⟩)
          | (go_at_call 9; (with_reducible refine (CC.out _ (A1.out.drewN _)).mono ?_); rintro e w8 ⟨rfl, h8, f8⟩; have D1 := Aside0.mk h8; have D2 : Aside0 (Bm w8 g S) := ⟨(A2.out.drewN _).fr f8 (by have := HG.out; omega)⟩; have D3 := Aside0.mk f8; clear h8 f8)
          | (go_at_call 8; (with_reducible refine (EQ.out _ _ _ D2.out D1.out).mono ?_); rintro e w5 ⟨rfl, m9, rfl⟩)
          | (go_at_call 10; (with_reducible refine (TP.out _ _ (D2.out.drewN _)).mono ?_); rintro e w6 ⟨rfl, h6⟩; subst w6)
          | (go_at_call 10; (with_reducible refine (TP.out _ _ (D1.out.drewN _)).mono ?_); rintro e w6 ⟨rfl, h6⟩; subst w6))
        go_ret
        refine ⟨rfl, ?_⟩
        have b1 := HB.out
        have hg := HG.out
        have b2 := Fr.onto (pw_below_drewN b1 _) A3.out (fun i hi => by omega)
        have b3 := Fr.onto (pw_below_drewN b2 _) D3.out (fun i hi => by omega)
        rw [← hg.1] at b3
        exact pw_below_drewN b3 _
end Go.Proofs.Ytgcelkndgjjbdaa.PBm
