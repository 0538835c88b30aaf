/- BitmapAgain. -/
import Derived.Test.YtgcelkndgjjbdaaBmG
namespace Go.Proofs.Ytgcelkndgjjbdaa.PBm
open Go.RowKit Go.Proofs.YtgcelkndgjjbdaaW.PrintWords Go.Proofs.YtgcelkndgjjbdaaW.PrintLast Go.Proofs.YtgcelkndgjjbdaaW.PrintMore
set_option linter.unusedVariables false
set_option linter.unusedSimpArgs false

theorem Bm.drewN {W : World} {g : Nat} {S : St} (h : Bm W g S) (n : Nat) : Bm (W.drewN n) g S := h

theorem cells_one (S : St) : (cells S).all (·.oneCell') = true := by
  rw [Array.all_eq_true]
  intro i hi
  have h := cells_at S i (by rw [cells_size] at hi; exact hi)
  rw [Array.getElem?_eq_getElem hi] at h
  rw [Option.some.inj h]
  rfl

theorem info30 : (Try.prog.info? 30).map (·.size) = some 4161 := by kernel_rfl

/-- A map is read whole. -/
theorem wpList_load30 {ops : Array Oper} {rest : List Oper} {o : Oper} {a : Act} {w : World} {Q : Exit → Act → World → Prop} (hgd : o.guard = none) (x : Operand) (ho : o.op = .load 30 x)
    (g : Nat) (S : St) (hx : a.eval x = .pointer (some ⟨g, 0, none⟩)) (hg : Bm w g S)
    (h : ∀ X, X = cells S → wpList Try.prog ops Q rest (a.put o.dst (.agg X)) w) : wpList Try.prog ops Q (o :: rest) a w := by
  have h2 := h _ rfl
  have hg' : w.heap[g]? = some (.cells (cells S) 30 (0, 0)) := hg
  have hsz := cells_size S
  clear h hg
  generalize cells S = X at h2 hg' hsz
  have hi : (Try.prog.info? 30).map (·.size) = some X.size := by rw [hsz]; exact info30
  exact wpList_load_row hgd 30 x ho g hx 30 X (0, 0) _ hg' Try.underlying30 rfl hi h2

/-- A map is written whole. -/
theorem wpList_store30 {ops : Array Oper} {rest : List Oper} {o : Oper} {a : Act} {w : World} {Q : Exit → Act → World → Prop} (hgd : o.guard = none) (x y : Operand) (ho : o.op = .store 30 x y) (hd : o.dst = none)
    (g : Nat) (S T : St) (X : Array Value) (hx : a.eval x = .pointer (some ⟨g, 0, none⟩)) (hy : a.eval y = .agg X) (hX : X = cells S) (hg : Bm w g T)
    (h : ∀ w', Bm w' g S → Fr (fun k => k = g) w w' → wpList Try.prog ops Q rest a w') : wpList Try.prog ops Q (o :: rest) a w := by
  have hg' : w.heap[g]? = some (.cells (cells T) 30 (0, 0)) := hg
  have hsz := cells_size S
  have hsz2 := cells_size T
  have hone := cells_one S
  have hset : ∀ w', w'.heap[g]? = some (.cells X 30 (0, 0)) → Bm w' g S := fun w' h => by rw [hX] at h; exact h
  rw [← hX] at hsz hone
  clear hX hg
  generalize cells T = Y at hg' hsz2
  have hi : (Try.prog.info? 30).map (·.size) = some X.size := by rw [hsz]; exact info30
  have hs := run_storeVar_row (P := Try.prog) w g 30 30 Y X hg' hi (by rw [hsz, hsz2]) hone
  refine wpList_plain hgd fun K hK => ?_
  unfold Oper.wp execOp
  simp only [ho, hx, hy, Instr.storeAt, Instr.sureAddr, Sem.run_bind, Sem.run_pure, Result.andThen_ok, hs]
  refine hK _ _ ?_
  have e : a.put o.dst undef = a := by rw [hd]; rfl
  first | rw [e] | skip
  refine h _ (hset _ (setRow_heap w g _ _ 30 (0, 0) hg')) ⟨rfl, rfl, rfl, by simp, fun k hk hn => setRow_other w g k _ hn⟩

/-- The ticks below n. -/
def cutS (S : St) (n : Nat) : St := fun t => S t && decide (t < n)

theorem cut_zero (S : St) (x : Nat) : E0 x = cutS S 0 x := by simp [cutS, E0]
theorem cut_all {S : St} {n : Nat} (hn : 262144 ≤ n) (x : Nat) (hx : x < 262144) : cutS S n x = S x := by
  unfold cutS
  have : x < n := by omega
  simp [this]
theorem cut_yes {S : St} {n : Nat} (hn : n < 262144) (h : S n = true) (x : Nat) : put (cutS S n) (n : Int) x = cutS S (n + 1) x := by
  unfold put
  have : tickB (n : Int) = true := by unfold tickB; simp; omega
  rw [if_pos this, Int.toNat_natCast]
  unfold up cutS
  by_cases e : x = n
  · subst e
    simp [h]
  · by_cases h1 : x < n
    · have h2 : x < n + 1 := by omega
      simp [e, h1, h2]
    · have h2 : ¬ x < n + 1 := by omega
      simp [e, h1, h2]
theorem cut_no {S : St} {n : Nat} (h : S n = false) (x : Nat) : cutS S n x = cutS S (n + 1) x := by
  unfold cutS
  by_cases e : x = n
  · subst e
    simp [h]
  · by_cases h1 : x < n
    · have h2 : x < n + 1 := by omega
      simp [h1, h2]
    · have h2 : ¬ x < n + 1 := by omega
      simp [h1, h2]
theorem cut_rest {S : St} {n m : Nat} (h : ∀ x, n ≤ x → x < m → S x = false) (hnm : n ≤ m) (x : Nat) : cutS S n x = cutS S m x := by
  unfold cutS
  by_cases h1 : x < n
  · have h2 : x < m := by omega
    simp [h1, h2]
  · by_cases h2 : x < m
    · simp [h1, h2, h x (by omega) h2]
    · simp [h1, h2]

theorem shr_at' {f : Nat → Bool} {i : Nat} (hi : i < 64) : (((wd f : Nat) : Int) / 2 ^ i % 2 == 1) = f i := by
  rw [div_pow]
  have h := wd_at f i hi
  have : (((wd f / 2 ^ i : Nat) : Int) % 2) = ((wd f / 2 ^ i % 2 : Nat) : Int) := by omega
  rw [this, h]
  cases f i <;> rfl

theorem set_sum {W : World} {g : Nat} {T : St} (h : Bm W g T) (i k : Nat) :
    Calls Try.prog 7 #[.pointer (some ⟨g, 0, none⟩), .int .i64 (64 * (i : Int) + (k : Int))] W fun e w' => ∃ b, e = .returned (.bool b) ∧ Bm w' g (put T ((64 * i + k : Nat) : Int)) ∧ Fr (fun k => k = g) W w' := by
  have e : ((64 * i + k : Nat) : Int) = 64 * (i : Int) + (k : Int) := by omega
  rw [e]
  exact (set_any T h _).mono fun e w' ⟨a, b, c⟩ => ⟨_, a, b, c⟩

theorem eqB_self (S : St) : eqB S S = true := eqB_iff.mpr fun _ _ => rfl

set_option maxHeartbeats 8000000 in
set_option maxRecDepth 100000 in
theorem again_calls {W : World} {A : Option Addr} {n cap : Nat} {f : Nat → Int} (more : Int) (hl : Ints W A n f) (hn : n ≤ 9223372036854775807) :
    Calls Try.prog 4 #[.slice A n cap, .int .i64 more] W fun e w' => e = .returned (.bool true) ∧ Below W.heap.size W w' := by
  have HL := Aside0.mk (filled_calls (cap := cap) hl hn)
  obtain ⟨Z, hZ⟩ : ∃ Z, Z = cells E0 := ⟨_, rfl⟩
  have hz : ∀ w, (zeroValue 30).run Try.prog w = .ok (.agg Z) w := fun w => by rw [hZ]; exact zero30 w
  have Z0 := Aside0.mk hZ
  clear hZ hl
  go_enter Try.func4, Try.ntmps4
  go_wp2_with (go_at_call 6; (with_reducible refine (HL.out).mono ?_); rintro e w1 ⟨rfl, h1, f1⟩; have H1 := Aside0.mk h1; have G1 := Aside0.mk f1; clear h1 f1)
  obtain ⟨S, hS⟩ : ∃ S, S = fillN f n := ⟨_, rfl⟩
  rw [← hS] at H1
  clear hS
  obtain ⟨g, hg⟩ : ∃ g, g = W.heap.size := ⟨_, rfl⟩
  have Hg := Aside0.mk hg
  rw [← hg] at H1 ⊢
  obtain ⟨g2, hg2⟩ : ∃ g, g = w1.heap.size := ⟨_, rfl⟩
  rw [← hg2]
  have Hne : Aside0 (g < g2) := ⟨by rw [hg2]; exact H1.out.lt⟩
  have M1 : Aside0 (Bm (w1.alloc (.cells Z 30)) g S) := ⟨(Below.heap_alloc w1 _ g H1.out.lt).trans H1.out⟩
  have M2 : Aside0 (Bm (w1.alloc (.cells Z 30)) g2 E0) := ⟨by rw [hg2, Z0.out]; exact heap_alloc_new w1 _⟩
  have M3 : Aside0 (Below g W (w1.alloc (.cells Z 30))) := ⟨by rw [Hg.out]; exact below_alloc G1.out _⟩
  obtain ⟨w2, hw2⟩ : ∃ w2, w2 = w1.alloc (.cells Z 30) := ⟨_, rfl⟩
  rw [← hw2] at M1 M2 M3 ⊢
  clear hg hg2 hw2 H1 G1 HL
  go_loopg [8] 4096 (fun kq v w' => ∃ i : Nat, v = .int .i64 (i : Int) ∧ Aside0 (kq + i = 4096) ∧ Aside0 (Bm w' g S) ∧ Aside0 (Bm w' g2 (cutS S (64 * i))) ∧ Aside0 (Below g W w'))
  case atStart => exact ⟨0, rfl, ⟨rfl⟩, M1, ⟨M2.out.ext fun x _ => cut_zero S x⟩, M3⟩
  case round =>
    clear M1 M2 M3
    obtain ⟨i, rfl, HK, HM, HM2, HB⟩ := hrel
    have hin : i ≤ 4096 := by have := HK.out; omega
    by_cases hi : i < 4096
    · obtain ⟨k1, rfl⟩ : ∃ k1, gk = k1 + 1 := ⟨gk - 1, by have := HK.out; omega⟩
      have hi4 : i < 4096 := hi
      have hiI : (i : Int) < 4096 := by omega
      have hiD : decide ((i : Int) < 4096) = true := decide_eq_true hiI
      go_wp2_with (go_at_call 11; (with_reducible refine (low_in HM.out i hi4).mono ?_); rintro e w5 ⟨rfl, h5⟩; subst w5)
      obtain ⟨v, hv⟩ : ∃ v : Nat, v = lowW S i := ⟨_, rfl⟩
      rw [← hv]
      have HV := Aside0.mk hv
      clear hv hiI hiD
      go_loopg [10] 64 (fun kq v w' => ∃ k : Nat, v = .int .i64 (k : Int) ∧ Aside0 (kq + k = 64) ∧ Aside0 (Bm w' g S) ∧ Aside0 (Bm w' g2 (cutS S (64 * i + k))) ∧ Aside0 (Below g W w'))
      case atStart => exact ⟨0, rfl, ⟨rfl⟩, HM, HM2, HB⟩
      case round =>
        clear HM HM2 HB
        obtain ⟨k, rfl, HKb, HM, HM2, HB⟩ := hrel
        have hkn : k ≤ 64 := by have := HKb.out; omega
        by_cases hk : k < 64
        · obtain ⟨k2, rfl⟩ : ∃ k2, gk = k2 + 1 := ⟨gk - 1, by have := HKb.out; omega⟩
          have hkI : (k : Int) < 64 := by omega
          have hkD : decide ((k : Int) < 64) = true := decide_eq_true hkI
          obtain ⟨q, hq⟩ : ∃ q : Nat, (v : Int) / 2 ^ k = (q : Int) := ⟨_, div_pow _ _⟩
          have t1 : ((q : Int) % 2 == 1) = S (64 * i + k) := by rw [← hq, HV.out]; exact shr_at' hk
          by_cases hz0 : v = 0
          · have z1 : ((v : Int) != 0) = false := by rw [hz0]; rfl
            have hall := wd_zero.mp (HV.out.symm.trans hz0)
            have HA : Aside0 (∀ x, cutS S (64 * i + k) x = cutS S (64 * (i + 1)) x) := ⟨cut_rest (fun x h1 h2 => by
              have := hall (x - 64 * i) (by omega)
              rwa [show 64 * i + (x - 64 * i) = x by omega] at this) (by omega)⟩
            clear hall hz0 t1 hq
            go_wp2
            go_roundg k1
            case measure => omega
            case rel => exact ⟨i + 1, by simp, ⟨by have := HK.out; omega⟩, HM, ⟨HM2.out.ext fun x _ => HA.out x⟩, HB⟩
          · have z1 : ((v : Int) != 0) = true := bne_iff_ne.mpr (by omega)
            clear hz0
            cases hs : S (64 * i + k) with
            | false =>
              rw [hs] at t1
              have HS := Aside0.mk hs
              clear hs
              go_wp2
              go_roundg k2
              case measure => omega
              case rel => exact ⟨k + 1, by simp, ⟨by have := HKb.out; omega⟩, HM, ⟨HM2.out.ext fun x _ => cut_no HS.out x⟩, HB⟩
            | true =>
              rw [hs] at t1
              have HS := Aside0.mk hs
              clear hs
              go_wp2_with (go_at_call 7; (with_reducible refine (set_sum HM2.out i k).mono ?_); rintro e w5 ⟨b, rfl, h5, f5⟩; have H5 := Aside0.mk h5; have G5 := Aside0.mk f5; clear h5 f5)
              go_roundg k2
              case measure => omega
              case rel =>
                refine ⟨k + 1, by simp, ⟨by have := HKb.out; omega⟩, ⟨HM.out.fr G5.out (by have := Hne.out; omega)⟩, ⟨H5.out.ext fun x _ => cut_yes (by omega) HS.out x⟩, ⟨?_⟩⟩
                have hb := HB.out
                have hne := Hne.out
                rw [Hg.out] at hb hne ⊢
                exact Fr.onto hb G5.out (fun i hi => by omega)
        · obtain rfl : k = 64 := by omega
          go_wp2
          go_roundg k1
          case measure => omega
          case rel => exact ⟨i + 1, by simp, ⟨by have := HK.out; omega⟩, HM, HM2, HB⟩
    · have HM3 : Aside0 (Bm wr g2 S) := by
        have h6 : 262144 ≤ 64 * i := by omega
        exact ⟨Bm.ext HM2.out (cut_all h6)⟩
      clear HM2
      have hiI : ¬ (i : Int) < 4096 := by omega
      have hiD : decide ((i : Int) < 4096) = false := decide_eq_false hiI
      obtain ⟨w3, hw3⟩ : ∃ w3, w3 = wr := ⟨_, rfl⟩
      rw [← hw3] at HM HM3 HB ⊢
      clear hw3
      obtain ⟨g3, hg3⟩ : ∃ g3, g3 = w3.heap.size := ⟨_, rfl⟩
      have K1 : Aside0 (Bm (w3.alloc (.cells Z 30)) g3 E0) := ⟨by rw [hg3, Z0.out]; exact heap_alloc_new w3 _⟩
      have K2 : Aside0 (g < g3 ∧ g2 < g3 ∧ g < g2) := ⟨⟨by rw [hg3]; exact HM.out.lt, by rw [hg3]; exact HM3.out.lt, Hne.out⟩⟩
      have K3 : Aside0 (w3.heap.size = g3) := ⟨hg3.symm⟩
      have K4 : Aside0 (Bm (w3.alloc (.cells Z 30)) g S) := ⟨(Below.heap_alloc w3 _ g HM.out.lt).trans HM.out⟩
      have K5 : Aside0 (Bm (w3.alloc (.cells Z 30)) g2 S) := ⟨(Below.heap_alloc w3 _ g2 HM3.out.lt).trans HM3.out⟩
      have K6 : Aside0 (Below g W (w3.alloc (.cells Z 30))) := ⟨by have := HB.out; rw [Hg.out] at this ⊢; exact below_alloc this _⟩
      clear hg3
      have EQ : Aside0 (∀ w a b, Bm w a S → Bm w b S → Calls Try.prog 8 #[.pointer (some ⟨a, 0, none⟩), .pointer (some ⟨b, 0, none⟩)] w fun e w' => e = .returned (.bool true) ∧ ∃ m, w' = w.drewN m) := ⟨fun w a b ha hb => by have := equal_calls ha hb; rwa [eqB_self] at this⟩
      obtain ⟨N, hN⟩ : ∃ N, N = count S 0 262144 := ⟨_, rfl⟩
      have LN : Aside0 (∀ w a, Bm w a S → Calls Try.prog 12 #[.pointer (some ⟨a, 0, none⟩)] w fun e w' => e = .returned (.int .i64 ((N : Nat) : Int)) ∧ w' = w) := ⟨fun w a h => by rw [hN]; exact len_calls h⟩
      obtain ⟨T, hT⟩ : ∃ T, T = topW S := ⟨_, rfl⟩
      have TP : Aside0 (∀ w a, Bm w a S → Calls Try.prog 10 #[.pointer (some ⟨a, 0, none⟩)] w fun e w' => e = .returned (.int .u64 ((T : Nat) : Int)) ∧ w' = w) := ⟨fun w a h => by rw [hT]; exact top_calls h⟩
      clear hN hT
      cases hh : hasB S more with
      | false =>
        have HS : Aside0 (∀ w a, Bm w a S → Calls Try.prog 13 #[.pointer (some ⟨a, 0, none⟩), .int .i64 more] w fun e w' => e = .returned (.bool false) ∧ w' = w) := ⟨fun w a h => by have := has_any S h more; rwa [hh] at this⟩
        clear hh
        go_wp2_with (first
          | ((with_reducible refine gate_ (.load 30 (.tmp 49)) rfl ?_); refine wpList_load30 rfl (.tmp 49) rfl g S rfl HM.out ?_; intro X hX; have HX := Aside0.mk hX; clear hX)
          | ((with_reducible refine gate_ (.store 30 (.tmp 11) (.tmp 50)) rfl ?_); rw [K3.out]; refine wpList_store30 rfl (.tmp 11) (.tmp 50) rfl rfl g3 S E0 X rfl rfl HX.out K1.out ?_; intro w4 h4 f4; have A1 := Aside0.mk h4; have A2 : Aside0 (Bm w4 g S) := ⟨K4.out.fr f4 (by have := K2.out; omega)⟩; have A3 : Aside0 (Bm w4 g2 S) := ⟨K5.out.fr f4 (by have := K2.out; omega)⟩; have A4 := Aside0.mk f4; clear h4 f4)
          | (go_at_call 8; (with_reducible refine (EQ.out _ _ _ A3.out A2.out).mono ?_); rintro e w5 ⟨rfl, m5, rfl⟩)
          | (go_at_call 12; (with_reducible refine (LN.out _ _ (A3.out.drewN _)).mono ?_); rintro e w6 ⟨rfl, h6⟩; subst w6)
          | (go_at_call 12; (with_reducible refine (LN.out _ _ (A2.out.drewN _)).mono ?_); rintro e w6 ⟨rfl, h6⟩; subst w6)
          | (go_at_call 10; (with_reducible refine (TP.out _ _ (A3.out.drewN _)).mono ?_); rintro e w6 ⟨rfl, h6⟩; subst w6)
          | (go_at_call 10; (with_reducible refine (TP.out _ _ (A2.out.drewN _)).mono ?_); rintro e w6 ⟨rfl, h6⟩; subst w6)
          | (go_at_call 13; (with_reducible refine (HS.out _ _ (A2.out.drewN _)).mono ?_); rintro e w6 ⟨rfl, h6⟩; subst w6)
          | (go_at_call 7; (with_reducible refine (set_any S (A2.out.drewN _) more).mono ?_); rintro e w7 ⟨rfl, _, f7⟩; have D1 : Aside0 (Bm w7 g3 S) := ⟨(A1.out.drewN _).fr f7 (by have := K2.out; omega)⟩; have D2 : Aside0 (Bm w7 g2 S) := ⟨(A3.out.drewN _).fr f7 (by have := K2.out; omega)⟩; have D3 := Aside0.mk f7; clear f7)
          | (go_at_call 8; (with_reducible refine (EQ.out _ _ _ D1.out D2.out).mono ?_); rintro e w8 ⟨rfl, m8, rfl⟩)
          | (go_at_call 13; (with_reducible refine (HS.out _ _ (D1.out.drewN _)).mono ?_); rintro e w6 ⟨rfl, h6⟩; subst w6))
        go_ret
        refine ⟨rfl, ?_⟩
        have k2 := K2.out
        have k6 := K6.out
        rw [Hg.out] at k6 k2
        have b1 := Fr.onto k6 A4.out (fun i hi => by omega)
        have b2 := Fr.onto (pw_below_drewN b1 m5) D3.out (fun i hi => by have := Hg.out; omega)
        exact pw_below_drewN b2 m8
      | true =>
        have HS : Aside0 (∀ w a, Bm w a S → Calls Try.prog 13 #[.pointer (some ⟨a, 0, none⟩), .int .i64 more] w fun e w' => e = .returned (.bool true) ∧ w' = w) := ⟨fun w a h => by have := has_any S h more; rwa [hh] at this⟩
        clear hh
        go_wp2_with (first
          | ((with_reducible refine gate_ (.load 30 (.tmp 49)) rfl ?_); refine wpList_load30 rfl (.tmp 49) rfl g S rfl HM.out ?_; intro X hX; have HX := Aside0.mk hX; clear hX)
          | ((with_reducible refine gate_ (.store 30 (.tmp 11) (.tmp 50)) rfl ?_); rw [K3.out]; refine wpList_store30 rfl (.tmp 11) (.tmp 50) rfl rfl g3 S E0 X rfl rfl HX.out K1.out ?_; intro w4 h4 f4; have A1 := Aside0.mk h4; have A2 : Aside0 (Bm w4 g S) := ⟨K4.out.fr f4 (by have := K2.out; omega)⟩; have A3 : Aside0 (Bm w4 g2 S) := ⟨K5.out.fr f4 (by have := K2.out; omega)⟩; have A4 := Aside0.mk f4; clear h4 f4)
          | (go_at_call 8; (with_reducible refine (EQ.out _ _ _ A3.out A2.out).mono ?_); rintro e w5 ⟨rfl, m5, rfl⟩)
          | (go_at_call 12; (with_reducible refine (LN.out _ _ (A3.out.drewN _)).mono ?_); rintro e w6 ⟨rfl, h6⟩; subst w6)
          | (go_at_call 12; (with_reducible refine (LN.out _ _ (A2.out.drewN _)).mono ?_); rintro e w6 ⟨rfl, h6⟩; subst w6)
          | (go_at_call 10; (with_reducible refine (TP.out _ _ (A3.out.drewN _)).mono ?_); rintro e w6 ⟨rfl, h6⟩; subst w6)
          | (go_at_call 10; (with_reducible refine (TP.out _ _ (A2.out.drewN _)).mono ?_); rintro e w6 ⟨rfl, h6⟩; subst w6)
          | (go_at_call 13; (with_reducible refine (HS.out _ _ (A2.out.drewN _)).mono ?_); rintro e w6 ⟨rfl, h6⟩; subst w6)
          | (go_at_call 9; (with_reducible refine (clear_any S (A2.out.drewN _) more).mono ?_); rintro e w7 ⟨rfl, _, f7⟩; have D1 : Aside0 (Bm w7 g3 S) := ⟨(A1.out.drewN _).fr f7 (by have := K2.out; omega)⟩; have D2 : Aside0 (Bm w7 g2 S) := ⟨(A3.out.drewN _).fr f7 (by have := K2.out; omega)⟩; have D3 := Aside0.mk f7; clear f7)
          | (go_at_call 8; (with_reducible refine (EQ.out _ _ _ D1.out D2.out).mono ?_); rintro e w8 ⟨rfl, m8, rfl⟩)
          | (go_at_call 13; (with_reducible refine (HS.out _ _ (D1.out.drewN _)).mono ?_); rintro e w6 ⟨rfl, h6⟩; subst w6))
        go_ret
        refine ⟨rfl, ?_⟩
        have k2 := K2.out
        have k6 := K6.out
        rw [Hg.out] at k6 k2
        have b1 := Fr.onto k6 A4.out (fun i hi => by omega)
        have b2 := Fr.onto (pw_below_drewN b1 m5) D3.out (fun i hi => by have := Hg.out; omega)
        exact pw_below_drewN b2 m8
end Go.Proofs.Ytgcelkndgjjbdaa.PBm
