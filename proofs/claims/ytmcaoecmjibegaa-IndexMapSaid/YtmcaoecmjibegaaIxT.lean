/- IndexMap: it is a map. -/
import Derived.Test.YtmcaoecmjibegaaIxS
import Derived.BigRegion
import Derived.Deep.RegionLaw
namespace Go.Proofs.Ytmcaoecmjibegaa.PIx
open Go.RowKit Go.Proofs.YtmcaoecmjibegaaW.PrintWords Go.Proofs.YtmcaoecmjibegaaW.PrintLast Go.Proofs.YtmcaoecmjibegaaW.PrintMore
set_option linter.unusedVariables false
set_option linter.unusedSimpArgs false

theorem sl_inj {c c' : Nat} {n cap cap' : Nat} (h : Value.slice (some ⟨c, 0, none⟩) n cap = Value.slice (some ⟨c', 0, none⟩) n cap') : c' = c ∧ cap' = cap := by
  injection h with h1 h2 h3
  injection h1 with h1
  injection h1 with h1
  exact ⟨h1.symm, h3.symm⟩

/-- append of a part, as a step of a region that draws. -/
theorem Nw.append_step {ops : Array Oper} {o : Oper} {a : Act} {Q : Exit → Act → World → Prop} {Kc : Act → World → Prop} {Wx : World} {B : Nat} {v : Value} {xs ys : List S46} {A : Option Addr} {m c : Nat}
    (hw : Region.wanted o (yielded ops a.tmps) = true) (s x : Operand) (ho : o.op = .call { callee := .builtin .append, args := #[s, x], argTypes := #[44, 44] }) (hs : a.eval s = v) (hx : a.eval x = .slice A m c)
    (HO : Nw Wx B v xs) (HR : ReadsRow (fun (x : S46) cs => cs = [.int .u64 x.f0, .int .i64 x.f1]) 2 Wx A m ys) (hbase : B ≤ Wx.heap.size) (hl : xs.length + m ≤ 262144)
    (h : ∀ v1 w1, Nw w1 B v1 (xs ++ ys) → Below B Wx w1 → Wx.grownBy w1 v.ownBlock → (v1.ownBlock = v.ownBlock ∨ ∃ b, v1.ownBlock = some b ∧ Wx.heap.size ≤ b) → Kc (a.put o.dst v1) w1) :
    if Region.wanted o (yielded ops a.tmps) = true then Oper.wp Try.prog o a Wx Kc Q else Kc (a.put o.dst undef) Wx := by
  refine Kd.R_append_rows_step k46 (w0 := Wx) B hw s x 44 46 _ 16 ho Try.underlying44 info46 rfl (by decide) (by decide) v xs ys A m c (fun k => B ≤ k) (fun _ => False) hs hx
    (Kd.R_mono HO (fun k hk => Kd.R_base HO k hk)) HR (fun y cs hy => by rw [hy]; exact k46_mkM _ _ _ _) (fun _ hk => hk.elim) (fun k hk => by omega) (Below.refl _ _) hbase (by omega) ?_
  intro v1 w1 h1 h2 h3 h4
  exact h v1 w1 (Nw.tight h1) h2 h3 h4

/-- append of one, as a step of a region that draws. -/
theorem Nw.append1_step {ops : Array Oper} {o : Oper} {a : Act} {Q : Exit → Act → World → Prop} {Kc : Act → World → Prop} {Wx : World} {B : Nat} {v : Value} {xs : List S46} {y0 y1 : Int}
    (hw : Region.wanted o (yielded ops a.tmps) = true) (s x : Operand) (ho : o.op = .call { callee := .builtin .append, args := #[s, x], argTypes := #[44, 44] }) (hs : a.eval s = v) (hx : a.eval x = .slice (some ⟨Wx.heap.size, 0, none⟩) 1 1)
    (HO : Nw Wx B v xs) (hbase : B ≤ Wx.heap.size) (hl : xs.length ≤ 262144)
    (h : ∀ v1 w1, Nw w1 B v1 (xs ++ [⟨y0, y1⟩]) → Below B Wx w1 → Kc (a.put o.dst v1) w1) :
    if Region.wanted o (yielded ops a.tmps) = true then Oper.wp Try.prog o a (Wx.alloc (.cells #[.int .u64 y0, .int .i64 y1] 46)) Kc Q else Kc (a.put o.dst undef) (Wx.alloc (.cells #[.int .u64 y0, .int .i64 y1] 46)) := by
  refine Kd.R_append_step k46 (w0 := Wx) B hw s x 44 46 _ 16 ho Try.underlying44 info46 rfl (by decide) (by decide) v xs ⟨y0, y1⟩ [.int .u64 y0, .int .i64 y1] (fun k => B ≤ k) (fun _ => False) hs hx (k46_mkM _ _ _ _) (fun _ hk => hk.elim) (fun k hk => by omega)
    (Kd.R_mono HO (fun k hk => Kd.R_base HO k hk)) (Below.refl _ _) hbase (by omega) ?_
  intro v1 w1 h1 h2 h3 h4
  exact h v1 w1 (Nw.tight h1) h2

theorem Nw.empty {w : World} {B : Nat} (hB : B ≤ w.heap.size) : Nw (w.alloc (.cells #[] 46)) B (.slice (some ⟨w.heap.size, 0, none⟩) 0 0) [] := by
  refine ⟨fun k hk => hk, [], ?_, ?_⟩
  · have h2 := World.ownsRow_lit (base := B) (e := 46) (size := k46.sz) w #[] 0 hB (by decide) (by decide)
    simpa using h2
  · exact ⟨rfl, fun j p hj => by simp at hj⟩

theorem Nw.grown {w w' : World} {B : Nat} {v : Value} {now : List S46} {row : Option Nat} (h : Nw w B v now) (k : w.grownBy w' row) (hne : ∀ i, v.ownBlock = some i → row ≠ some i) : Nw w' B v now :=
  Kd.R_move h (fun i hv => k.block i (Kd.R_lt h i hv) (fun e => hne i hv e.symm))
theorem lowerB {w w' : World} {B C : Nat} (h : Below B w w') (hc : C ≤ B) : Below C w w' := ⟨h.os, h.tape, h.output, h.size, fun k hk => h.block k (by omega)⟩
theorem Nw.cap {w : World} {B : Nat} {A : Option Addr} {n c : Nat} {now : List S46} (h : Nw w B (.slice A n c) now) : n ≤ c := (Kd.R_reads' h).2.1

set_option maxHeartbeats 8000000 in
set_option maxRecDepth 100000 in
theorem indexMap_bad (room : Int) (A A2 : Option Addr) (n cap n2 cap2 : Nat) (W : World) (h : room < 1 ∨ 65536 < room) :
    Calls Try.prog 5 #[.int .i64 room, .slice A n cap, .slice A2 n2 cap2] W fun e W' => e = .returned (.bool true) ∧ Below W.heap.size W W' := by
  have HR := Aside0.mk h
  by_cases h1 : room < 1
  · have d1 : decide (room < 1) = true := decide_eq_true h1
    clear h
    go_enter Try.func5, Try.ntmps5
    go_wp2_with (first
      | ((with_reducible refine gate_callee (f := 16) rfl ?_); (try (refine gate_guard (by rfl) ?_; dsimp only)); refine goesL_ (some 26) rfl rfl Try.func16 (by kernel_rfl) rfl #[.int .i64 room] rfl (by (try simp only [List.map_toArray, List.map_cons, List.map_nil]); first | done | rfl) ?_; (with_reducible refine (new_bad room W HR.out).mono ?_); rintro e w1 ⟨rfl, hbel⟩; refine ⟨_, rfl, ?_⟩; have HB := Aside0.mk hbel; clear hbel)
      | ((with_reducible refine gate_callee (f := 17) rfl ?_); (try (refine gate_guard (by rfl) ?_; dsimp only)); refine goesL_ (some 35) rfl rfl Try.func17 (by kernel_rfl) rfl #[] rfl (by (try simp only [List.map_toArray, List.map_cons, List.map_nil]); first | done | rfl) ?_; (with_reducible refine (lives_calls w1).mono ?_); rintro e w2 ⟨rfl, hbel⟩; refine ⟨_, rfl, ?_⟩; have HB2 := Aside0.mk hbel; clear hbel))
    go_ret
    exact ⟨rfl, below_then HB.out HB.out.size HB2.out⟩
  · have h2 : 65536 < room := by omega
    have d1 : decide (room < 1) = false := decide_eq_false h1
    have d2 : decide (65536 < room) = true := decide_eq_true h2
    clear h
    go_enter Try.func5, Try.ntmps5
    go_wp2_with (first
      | ((with_reducible refine gate_callee (f := 16) rfl ?_); (try (refine gate_guard (by rfl) ?_; dsimp only)); refine goesL_ (some 26) rfl rfl Try.func16 (by kernel_rfl) rfl #[.int .i64 room] rfl (by (try simp only [List.map_toArray, List.map_cons, List.map_nil]); first | done | rfl) ?_; (with_reducible refine (new_bad room W HR.out).mono ?_); rintro e w1 ⟨rfl, hbel⟩; refine ⟨_, rfl, ?_⟩; have HB := Aside0.mk hbel; clear hbel)
      | ((with_reducible refine gate_callee (f := 17) rfl ?_); (try (refine gate_guard (by rfl) ?_; dsimp only)); refine goesL_ (some 35) rfl rfl Try.func17 (by kernel_rfl) rfl #[] rfl (by (try simp only [List.map_toArray, List.map_cons, List.map_nil]); first | done | rfl) ?_; (with_reducible refine (lives_calls w1).mono ?_); rintro e w2 ⟨rfl, hbel⟩; refine ⟨_, rfl, ?_⟩; have HB2 := Aside0.mk hbel; clear hbel))
    go_ret
    exact ⟨rfl, below_then HB.out HB.out.size HB2.out⟩

set_option maxHeartbeats 16000000 in
set_option maxRecDepth 100000 in
theorem indexMap_good (room : Int) (A A2 : Option Addr) (n cap n2 cap2 : Nat) (f : Nat → Bool × Int × Int) (ask : Nat → Int) (W : World) (h1 : 1 ≤ room) (h2 : room ≤ 65536) (hst : Stp W A n f) (hn : n ≤ 9223372036854775807) (hask : Ask W A2 n2 ask) (hn2 : n2 ≤ 9223372036854775807) :
    Calls Try.prog 5 #[.int .i64 room, .slice A n cap, .slice A2 n2 cap2] W fun e W' => e = .returned (.bool true) ∧ Below W.heap.size W W' := by
  have HST := Aside0.mk hst
  have HAS := Aside0.mk hask
  clear hst hask
  go_enter Try.func5, Try.ntmps5
  go_wp2_with (first
    | ((with_reducible refine gate_callee (f := 16) rfl ?_); (try (refine gate_guard (by rfl) ?_; dsimp only)); refine goesL_ (some 26) rfl rfl Try.func16 (by kernel_rfl) rfl #[.int .i64 room] rfl (by (try simp only [List.map_toArray, List.map_cons, List.map_nil]); first | done | rfl) ?_; (with_reducible refine (new_live room W h1 h2).mono ?_); rintro e w1 ⟨g, b, bits, pl, rfl, hg, hb, hl, hno, hbel⟩; refine ⟨_, rfl, ?_⟩; have HM : Aside0 (MapW W w1.heap.size g b room 0 bits pl (.slice none 0 0) [] w1) := ⟨⟨hl, Kd.R_nil _ _ _ _ _, hbel, Nat.le_refl _, hl.1.lt, hl.1.ltb, hg, hb, Sem.zero hno⟩⟩; clear hl hno hg hb hbel))
  obtain ⟨B, hB⟩ : ∃ B, B = w1.heap.size := ⟨_, rfl⟩
  rw [← hB] at HM
  clear hB
  go_loopg [9, 10] n (fun kq v9 v10 w' => ∃ (i m : Nat) (A9 : Option Addr) (c9 : Nat) (keys1 : Int) (pl1 : List S72) (now1 : List S46), v9 = .slice A9 m c9 ∧ v10 = .int .i64 (i : Int) ∧ i ≤ n ∧ m ≤ 65536 ∧ Aside0 (now1.length = m) ∧ Aside0 (kq + i = n) ∧ Aside0 (MapW W B g b room keys1 bits pl1 (.slice A9 m c9) now1 w'))
  case atStart => exact ⟨0, 0, none, 0, 0, pl, [], rfl, rfl, Nat.zero_le _, Nat.zero_le _, ⟨rfl⟩, ⟨rfl⟩, HM⟩
  case round =>
    obtain ⟨i, m, A9, c9, keys1, pl1, now1, rfl, rfl, hin, hm, HML, HK, HMW⟩ := hrel
    by_cases hi : i < n
    · obtain ⟨k1, rfl⟩ : ∃ k1, gk = k1 + 1 := ⟨gk - 1, by have := HK.out; omega⟩
      obtain ⟨ab, ao, rfl, s0, s1, s2⟩ := (HST.out.below HMW.out.bel) i hi
      obtain ⟨⟨sd, sk, sv⟩, hs⟩ : ∃ s, s = f i := ⟨_, rfl⟩
      have HS := Aside0.mk hs
      rw [← hs] at s0 s1 s2
      dsimp only at s0 s1 s2
      clear hs
      obtain ⟨j, hj⟩ : ∃ j, j = idx now1 sk := ⟨_, rfl⟩
      have HJ := Aside0.mk hj
      have hjm : j ≤ m := by rw [hj, ← HML.out]; exact idx_le _ _
      clear hj
      go_wp2_with (fail)
      go_loopg [11] j (fun kq v11 w' => ∃ k : Nat, v11 = .int .i64 (k : Int) ∧ k ≤ j ∧ Aside0 (kq + k = j) ∧ Aside0 (MapW W B g b room keys1 bits pl1 (.slice A9 m c9) now1 w'))
      case atStart => exact ⟨0, rfl, Nat.zero_le _, ⟨rfl⟩, HMW⟩
      case round =>
        clear s0 s1 s2 HMW
        obtain ⟨k, rfl, hkj, HKI, HMW⟩ := hrel
        obtain ⟨ab', ao', hab, s0, s1, s2⟩ := (HST.out.below HMW.out.bel) i hi
        obtain ⟨rfl, rfl⟩ : ab = ab' ∧ ao = ao' := by injection hab with hab; injection hab with h1 h2; exact ⟨h1, h2⟩
        rw [← HS.out] at s0 s1 s2
        dsimp only at s0 s1 s2
        clear hab
        by_cases hkm : k < m
        · obtain ⟨c, cap9, hv9, r0, r1⟩ := HMW.out.nw.at_ k (by rw [HML.out]; exact hkm)
          obtain ⟨rfl, rfl⟩ : A9 = some ⟨c, 0, none⟩ ∧ c9 = cap9 := by injection hv9 with h1 h2 h3; exact ⟨h1, h3⟩
          clear hv9
          obtain ⟨y0, hy0⟩ : ∃ y, y = (kn now1 k).f0 := ⟨_, rfl⟩
          obtain ⟨y1, hy1⟩ : ∃ y, y = (kn now1 k).f1 := ⟨_, rfl⟩
          rw [← hy0] at r0
          rw [← hy1] at r1
          have HY0 := Aside0.mk hy0
          have HY1 := Aside0.mk hy1
          clear hy0 hy1
          have d1 : decide ((k : Int) < m) = true := decide_eq_true (by omega)
          by_cases hk : k < j
          · have hne : y0 ≠ sk := by rw [HY0.out]; exact idx_ne (by rw [← HJ.out]; exact hk)
            have d2 : (y0 == sk) = false := beq_eq_false_iff_ne.mpr hne
            obtain ⟨k2, hk2⟩ : ∃ k2, k2 + 1 + k = j := ⟨j - k - 1, by omega⟩
            obtain rfl : gk = k2 + 1 := by have := HKI.out; omega
            go_wp2_with (fail)
            go_quiet (fail)
            go_wp2
            go_roundg k2
            case measure => omega
            case rel => exact ⟨k + 1, rfl, by omega, ⟨by omega⟩, ⟨HMW.out.drewN _⟩⟩
          · obtain rfl : k = j := by omega
            have heq : y0 = sk := by rw [HY0.out, HJ.out]; exact idx_key (by rw [← HJ.out, HML.out]; exact hkm)
            subst heq
            go_wp2_with (fail)
            go_quiet (fail)
            have HMD := Aside0.mk (HMW.out.drewN nq)
            have hjl : idx now1 y0 < now1.length := by rw [← HJ.out, HML.out]; exact hkm
            have HJL := Aside0.mk hjl
            have X18 : Aside0 (Calls Try.prog 18 #[.pointer (some ⟨g, 0, none⟩), .int .u64 y0] (wr.drewN nq) fun e w' => e = .returned (.tuple #[.int .i64 y1, .bool true]) ∧ ∃ pl', Live w' g b room (keys1 - 1) bits pl' ∧ Fr (fun i => i = g ∨ i = b) (wr.drewN nq) w' ∧ ∀ k x, Has pl' k x ↔ Has pl1 k x ∧ k ≠ y0) := ⟨by
              have := HMD.out.drop_there y0 hjl
              rwa [← HJ.out, ← HY1.out] at this⟩
            clear hjl
            cases sd with
            | true =>
              go_wp2_with (first
                | ((with_reducible refine gate_callee (f := 18) rfl ?_); (try (refine gate_guard (by rfl) ?_; dsimp only)); refine goesL_ (some 85) rfl rfl Try.func18 (by kernel_rfl) rfl #[.pointer (some ⟨g, 0, none⟩), .int .u64 y0] rfl (by (try simp only [List.map_toArray, List.map_cons, List.map_nil]); first | done | rfl) ?_; (with_reducible refine (X18.out).mono ?_); rintro e w2 ⟨rfl, pl2, l2, f2, hh2⟩; refine ⟨_, rfl, ?_⟩; have L2 := Aside0.mk l2; have F2 := Aside0.mk f2; have H2 := Aside0.mk hh2; have N2 := Aside0.mk (HMD.out.nw.fr f2 (fun i hi => hi.elim (fun e => by rw [e]; exact HMW.out.gB) (fun e => by rw [e]; exact HMW.out.bB))); (obtain ⟨c0', cap0', hv0, q0, q1⟩ := N2.out.at_ k (by rw [HML.out]; exact hkm)); rw [HML.out] at hv0; (obtain ⟨rfl, rfl⟩ := sl_inj hv0); rw [← HY0.out] at q0; rw [← HY1.out] at q1; clear l2 f2 hh2 hv0))
              have hmc : m ≤ cap0' := N2.out.cap
              have hkc : k ≤ cap0' := by omega
              have hkm1 : k + 1 ≤ m := by omega
              have hwr : IntKind.i64.wrap ((k : Int) + 1) = (k : Int) + 1 := IntWalk.i64_in _ (by omega)
              have hp0 : (0 : Int) ≤ (k : Int) + 1 := by omega
              have hp1 : (k : Int) + 1 ≤ (m : Int) := by omega
              have hp2 : ((k : Int) + 1).toNat = k + 1 := by omega
              have hsz2 : B ≤ w2.heap.size := Nat.le_trans HMD.out.size F2.out.size
              have BW2 : Below W.heap.size W w2 := keptOf HMD.out.gW HMD.out.bW HMD.out.bel F2.out
              have hWB : W.heap.size ≤ B := by have := HMD.out.gW; have := HMD.out.gB; omega
              have NA : Nw ((w2.alloc (Obj.cells #[] 46)).drew) B (.slice (some ⟨c0', 0, none⟩) m cap0') now1 := N2.out.keep (fun i _ hl => Below.heap_alloc _ _ _ hl)
              have hcw : c0' < w2.heap.size := Kd.R_lt N2.out c0' (by simp [Value.ownBlock])
              have KA : Aside0 (∃ wa, wa = (w2.alloc (Obj.cells #[] 46)).drew ∧ Nw wa B (.slice (some ⟨w2.heap.size, 0, none⟩) 0 0) [] ∧ ReadsRow (fun (x : S46) cs => cs = [.int .u64 x.f0, .int .i64 x.f1]) 2 wa (some ⟨c0', 0, none⟩) k (now1.take k) ∧ B ≤ wa.heap.size ∧
                  (∀ w3, wa.grownBy w3 (some w2.heap.size) → ∀ A', (0 < m - (k + 1) → A' = some ⟨c0', (k + 1) * 2, none⟩) → ReadsRow (fun (x : S46) cs => cs = [.int .u64 x.f0, .int .i64 x.f1]) 2 w3 A' (m - (k + 1)) (now1.drop (k + 1))) ∧
                  Below W.heap.size W wa ∧ Live wa g b room (keys1 - 1) bits pl2) := ⟨by
                refine ⟨_, rfl, (Nw.empty hsz2).keep (fun _ _ _ => rfl), ?_, Nat.le_trans hsz2 (Below.alloc (Below.refl _ w2) (Nat.le_refl _) _).size, ?_, ?_, L2.out.keep (Below.heap_alloc _ _ _ L2.out.1.lt) (Below.heap_alloc _ _ _ L2.out.1.ltb)⟩
                · have h7 := NA.part (c := c0') (cap := cap0') (by rw [HML.out]) 0 k (by rw [HML.out]; omega) (by omega) (some ⟨c0', 0, none⟩) (fun _ => rfl)
                  rwa [List.drop_zero] at h7
                · intro w3 hg3 A' hA'
                  have N3 := NA.grown hg3 (fun i hi e => by simp [Value.ownBlock] at hi; injection e with e; omega)
                  have h7 := N3.part (c := c0') (cap := cap0') (by rw [HML.out]) (k + 1) (m - (k + 1)) (by rw [HML.out]; omega) (by omega) A' hA'
                  rwa [List.take_of_length_le (by rw [List.length_drop, HML.out]; omega)] at h7
                · have h8 := BW2.alloc BW2.size (Obj.cells #[] 46)
                  exact ⟨h8.os, h8.tape, h8.output, h8.size, h8.block⟩⟩
              have hmk : (now1.take k).length + (m - (k + 1)) ≤ 262144 := by rw [List.length_take]; omega
              have HMK := Aside0.mk hmk
              have BWX := Aside0.mk BW2
              clear hsz2 BW2 hWB NA hcw hmk q0 q1 s0 s1 s2 r0 r1
              obtain ⟨wa, hwa, ka1, ka2, ka3, ka4, ka5, ka6⟩ := KA.out
              have KA1 := Aside0.mk ka1
              have KA2 := Aside0.mk ka2
              have KA3 := Aside0.mk ka3
              have KA4 := Aside0.mk ka4
              have KA5 := Aside0.mk ka5
              have KA6 := Aside0.mk ka6
              have HWA := Aside0.mk hwa
              clear ka1 ka2 ka3 ka4 ka5 ka6 hwa KA
              have HL0 : Aside0 (([] : List S46).length + k ≤ 262144) := ⟨by simp only [List.length_nil]; omega⟩
              have HL1 : Aside0 (([] ++ now1.take k).length + (m - (k + 1)) ≤ 262144) := ⟨by rw [List.nil_append]; exact HMK.out⟩
              have HA1 : Aside0 (0 < m - (k + 1) → (if cap0' = k + 1 then some (⟨c0', 0, none⟩ : Addr) else some ⟨c0', (k + 1) * 2, none⟩) = some ⟨c0', (k + 1) * 2, none⟩) := ⟨fun h => if_neg (by omega)⟩
              go_region_law (first
                | (rw [← HWA.out]; apply Nw.append_step (c := cap0') (s := .tmp 112) (x := .tmp 115) (HO := KA1.out) (HR := KA2.out) (hbase := KA3.out) (hl := HL0.out); (case hw => simp [Region.wanted]); (case ho => rfl); (case hs => simp [Act.eval, Act.put]); (case hx => simp [Act.eval, Act.put]; done); intro v1 w3 m1 m2 m3 m4; have M1 := Aside0.mk m1; have M2 := Aside0.mk m2; have M3 := Aside0.mk m3; clear m1 m2 m3 m4)
                | (apply Nw.append_step (c := cap0' - (k + 1)) (s := .tmp 116) (x := .tmp 120) (HO := M1.out) (HR := KA4.out _ M3.out _ HA1.out) (hbase := Nat.le_trans KA3.out M2.out.size) (hl := HL1.out); (case hw => simp [Region.wanted]); (case ho => rfl); (case hs => simp [Act.eval, Act.put]); (case hx => simp [Act.eval, Act.put]; done); intro v2 w4 m1 m2 m3 m4; have M4 := Aside0.mk m1; have M5 := Aside0.mk m2; clear m1 m2 m3 m4))
              all_goals
                have HWB : Aside0 (W.heap.size ≤ B) := ⟨by have := HMD.out.gW; have := HMD.out.gB; omega⟩
                have M6 : Aside0 (Nw w4 B v2 (now1.take k ++ now1.drop (k + 1))) := ⟨by have := M4.out; rwa [List.nil_append] at this⟩
                obtain ⟨A3, c3, hv2⟩ := M6.out.form
                obtain ⟨m3, hm3⟩ : ∃ m3, m3 = (now1.take k ++ now1.drop (k + 1)).length := ⟨_, rfl⟩
                rw [← hm3] at hv2
                have hm3' : m3 ≤ 65536 := by rw [hm3, List.length_append, List.length_take, List.length_drop, HML.out]; omega
                have HM3 := Aside0.mk hm3
                subst hv2
                have HF : Aside0 (MapW W B g b room (keys1 - 1) bits pl2 (.slice A3 m3 c3) (now1.take k ++ now1.drop (k + 1)) w4) := ⟨by
                  have hgB := HMD.out.gB
                  have hbB := HMD.out.bB
                  refine HMD.out.turn (KA6.out.keep ((M5.out.block g hgB).trans (M2.out.block g hgB)) ((M5.out.block b hbB).trans (M2.out.block b hbB))) M6.out ((KA5.out.trans (lowerB M2.out HWB.out)).trans (lowerB M5.out HWB.out)) (Nat.le_trans KA3.out (Nat.le_trans M2.out.size M5.out.size)) ?_
                  have h9 := HMD.out.sem.drop HJL.out H2.out
                  rwa [← HJ.out] at h9⟩
                clear hm3
              all_goals go_wp2
              all_goals go_roundg k1
              all_goals first
                | exact ⟨i + 1, m3, A3, c3, keys1 - 1, pl2, _, rfl, rfl, by omega, hm3', ⟨HM3.out.symm⟩, ⟨by have := HK.out; omega⟩, HF⟩
                | omega
            | false =>
              have HMDD := Aside0.mk HMD.out.drew
              go_wp2_with (fail)
              go_region_with (first | (go_at_call 19; refine (HMDD.out.put_there y0 sv HJL.out).mono ?_; rintro e w2 ⟨rfl, l2⟩))
              all_goals (have HM2 := Aside0.mk l2; clear l2)
              all_goals go_wp2
              all_goals go_roundg k1
              all_goals first
                | exact ⟨i + 1, m, _, _, keys1, pl1, now1, rfl, rfl, by omega, hm, HML, ⟨by have := HK.out; omega⟩, HM2⟩
                | omega
        · obtain rfl : k = m := by omega
          obtain rfl : k = j := by omega
          have hjl : ¬ idx now1 sk < now1.length := by rw [← HJ.out, HML.out]; omega
          have HJL := Aside0.mk hjl
          have d1 : decide ((k : Int) < k) = false := decide_eq_false (by omega)
          obtain rfl : gk = 0 := by have := HKI.out; omega
          clear hjl
          go_wp2_with (fail)
          go_quiet (fail)
          have HMD := Aside0.mk (HMW.out.drewN nq)
          have X18 := Aside0.mk (HMD.out.drop_not sk HJL.out)
          cases sd with
          | true =>
            go_wp2_with (first
              | ((with_reducible refine gate_callee (f := 18) rfl ?_); (try (refine gate_guard (by rfl) ?_; dsimp only)); refine goesL_ (some 85) rfl rfl Try.func18 (by kernel_rfl) rfl #[.pointer (some ⟨g, 0, none⟩), .int .u64 sk] rfl (by (try simp only [List.map_toArray, List.map_cons, List.map_nil]); first | done | rfl) ?_; (with_reducible refine (X18.out).mono ?_); rintro e w2 ⟨rfl, l2⟩; refine ⟨_, rfl, ?_⟩; have HM2 := Aside0.mk l2; clear l2))
            go_roundg k1
            case measure => omega
            case rel => exact ⟨i + 1, k, A9, c9, keys1, pl1, now1, rfl, rfl, by omega, hm, HML, ⟨by have := HK.out; omega⟩, HM2⟩
          | false =>
            have HMDD := Aside0.mk HMD.out.drew
            by_cases hroom : (k : Int) = room
            · have e1 : ((k : Int) == room) = true := beq_iff_eq.mpr hroom
              have e2 : decide ((k : Int) < room) = false := decide_eq_false (by omega)
              have X19 : Aside0 (Calls Try.prog 19 #[.pointer (some ⟨g, 0, none⟩), .int .u64 sk, .int .i64 sv] (wr.drewN nq).drew fun e w' => e = .returned (.int .i64 80) ∧ MapW W B g b room keys1 bits pl1 (.slice A9 k c9) now1 w') := ⟨HMDD.out.put_full sk sv HJL.out (by rw [HML.out]; exact hroom)⟩
              go_wp2_with (fail)
              go_region_with (first | (go_at_call 19; refine (X19.out).mono ?_; rintro e w2 ⟨rfl, l2⟩))
              all_goals (have HM2 := Aside0.mk l2; clear l2)
              all_goals go_wp2
              all_goals go_roundg k1
              all_goals first
                | exact ⟨i + 1, k, A9, c9, keys1, pl1, now1, rfl, rfl, by omega, hm, HML, ⟨by have := HK.out; omega⟩, HM2⟩
                | omega
            · have e1 : ((k : Int) == room) = false := beq_eq_false_iff_ne.mpr hroom
              have hlt : (k : Int) < room := by
                have g1 := HMW.out.sem.len
                have g2 := HMW.out.live.2.1.most
                rw [HML.out] at g1
                omega
              have e2 : decide ((k : Int) < room) = true := decide_eq_true hlt
              have X19 : Aside0 (Calls Try.prog 19 #[.pointer (some ⟨g, 0, none⟩), .int .u64 sk, .int .i64 sv] (wr.drewN nq).drew fun e w' => e = .returned (.int .i64 0) ∧ ∃ pl', Live w' g b room (keys1 + 1) bits pl' ∧ Fr (fun i => i = g ∨ i = b) (wr.drewN nq).drew w' ∧ ∀ k y, Has pl' k y ↔ Has pl1 k y ∨ (k = sk ∧ y = sv)) := ⟨HMDD.out.put_new sk sv HJL.out (by rw [HML.out]; exact hroom)⟩
              go_wp2_with (fail)
              go_region_with (first | (go_at_call 19; refine (X19.out).mono ?_; rintro e w2 ⟨rfl, pl2, l2, f2, hh2⟩))
              all_goals
                have L2 := Aside0.mk l2
                have F2 := Aside0.mk f2
                have H2 := Aside0.mk hh2
                have N2 := Aside0.mk (HMDD.out.nw.fr f2 (fun i hi => hi.elim (fun e => by rw [e]; exact HMW.out.gB) (fun e => by rw [e]; exact HMW.out.bB)))
                have BW2 : Aside0 (Below W.heap.size W w2) := ⟨keptOf HMDD.out.gW HMDD.out.bW HMDD.out.bel f2⟩
                have HKL : Aside0 (now1.length ≤ 262144) := ⟨by rw [HML.out]; omega⟩
                have N2D : Aside0 (Nw w2.drew B (.slice A9 k c9) now1) := ⟨N2.out.keep (fun _ _ _ => rfl)⟩
                have SZ2 : Aside0 (B ≤ w2.heap.size) := ⟨Nat.le_trans HMDD.out.size f2.size⟩
                obtain ⟨ab2, ao2, hab2, t0, t1, t2⟩ := (HST.out.below BW2.out) i hi
                obtain ⟨rfl, rfl⟩ : ab2 = ab ∧ ao2 = ao := by injection hab2 with hab2; injection hab2 with h1 h2; exact ⟨h1.symm, h2.symm⟩
                rw [← HS.out] at t0 t1 t2
                dsimp only at t0 t1 t2
                clear hab2 l2 f2 hh2 s0 s1 s2
              all_goals go_wp2_with (fail)
              all_goals go_region_law (first
                | (apply Nw.append1_step (y0 := sk) (y1 := sv) (s := .tmp 167) (x := .tmp 179) (HO := N2D.out) (hbase := SZ2.out) (hl := HKL.out); (case hw => simp [Region.wanted]); (case ho => rfl); (case hs => simp [Act.eval, Act.put]); (case hx => simp [Act.eval, Act.put]; done); intro v1 w3 m1 m2; have M1 := Aside0.mk m1; have M2 := Aside0.mk m2; clear m1 m2))
              all_goals
                obtain ⟨A3, c3, hv⟩ := M1.out.form
                have hlen : (now1 ++ [(⟨sk, sv⟩ : S46)]).length = k + 1 := by rw [List.length_append, List.length_singleton, HML.out]
                rw [hlen] at hv
                subst hv
                have hno : ¬ ∃ x, Has pl1 sk x := fun hx => HJL.out ((HMDD.out.sem.there sk).mp hx)
                have HF : Aside0 (MapW W B g b room (keys1 + 1) bits pl2 (.slice A3 (k + 1) c3) (now1 ++ [⟨sk, sv⟩]) w3) := ⟨by
                  have hgB := HMDD.out.gB
                  have hbB := HMDD.out.bB
                  have hWB : W.heap.size ≤ B := by have := HMDD.out.gW; omega
                  have hw3 : Below W.heap.size W w2.drew := ⟨BW2.out.os, BW2.out.tape, BW2.out.output, BW2.out.size, BW2.out.block⟩
                  exact HMDD.out.turn (L2.out.keep (M2.out.block g hgB) (M2.out.block b hbB)) M1.out (hw3.trans (lowerB M2.out hWB)) (Nat.le_trans SZ2.out M2.out.size) (HMDD.out.sem.put hno H2.out)⟩
                have HLEN := Aside0.mk hlen
                clear hno hlen
              all_goals go_wp2
              all_goals go_roundg k1
              all_goals first
                | exact ⟨i + 1, k + 1, A3, c3, keys1 + 1, pl2, _, rfl, rfl, by omega, by omega, HLEN, ⟨by have := HK.out; omega⟩, HF⟩
                | omega
    · have hkm : keys1 = (m : Int) := by rw [HMW.out.sem.len, HML.out]
      have e0 : (keys1 == (m : Int)) = true := beq_iff_eq.mpr hkm
      go_wp2_with (fail)
      go_loopg [16] m (fun kq v16 w' => ∃ p : Nat, v16 = .int .i64 (p : Int) ∧ p ≤ m ∧ Aside0 (kq + p = m) ∧ Aside0 (MapW W B g b room keys1 bits pl1 (.slice A9 m c9) now1 w'))
      case atStart => exact ⟨0, rfl, Nat.zero_le _, ⟨rfl⟩, HMW⟩
      case round =>
        clear HMW
        obtain ⟨p, rfl, hpm, HKP, HMW⟩ := hrel
        by_cases hp : p < m
        · obtain ⟨c, cap9, hv9, r0, r1⟩ := HMW.out.nw.at_ p (by rw [HML.out]; exact hp)
          obtain ⟨rfl, rfl⟩ : A9 = some ⟨c, 0, none⟩ ∧ c9 = cap9 := by injection hv9 with h1 h2 h3; exact ⟨h1, h3⟩
          clear hv9
          obtain ⟨y0, hy0⟩ : ∃ y, y = (kn now1 p).f0 := ⟨_, rfl⟩
          obtain ⟨y1, hy1⟩ : ∃ y, y = (kn now1 p).f1 := ⟨_, rfl⟩
          rw [← hy0] at r0
          rw [← hy1] at r1
          have HY0 := Aside0.mk hy0
          have HY1 := Aside0.mk hy1
          have hpl : p < now1.length := by rw [HML.out]; exact hp
          have HPL := Aside0.mk hpl
          have X20 : Aside0 (Calls Try.prog 20 #[.pointer (some ⟨g, 0, none⟩), .int .u64 y0] wr fun e w' => e = .returned (.tuple #[.int .i64 y1, .bool true]) ∧ MapW W B g b room keys1 bits pl1 (.slice (some ⟨c, 0, none⟩) m c9) now1 w') := ⟨by
            have hid := HMW.out.idx_self hpl
            have := HMW.out.get_there y0 (by rw [hy0, hid]; exact hpl)
            rw [hy0, hid, ← hy1] at this
            rw [hy0]
            exact this⟩
          clear hy0 hy1 hpl
          obtain ⟨k2, rfl⟩ : ∃ k2, gk = k2 + 1 := ⟨gk - 1, by have := HKP.out; omega⟩
          go_wp2_with (first
            | ((with_reducible refine gate_callee (f := 20) rfl ?_); (try (refine gate_guard (by rfl) ?_; dsimp only)); refine goesL_ (some 194) rfl rfl Try.func20 (by kernel_rfl) rfl #[.pointer (some ⟨g, 0, none⟩), .int .u64 y0] rfl (by (try simp only [List.map_toArray, List.map_cons, List.map_nil]); first | done | rfl) ?_; (with_reducible refine (X20.out).mono ?_); rintro e w2 ⟨rfl, l2⟩; refine ⟨_, rfl, ?_⟩; have HM2 := Aside0.mk l2; (obtain ⟨c0', cap0', hv0, q0, q1⟩ := HM2.out.nw.at_ p HPL.out); rw [HML.out] at hv0; (obtain ⟨rfl, rfl⟩ := sl_inj hv0); rw [← HY0.out] at q0; rw [← HY1.out] at q1; clear l2 hv0))
          go_roundg k2
          case measure => omega
          case rel => exact ⟨p + 1, rfl, by omega, ⟨by have := HKP.out; omega⟩, HM2⟩
        · go_wp2_with (fail)
          go_loopg [19] n2 (fun kq v19 w' => ∃ q : Nat, v19 = .int .i64 (q : Int) ∧ q ≤ n2 ∧ Aside0 (kq + q = n2) ∧ Aside0 (MapW W B g b room keys1 bits pl1 (.slice A9 m c9) now1 w'))
          case atStart => exact ⟨0, rfl, Nat.zero_le _, ⟨rfl⟩, HMW⟩
          case round =>
            clear HMW
            obtain ⟨q, rfl, hqn, HKQ, HMW⟩ := hrel
            by_cases hq : q < n2
            · obtain ⟨x, hx⟩ : ∃ x, x = ask q := ⟨_, rfl⟩
              have HX := Aside0.mk hx
              clear hx
              obtain ⟨j, hj⟩ : ∃ j, j = idx now1 x := ⟨_, rfl⟩
              have HJ := Aside0.mk hj
              clear hj
              obtain ⟨k2, rfl⟩ : ∃ k2, gk = k2 + 1 := ⟨gk - 1, by have := HKQ.out; omega⟩
              go_wp2_with (fail)
              go_loopg [20, 21] m (fun kq v20 v21 w' => ∃ k : Nat, v20 = .bool (decide (j < k)) ∧ v21 = .int .i64 (k : Int) ∧ k ≤ m ∧ Aside0 (kq + k = m) ∧ Aside0 (MapW W B g b room keys1 bits pl1 (.slice A9 m c9) now1 w'))
              case atStart => exact ⟨0, rfl, rfl, Nat.zero_le _, ⟨rfl⟩, HMW⟩
              case round =>
                clear HMW
                obtain ⟨k, rfl, rfl, hkm2, HKI, HMW⟩ := hrel
                obtain ⟨ab, ao, hA2, t0⟩ := (HAS.out.below HMW.out.bel) q hq
                obtain rfl := hA2
                rw [← HX.out] at t0
                by_cases hk : k < m
                · obtain ⟨c, cap9, hv9, r0, r1⟩ := HMW.out.nw.at_ k (by rw [HML.out]; exact hk)
                  obtain ⟨rfl, rfl⟩ : A9 = some ⟨c, 0, none⟩ ∧ c9 = cap9 := by injection hv9 with h1 h2 h3; exact ⟨h1, h3⟩
                  have hkl : k < now1.length := by rw [HML.out]; exact hk
                  have hself := HMW.out.idx_self hkl
                  obtain ⟨y0, hy0⟩ : ∃ y, y = (kn now1 k).f0 := ⟨_, rfl⟩
                  rw [← hy0] at r0 hself
                  have hjk : (y0 = x) ↔ j = k := ⟨fun e => by rw [HJ.out, ← e]; exact hself, fun e => by rw [hy0, ← e, HJ.out]; exact idx_key (by rw [← HJ.out, e]; exact hkl)⟩
                  have HJK := Aside0.mk hjk
                  clear hv9 hkl hself hy0 hjk
                  obtain ⟨k3, rfl⟩ : ∃ k3, gk = k3 + 1 := ⟨gk - 1, by have := HKI.out; omega⟩
                  by_cases cj : j < k
                  · have b1 : decide (j < k) = true := decide_eq_true cj
                    rw [b1]
                    go_wp2_with (fail)
                    go_quiet (fail)
                    go_wp2
                    go_roundg k3
                    case measure => omega
                    case rel => exact ⟨k + 1, by rw [decide_eq_true (by omega)], rfl, by omega, ⟨by have := HKI.out; omega⟩, ⟨HMW.out.drewN _⟩⟩
                  · have b1 : decide (j < k) = false := decide_eq_false cj
                    rw [b1]
                    by_cases ce : y0 = x
                    · have b2 : (y0 == x) = true := beq_iff_eq.mpr ce
                      go_wp2_with (fail)
                      go_quiet (fail)
                      go_wp2
                      go_roundg k3
                      case measure => omega
                      case rel => exact ⟨k + 1, by rw [decide_eq_true (by have := HJK.out.mp ce; omega)], rfl, by omega, ⟨by have := HKI.out; omega⟩, ⟨HMW.out.drewN _⟩⟩
                    · have b2 : (y0 == x) = false := beq_eq_false_iff_ne.mpr ce
                      go_wp2_with (fail)
                      go_quiet (fail)
                      go_wp2
                      go_roundg k3
                      case measure => omega
                      case rel => exact ⟨k + 1, by rw [decide_eq_false (fun h => ce (HJK.out.mpr (by omega)))], rfl, by omega, ⟨by have := HKI.out; omega⟩, ⟨HMW.out.drewN _⟩⟩
                · obtain rfl : k = m := by omega
                  have X20 : Aside0 (Calls Try.prog 20 #[.pointer (some ⟨g, 0, none⟩), .int .u64 x] wr fun e w' => ∃ z, e = .returned (.tuple #[.int .i64 z, .bool (decide (j < k))]) ∧ MapW W B g b room keys1 bits pl1 (.slice A9 k c9) now1 w') := ⟨by
                    have := HMW.out.get_ask x
                    rwa [← HJ.out, HML.out] at this⟩
                  obtain ⟨bb, hbb⟩ : ∃ bb, bb = decide (j < k) := ⟨_, rfl⟩
                  rw [← hbb] at X20 ⊢
                  clear hbb
                  cases bb with
                  | true =>
                    go_wp2_with (first
                      | ((with_reducible refine gate_callee (f := 20) rfl ?_); (try (refine gate_guard (by rfl) ?_; dsimp only)); refine goesL_ (some 239) rfl rfl Try.func20 (by kernel_rfl) rfl #[.pointer (some ⟨g, 0, none⟩), .int .u64 x] rfl (by (try simp only [List.map_toArray, List.map_cons, List.map_nil]); first | done | rfl) ?_; (with_reducible refine (X20.out).mono ?_); rintro e w2 ⟨z, rfl, l2⟩; refine ⟨_, rfl, ?_⟩; have HM2 := Aside0.mk l2; clear l2))
                    go_roundg k2
                    case measure => omega
                    case rel => exact ⟨q + 1, rfl, by omega, ⟨by have := HKQ.out; omega⟩, HM2⟩
                  | false =>
                    go_wp2_with (first
                      | ((with_reducible refine gate_callee (f := 20) rfl ?_); (try (refine gate_guard (by rfl) ?_; dsimp only)); refine goesL_ (some 239) rfl rfl Try.func20 (by kernel_rfl) rfl #[.pointer (some ⟨g, 0, none⟩), .int .u64 x] rfl (by (try simp only [List.map_toArray, List.map_cons, List.map_nil]); first | done | rfl) ?_; (with_reducible refine (X20.out).mono ?_); rintro e w2 ⟨z, rfl, l2⟩; refine ⟨_, rfl, ?_⟩; have HM2 := Aside0.mk l2; clear l2))
                    go_roundg k2
                    case measure => omega
                    case rel => exact ⟨q + 1, rfl, by omega, ⟨by have := HKQ.out; omega⟩, HM2⟩
            · go_wp2_with (first
                | ((with_reducible refine gate_callee (f := 14) rfl ?_); (try (refine gate_guard (by rfl) ?_; dsimp only)); refine goesL_ (some 246) rfl rfl Try.func14 (by kernel_rfl) rfl #[.pointer (some ⟨g, 0, none⟩)] rfl (by (try simp only [List.map_toArray, List.map_cons, List.map_nil]); first | done | rfl) ?_; (with_reducible refine (len_calls HMW.out.ix).mono ?_); rintro e w2 ⟨rfl, h5⟩; subst w2; refine ⟨_, rfl, ?_⟩)
                | ((with_reducible refine gate_callee (f := 17) rfl ?_); (try (refine gate_guard (by rfl) ?_; dsimp only)); refine goesL_ (some 251) rfl rfl Try.func17 (by kernel_rfl) rfl #[] rfl (by (try simp only [List.map_toArray, List.map_cons, List.map_nil]); first | done | rfl) ?_; (with_reducible refine (lives_calls wr).mono ?_); rintro e w4 ⟨rfl, bel⟩; refine ⟨_, rfl, ?_⟩; have HB4 : Aside0 (Below W.heap.size W w4) := ⟨below_then HMW.out.bel HMW.out.bel.size bel⟩; clear bel))
              go_ret
              exact ⟨rfl, HB4.out⟩
end Go.Proofs.Ytmcaoecmjibegaa.PIx
