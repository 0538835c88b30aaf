/- MonX, struck of what this claim does not name (wip/tools/pack2.py). -/
import Derived.Test.YthmjmkbahneneaaZa20
section
namespace Go.Proofs.Ythmjmkbahneneaa.PMon
open Go.RowKit Go.Proofs.YthmjmkbahneneaaW.PrintWords Go.Proofs.YthmjmkbahneneaaW.PrintLast Go.Proofs.YthmjmkbahneneaaW.PrintMore
set_option linter.unusedVariables false
set_option maxHeartbeats 8000000 in
set_option maxRecDepth 100000 in
theorem rtext_gen (k : Nat) (neg : Bool) (A : Option Addr) (c : Nat) (l : List Int) (t : ByteArray) (m : Int) (w : World) (hr : Kd.C (Kd.int .u32) w A l.length l) (hc : l.length ≤ c) (h : bourseref01_decimal.f k l = some t)
    (e1 : wrap64 ((t.size : Int) - 2) = m) (h0 : 0 ≤ m) (h1 : m ≤ (t.size : Int)) (s1 s2 : ByteArray) (hs1 : s1 = t.extract 0 m.toNat) (hs2 : s2 = t.extract m.toNat t.size) (f1 : s1.size + 1 ≤ 9223372036854775807)
    (f2 : (s1 ++ (⟨#[46]⟩ : ByteArray)).size + s2.size ≤ 9223372036854775807) (h3 : neg = true → 1 + ((s1 ++ (⟨#[46]⟩ : ByteArray)) ++ s2).size ≤ 9223372036854775807) :
    Calls Try.prog 31 #[.agg #[.bool neg, .slice A l.length c]] w fun e w' => e = .returned (.string (if neg then (⟨#[45]⟩ : ByteArray) ++ ((s1 ++ (⟨#[46]⟩ : ByteArray)) ++ s2) else ((s1 ++ (⟨#[46]⟩ : ByteArray)) ++ s2))) ∧ Below w.heap.size w w' := by
  have HR := Aside0.mk hr
  have HC := Aside0.mk hc
  have HD := Aside0.mk h
  have e2 : (0 ≤ m) = True := eq_true h0
  have e3 : (m ≤ (t.size : Int)) = True := eq_true h1
  have H3 := Aside0.mk h3
  have g1 := hs1.symm
  have g2 := hs2.symm
  clear hr hc h h0 h1 h3 hs1 hs2
  have HB := Aside0.mk (Below.refl w.heap.size w)
  cases neg with
  | true =>
    have f3 := H3.out rfl
    go_enter Try.func31, Try.ntmps31
    go_upto_region 2 with (first
      | ((with_reducible refine gate_dst (N := 1) rfl ?_); refine box_event ?hg (N := 1) ?hd (cs := #[.bool true, .slice A l.length c]) (t := 46) ?hr ?_; (case hd => rfl); (case hg => rfl); (case hr => first | (go_simp; done) | (go_simp; rfl)); intro gb hg w12 hbox hb; have HBX := Aside0.mk hbox; have HBB := Aside0.mk (And.intro hb hg); clear hb hbox hg; have hcz0 : w12.cell? ⟨gb, 0, none⟩ = some (.bool true) := (blk_cell HBX.out 0).trans rfl; have hcz1 : w12.cell? ⟨gb, 1, none⟩ = some (.slice A l.length c) := (blk_cell HBX.out 1).trans rfl)
      | (go_at_call 60; (with_reducible refine (bourseref01_decimal.calls k (fun k_ => k_ < w.heap.size) _ _ l t _ ?side1 HD.out).mono ?_); (case side1 => exact Kd.V_mk HC.out (Kd.F_below (Kd.C_F (Kd.heap_int .u32) HR.out) HBB.out.1)); rintro e w14 ⟨rfl, hb⟩; have q0 := pw_cell_below hb hcz0; have HB14 := Aside0.mk hb; clear hb))
    go_quiet (fail)
    obtain ⟨s3, hs3⟩ : ∃ s3, s3 = s1 ++ (⟨#[46]⟩ : ByteArray) ++ s2 := ⟨_, rfl⟩
    rw [← hs3] at f3 ⊢
    have f4 : (9223372036854775807 < 1 + s3.size) = False := eq_false (Nat.not_lt.2 f3)
    have f5 : decide (1 + s3.size ≤ 9223372036854775807) = true := decide_eq_true f3
    have HS3 := Aside0.mk hs3
    clear hs3
    go_wp2_with (fail)
    go_ret
    exact ⟨by (first | rw [← HS3.out] | skip); rfl, below_then HBB.out.1 HBB.out.1.size (pw_below_drewN HB14.out nq)⟩
  | false =>
    go_enter Try.func31, Try.ntmps31
    go_upto_region 2 with (first
      | ((with_reducible refine gate_dst (N := 1) rfl ?_); refine box_event ?hg (N := 1) ?hd (cs := #[.bool false, .slice A l.length c]) (t := 46) ?hr ?_; (case hd => rfl); (case hg => rfl); (case hr => first | (go_simp; done) | (go_simp; rfl)); intro gb hg w12 hbox hb; have HBX := Aside0.mk hbox; have HBB := Aside0.mk (And.intro hb hg); clear hb hbox hg; have hcz0 : w12.cell? ⟨gb, 0, none⟩ = some (.bool false) := (blk_cell HBX.out 0).trans rfl; have hcz1 : w12.cell? ⟨gb, 1, none⟩ = some (.slice A l.length c) := (blk_cell HBX.out 1).trans rfl)
      | (go_at_call 60; (with_reducible refine (bourseref01_decimal.calls k (fun k_ => k_ < w.heap.size) _ _ l t _ ?side1 HD.out).mono ?_); (case side1 => exact Kd.V_mk HC.out (Kd.F_below (Kd.C_F (Kd.heap_int .u32) HR.out) HBB.out.1)); rintro e w14 ⟨rfl, hb⟩; have q0 := pw_cell_below hb hcz0; have HB14 := Aside0.mk hb; clear hb))
    go_quiet (fail)
    go_wp2_with (fail)
    go_ret
    exact ⟨rfl, below_then HBB.out.1 HBB.out.1.size (pw_below_drewN HB14.out nq)⟩
theorem rtext_calls (k : Nat) (neg : Bool) (A : Option Addr) (c : Nat) (l : List Int) (t : ByteArray) (m : Int) (w : World) (hr : Kd.C (Kd.int .u32) w A l.length l) (hc : l.length ≤ c) (h : bourseref01_decimal.f k l = some t)
    (hm : m = (t.size : Int) - 2) (h2 : 2 ≤ t.size) (hx : t.size ≤ 1000) :
    Calls Try.prog 31 #[.agg #[.bool neg, .slice A l.length c]] w fun e w' => e = .returned (.string (if neg then (⟨#[45]⟩ : ByteArray) ++ ((t.extract 0 m.toNat ++ (⟨#[46]⟩ : ByteArray)) ++ t.extract m.toNat t.size) else ((t.extract 0 m.toNat ++ (⟨#[46]⟩ : ByteArray)) ++ t.extract m.toNat t.size))) ∧ Below w.heap.size w w' := by
  have l1 : (t.extract 0 m.toNat).size ≤ 1000 := by rw [ByteArray.size_extract]; omega
  have l2 : (t.extract m.toNat t.size).size ≤ 1000 := by rw [ByteArray.size_extract]; omega
  refine rtext_gen k neg A c l t m w hr hc h (by rw [hm]; unfold wrap64; omega) (by omega) (by omega) _ _ rfl rfl (by omega) ?_ (fun _ => ?_)
  · rw [ByteArray.size_append]; show (t.extract 0 m.toNat).size + 1 + (t.extract m.toNat t.size).size ≤ _; omega
  · rw [ByteArray.size_append, ByteArray.size_append]; show 1 + ((t.extract 0 m.toNat).size + 1 + (t.extract m.toNat t.size).size) ≤ _; omega
theorem bourseref01_Money_Text.calls (k : Nat) (a0_0 : Bool) (A0_1 : Option Addr) (c0_1 : Nat) (l0_1 : List Int) (r : ByteArray) (w : World) (hr0_1 : Kd.C (Kd.int .u32) w A0_1 l0_1.length l0_1) (hc0_1 : l0_1.length ≤ c0_1) (h : bourseref01_Money_Text.f k a0_0 l0_1 = some r) :
    Calls Try.prog 31 #[.agg #[.bool a0_0, .slice A0_1 l0_1.length c0_1]] w fun e w' => e = .returned (.string r) ∧ Below w.heap.size w w' := by
  unfold bourseref01_Money_Text.f at h
  obtain ⟨t, ht, h⟩ := Option.bind_eq_some_iff.mp h
  obtain ⟨m, hm⟩ : ∃ m, m = wrap64 ((t.size : Int) - 2) := ⟨_, rfl⟩
  rw [← hm] at h
  by_cases h0 : 0 ≤ m
  · rw [if_pos h0] at h
    by_cases h1 : m ≤ (t.size : Int)
    · rw [if_pos h1] at h
      by_cases f1 : (t.extract 0 m.toNat).size + 1 ≤ 9223372036854775807
      · rw [if_pos f1] at h
        by_cases f2 : (t.extract 0 m.toNat ++ (⟨#[46]⟩ : ByteArray)).size + (t.extract m.toNat t.size).size ≤ 9223372036854775807
        · rw [if_pos f2] at h
          by_cases hn : a0_0 = true
          · rw [if_pos hn] at h
            by_cases f3 : 1 + ((t.extract 0 m.toNat ++ (⟨#[46]⟩ : ByteArray)) ++ t.extract m.toNat t.size).size ≤ 9223372036854775807
            · rw [if_pos f3] at h
              refine (rtext_gen k a0_0 A0_1 c0_1 l0_1 t m w hr0_1 hc0_1 ht hm.symm h0 h1 _ _ rfl rfl f1 f2 (fun _ => f3)).mono fun E w' ⟨e, hb⟩ => ⟨e.trans ?_, hb⟩
              rw [if_pos hn, Option.some.inj h]
            · rw [if_neg f3] at h; cases h
          · rw [if_neg hn] at h
            refine (rtext_gen k a0_0 A0_1 c0_1 l0_1 t m w hr0_1 hc0_1 ht hm.symm h0 h1 _ _ rfl rfl f1 f2 (fun g => absurd g hn)).mono fun E w' ⟨e, hb⟩ => ⟨e.trans ?_, hb⟩
            rw [if_neg hn, Option.some.inj h]
        · rw [if_neg f2] at h; cases h
      · rw [if_neg f1] at h; cases h
    · rw [if_neg h1] at h; cases h
  · rw [if_neg h0] at h; cases h
end Go.Proofs.Ythmjmkbahneneaa.PMon
end
