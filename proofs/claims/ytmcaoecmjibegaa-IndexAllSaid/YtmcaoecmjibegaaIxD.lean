/- Slots: the table, place by place. -/
import Derived.Test.YtmcaoecmjibegaaIxC
namespace Go.Proofs.Ytmcaoecmjibegaa.PIx
open Go.RowKit Go.Proofs.YtmcaoecmjibegaaW.PrintWords Go.Proofs.YtmcaoecmjibegaaW.PrintLast Go.Proofs.YtmcaoecmjibegaaW.PrintMore
set_option linter.unusedVariables false
set_option linter.unusedSimpArgs false

theorem slots_loop (a b c : Int) (pl : List S72) (hn : pl.length ≤ 131072) : ∀ (d i : Nat) (x : List S59) (k : Nat), d + i = pl.length → x.length = pl.length → d < k → x.take i = (pl.take i).map (·.f0) →
    index_Index_int_Slots.l0 k x pl (pl.length : Int) (i : Int) a b c pl = some (pl.map (·.f0), a, b, c) := by
  intro d
  induction d with
  | zero =>
    intro i x k hd hx hk ht
    obtain ⟨k, rfl⟩ : ∃ m, k = m + 1 := ⟨k - 1, by omega⟩
    simp only [index_Index_int_Slots.l0]
    rw [if_neg (by omega)]
    have h1 : i = pl.length := by omega
    rw [h1, List.take_length, ← hx, List.take_length] at ht
    rw [ht]
  | succ d ih =>
    intro i x k hd hx hk ht
    obtain ⟨k, rfl⟩ : ∃ m, k = m + 1 := ⟨k - 1, by omega⟩
    simp only [index_Index_int_Slots.l0]
    rw [if_pos (by omega), if_pos (by omega), if_pos (by omega), if_pos (by omega)]
    have hw : wrap64 ((i : Int) + 1) = ((i + 1 : Nat) : Int) := by unfold wrap64; omega
    rw [hw]
    have hi : i < pl.length := by omega
    refine ih (i + 1) _ k (by omega) (by simpa using hx) (by omega) ?_
    have e1 : rd_T72 pl (i : Int) = pl[i] := by simp [rd_T72, List.getElem?_eq_getElem hi]
    rw [e1]
    simp only [Int.toNat_natCast]
    have e2 : ∀ v, (x.set i v).take (i + 1) = x.take i ++ [v] := by
      intro v
      have hxi : i < x.length := by omega
      rw [List.take_add_one, List.getElem?_set_self hxi]
      congr 1
      apply List.ext_getElem?
      intro j
      rw [List.getElem?_take, List.getElem?_take]
      split
      · rw [List.getElem?_set_ne (by omega)]
      · rfl
    rw [e2, ht, List.take_add_one, List.getElem?_eq_getElem hi, List.map_append]
    rfl

theorem slots_pure (a b c : Int) (pl : List S72) (hn : pl.length ≤ 131072) : index_Index_int_Slots.f (pl.length + 1) a b c pl = some (pl.map (·.f0), a, b, c) := by
  unfold index_Index_int_Slots.f
  rw [if_pos (by omega), if_pos (by omega)]
  exact slots_loop a b c pl hn pl.length 0 _ _ (by omega) (by simp) (by omega) (by simp)

theorem slots_calls {W : World} {g b : Nat} {room keys : Int} {bits : Nat} {pl : List S72} (h : Ix W g b room keys bits pl) (hn : pl.length ≤ 131072) :
    Calls Try.prog 15 #[.pointer (some ⟨g, 0, none⟩)] W fun e W' => ∃ v : Value, e = .returned v ∧ Kd.R k59 59 W' W.heap.size (fun _ => True) v (pl.map (·.f0)) ∧ Below W.heap.size W W' := by
  refine (index_Index_int_Slots.calls (pl.length + 1) g room keys bits pl _ _ _ _ W W h.is (Below.refl _ _) (slots_pure room keys bits pl hn)).mono ?_
  rintro e W' ⟨v, rfl, h1, h2, h3, h4⟩
  exact ⟨v, rfl, h1, h3⟩

set_option maxHeartbeats 8000000 in
set_option maxRecDepth 100000 in
theorem room_calls {W : World} {g b : Nat} {room keys : Int} {bits : Nat} {pl : List S72} (h : Ix W g b room keys bits pl) :
    Calls Try.prog 13 #[.pointer (some ⟨g, 0, none⟩)] W fun e w' => e = .returned (.int .i64 room) ∧ w' = W := by
  obtain ⟨c, hh, _⟩ := h
  have hc0 : W.cell? ⟨g, 0, none⟩ = some (.int .i64 room) := (blk_cell hh 0).trans rfl
  clear hh
  go_enter Try.func13, Try.ntmps13
  go_wp2
  go_ret
  exact ⟨rfl, rfl⟩

set_option maxHeartbeats 8000000 in
set_option maxRecDepth 100000 in
theorem len_calls {W : World} {g b : Nat} {room keys : Int} {bits : Nat} {pl : List S72} (h : Ix W g b room keys bits pl) :
    Calls Try.prog 14 #[.pointer (some ⟨g, 0, none⟩)] W fun e w' => e = .returned (.int .i64 keys) ∧ w' = W := by
  obtain ⟨c, hh, _⟩ := h
  have hc0 : W.cell? ⟨g, 1, none⟩ = some (.int .i64 keys) := (blk_cell hh 1).trans rfl
  clear hh
  go_enter Try.func14, Try.ntmps14
  go_wp2
  go_ret
  exact ⟨rfl, rfl⟩
end Go.Proofs.Ytmcaoecmjibegaa.PIx
