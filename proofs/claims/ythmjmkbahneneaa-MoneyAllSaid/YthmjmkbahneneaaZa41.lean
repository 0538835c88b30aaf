/- MonT, struck of what this claim does not name (wip/tools/pack2.py). -/
import Derived.Test.YthmjmkbahneneaaZa27
import Derived.Test.YthmjmkbahneneaaZa39
import Derived.Test.YthmjmkbahneneaaZa40
import Derived.Test.YthmjmkbahneneaaZa16
import Derived.Laws.OwnMore
section
namespace Go.Proofs.Ythmjmkbahneneaa.PMon
open Go.RowKit Go.Proofs.YthmjmkbahneneaaW.PrintWords Go.Proofs.YthmjmkbahneneaaW.PrintLast Go.Proofs.YthmjmkbahneneaaW.PrintMore
set_option linter.unusedVariables false
set_option linter.unusedSimpArgs false

def dg (n : Nat) : UInt8 := UInt8.ofNat (48 + n % 10)
theorem dg_nat (n : Nat) : (dg n).toNat = 48 + n % 10 := by
  unfold dg
  rw [UInt8.toNat_ofNat']
  omega
def lds (m : Nat) : List UInt8 := if h : m = 0 then [] else dg m :: lds (m / 10)
termination_by m
decreasing_by omega
def tl (m : Nat) : List UInt8 := if m = 0 then [48] else lds m
def rem (j n : Nat) : List UInt8 := match j with
  | 0 => dg n :: dg (n / 10) :: 46 :: tl (n / 10 / 10)
  | 1 => dg n :: 46 :: tl (n / 10)
  | _ => lds n
def back (v : Int) : List UInt8 := rem 0 v.natAbs ++ (if v < 0 then [45] else [])
def text (v : Int) : List UInt8 := (back v).reverse

theorem lds_zero : lds 0 = [] := by unfold lds; rfl
theorem lds_pos (m : Nat) (h : m ≠ 0) : lds m = dg m :: lds (m / 10) := by
  conv => lhs; unfold lds
  rw [dif_neg h]

def By (w : World) (B : Nat) (v : Value) (L : List UInt8) : Prop := w.ownsRow B 5 1 v L.length (Lib.byteCells L)
namespace By
variable {w w' : World} {B : Nat} {v : Value} {L : List UInt8}
theorem nil (w : World) (B : Nat) : By w B (.slice none 0 0) [] := World.ownsRow_nil w B 5 1
theorem form (h : By w B v L) : ∃ A c, v = .slice A L.length c := by
  rcases h.2 with ⟨rfl, h0⟩ | ⟨g, cap, cur, hv, _⟩
  · exact ⟨none, 0, by rw [h0]⟩
  · exact ⟨_, cap, hv⟩
theorem keep (h : By w B v L) (hk : ∀ k, v.ownBlock = some k → B ≤ k → k < w.heap.size → w'.heap[k]? = w.heap[k]?) : By w' B v L := by
  refine ⟨h.1, ?_⟩
  rcases h.2 with h0 | ⟨g, cap, cur, hv, hb, hg, rest⟩
  · exact .inl h0
  · refine .inr ⟨g, cap, cur, hv, hb, ?_, rest⟩
    rw [hk g (by rw [hv]; rfl) hb (blk_lt hg)]
    exact hg
theorem below (h : By w B v L) (k : Below w.heap.size w w') : By w' B v L := h.keep fun i _ _ hl => k.block i hl
theorem at_ (h : By w B v L) (i : Nat) (hi : i < L.length) : ∃ c cap, v = .slice (some ⟨c, 0, none⟩) L.length cap ∧ w.cell? ⟨c, i, none⟩ = some (.int .u8 ((L.getD i 0).toNat : Int)) := by
  rcases h.2 with ⟨_, h0⟩ | ⟨g, cap, cur, hv, hb, hg, rest⟩
  · omega
  · refine ⟨g, cap, hv, ?_⟩
    have h' := h
    unfold By at h'
    rw [hv] at h'
    rw [World.ownsRow.cellAt h' i (by omega)]
    unfold Lib.byteCells
    rw [List.getElem?_map, List.getElem?_eq_getElem hi, List.getD_eq_getElem?_getD, List.getElem?_eq_getElem hi]
    rfl
end By

theorem cells_snoc (L : List UInt8) (c : UInt8) : Lib.byteCells (L ++ [c]) = Lib.byteCells L ++ [.int .u8 (c.toNat : Int)] := by
  unfold Lib.byteCells
  rw [List.map_append]
  rfl

theorem app1 {ops : Array Oper} {rest : List Oper} {o : Oper} {a : Act} {Q : Exit → Act → World → Prop} {W : World} {B : Nat} {v : Value} {L : List UInt8}
    (hgd : o.guard = none) (s x : Operand) (ho : o.op = .call { callee := .builtin .append, args := #[s, x], argTypes := #[88, 88] }) (hs : a.eval s = v) (y : Int) (c : UInt8) (hy : y = (c.toNat : Int)) (hx : a.eval x = .slice (some ⟨W.heap.size, 0, none⟩) 1 1)
    (HO : By W B v L) (hB : B ≤ W.heap.size) (hl : L.length + 1 ≤ 1000)
    (h : ∀ v1 w1, By w1 B v1 (L ++ [c]) → Below B W w1 → wpList Try.prog ops Q rest (a.put o.dst v1) w1) :
    wpList Try.prog ops Q (o :: rest) a (W.alloc (.cells #[.int .u8 y] 5)) := by
  obtain ⟨i0, hi, hz0, hz1, hz2⟩ := info_parts infoByte
  subst hy
  refine wpList_append_own _ hgd s x 88 ho B 5 i0 (.int .u8 0) 1 1 Try.underlying88 hi hz0 hz1 hz2 rfl (by decide) v _ _ hs (World.ownsRow.alloc HO _) ⟨W.heap.size, 0, none⟩ 1 1 [.int .u8 (c.toNat : Int)] hx rfl ?_ ?_ ?_ ?_ ?_ ?_
  · intro j u hj
    match j, hj with
    | 0, hj =>
      simp at hj
      subst hj
      exact (blk_cell (World.alloc_heap_new W _) 0).trans rfl
  · intro u hu
    simp at hu
    subst hu
    rfl
  · unfold maxLen; omega
  · omega
  · rw [World.size_alloc]; omega
  · intro v1 w1 h1 h2 _
    refine h v1 w1 ?_ ?_
    · unfold By
      rw [cells_snoc, List.length_append]
      exact h1
    · refine ((Below.refl B W).alloc hB _).grown h2 (by rw [World.size_alloc]; omega) (fun k hk => (World.ownsRow.lt HO k hk).1)
end Go.Proofs.Ythmjmkbahneneaa.PMon
end
