/- What All hands over: pure facts; All itself. -/
import Derived.Test.YtmcaoecmjibegaaIxZ
namespace Go.Proofs.Ytmcaoecmjibegaa.PIx
open Go.RowKit Go.Proofs.YtmcaoecmjibegaaW.PrintWords Go.Proofs.YtmcaoecmjibegaaW.PrintLast Go.Proofs.YtmcaoecmjibegaaW.PrintMore
open Go.Shelf
set_option linter.unusedVariables false
set_option linter.unusedSimpArgs false

theorem used_len {room keys : Int} {bits : Nat} {pl : List S72} (h : Fit room keys bits pl) : ((used pl).length : Int) = keys := by
  rw [h.num]
  unfold used cnt
  rw [List.countP_eq_length_filter]
theorem Srt.len {room keys : Int} {bits : Nat} {pl l : List S72} (h : Srt pl l) (hf : Fit room keys bits pl) : (l.length : Int) = keys := by
  rw [h.1.length_eq]; exact used_len hf
theorem Srt.nod {bits : Nat} {pl l : List S72} (h : Srt pl l) (hw : WF bits pl) : ((l.map kv).map (·.1)).Nodup := by
  rw [List.map_map]
  exact (h.1.map (fun s : S72 => s.f0.f1)).nodup_iff.mpr (keysOf_nodup hw.dis)
theorem Srt.has {pl l : List S72} (h : Srt pl l) (k v : Int) : Has pl k v ↔ (k, v) ∈ l.map kv := by
  constructor
  · rintro ⟨i, hi, hu, hk, hv⟩
    have hm : pa pl i ∈ l := h.1.mem_iff.mpr (List.mem_filter.mpr ⟨by rw [pa_lt pl i hi]; exact List.getElem_mem hi, hu⟩)
    exact List.mem_map.mpr ⟨_, hm, by unfold kv; rw [← hk, ← hv]; rfl⟩
  · intro hm
    obtain ⟨s, hs, he⟩ := List.mem_map.mp hm
    obtain ⟨h1, h2⟩ := List.mem_filter.mp (h.1.mem_iff.mp hs)
    obtain ⟨i, hi, rfl⟩ := List.mem_iff_getElem.mp h1
    refine ⟨i, hi, ?_, ?_, ?_⟩
    · unfold us; rw [pa_lt pl i hi]; exact h2
    · unfold ky; rw [pa_lt pl i hi]; exact congrArg Prod.fst he
    · unfold vl; rw [pa_lt pl i hi]; exact congrArg Prod.snd he
/-- What comes next is new, and there is room. -/
theorem Srt.next {bits : Nat} {pl l : List S72} {pre : List (Int × Int)} {x : Int × Int} (h : Srt pl l) (hw : WF bits pl) (hp : pre ++ [x] <+: l.map kv) : (∀ v, (x.1, v) ∉ pre) ∧ pre.length < l.length ∧ x ∈ l.map kv := by
  obtain ⟨t, ht⟩ := hp
  have hn := h.nod hw
  rw [← ht, List.map_append, List.map_append, List.append_assoc] at hn
  refine ⟨fun v hv => ?_, ?_, ?_⟩
  · have h1 := (List.nodup_append.mp hn).2.2
    exact h1 x.1 (List.mem_map.mpr ⟨_, hv, rfl⟩) x.1 (List.mem_append_left _ (List.mem_singleton.mpr rfl)) rfl
  · have := congrArg List.length ht
    rw [List.length_append, List.length_append, List.length_map, List.length_singleton] at this
    omega
  · rw [← ht]
    exact List.mem_append_left _ (List.mem_append_right _ (List.mem_singleton.mpr rfl))

set_option maxHeartbeats 8000000 in
set_option maxRecDepth 100000 in
theorem all_calls (g : Nat) (W : World) :
    Calls Try.prog 22 #[.pointer (some ⟨g, 0, none⟩)] W fun e w' => e = .returned (.func (.func 30) #[] #[.pointer (some ⟨W.heap.size, 0, none⟩)]) ∧ w' = W.alloc (.cells #[.pointer (some ⟨g, 0, none⟩)] 23) := by
  go_enter Try.func22, Try.ntmps22
  go_wp2
  go_ret
  exact ⟨rfl, rfl⟩

theorem Fr.keepsFrom {S : Nat → Prop} {B : Nat} {W W' : World} (h : Fr S W W') (hS : ∀ i, S i → i < B) : KeepsFrom B W W' :=
  ⟨h.size, fun k o hB hk _ => (h.block k (Array.getElem?_eq_some_iff.1 hk).1 (fun hs => by have := hS k hs; omega)).trans hk⟩
theorem Fr.keepCells {S : Nat → Prop} {B : Nat} {W W' : World} (h : Fr S W W') (hS : ∀ i, S i → i < B) : KeepCells B W W' :=
  fun k o hB hk _ => (h.block k (Array.getElem?_eq_some_iff.1 hk).1 (fun hs => by have := hS k hs; omega)).trans hk
/-- A way out that is no panic (the region's tactics want a post to which a panic's act is nothing). -/
def noPanic (Q : Exit → Act → World → Prop) : Exit → Act → World → Prop
  | .panic _, _, _ => False
  | .normal, a, w => Q .normal a w
  | .ret, a, w => Q .ret a w
  | .exit i, a, w => Q (.exit i) a w
  | .goto i, a, w => Q (.goto i) a w
  | .outgrown, a, w => Q .outgrown a w
theorem wpIn_noPanic {F : Fence} {n : Nat} {P : Program} {c : Code} {Q : Exit → Act → World → Prop} {a : Act} {w : World} (h : c.wpIn F n P (noPanic Q) a w) : c.wpIn F n P Q a w :=
  wpIn_mono h (fun e a w hq => by cases e <;> first | exact hq | exact hq.elim)
theorem noPanic_ret {Q : Exit → Act → World → Prop} {a : Act} {w : World} (h : Q .ret a w) : noPanic Q .ret a w := h
theorem noPanic_normal {Q : Exit → Act → World → Prop} {a : Act} {w : World} (h : Q .normal a w) : noPanic Q .normal a w := h
/-- A function's value is not nil. -/
theorem func_nil (fn : Fn) (fi ca : Array Value) (w : World) : Sem.run Try.prog (binOp .eql 56 (.func fn fi ca) .nilFunc) w = .ok (.bool false) w := by kernel_rfl
/-- An act under a name. -/
theorem wpIn_act {F : Fence} {n : Nat} {P : Program} {c : Code} {Q : Exit → Act → World → Prop} {a : Act} {w : World} (h : ∀ a0, a0 = a → c.wpIn F n P Q a0 w) : c.wpIn F n P Q a w := h a rfl
/-- A world under a name. -/
theorem wpIn_world {F : Fence} {n : Nat} {P : Program} {c : Code} {Q : Exit → Act → World → Prop} {a : Act} {w : World} (h : ∀ w0, w0 = w → c.wpIn F n P Q a w0) : c.wpIn F n P Q a w := h w rfl
end Go.Proofs.Ytmcaoecmjibegaa.PIx
