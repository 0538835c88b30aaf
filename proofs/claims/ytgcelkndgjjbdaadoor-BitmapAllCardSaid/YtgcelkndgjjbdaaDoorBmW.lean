/- A copy of a map; All and Back: the ticks handed over one by one. -/
import Derived.RangeFuncNested
import Derived.RangeFuncBound
import Derived.RangeFuncCalls
import Derived.RangeFuncLeaves
import Derived.Shelf.Abstract
import Derived.Shelf.RegionOpen
import Derived.WalkKit
import Derived.OwnWalkIn
import Derived.TacticsInMore
import Derived.LoopNIn
import Derived.LoopIn
import Derived.Test.YtgcelkndgjjbdaaDoorBmU
namespace Go.Proofs.YtgcelkndgjjbdaaDoor.PBm
open Go.RowKit Go.Proofs.YtgcelkndgjjbdaaDoorW.PrintWords Go.Proofs.YtgcelkndgjjbdaaDoorW.PrintLast Go.Proofs.YtgcelkndgjjbdaaDoorW.PrintMore
open Go.Shelf
set_option linter.unusedVariables false
set_option linter.unusedSimpArgs false
attribute [local go_sem] Oper.semAt_some

theorem cells_one (S : St) : (cells S).all (·.oneCell') = true := by
  rw [Array.all_eq_true]
  intro i hi
  have h := cells_at S i (by rw [cells_size] at hi; exact hi)
  rw [Array.getElem?_eq_getElem hi] at h
  rw [Option.some.inj h]
  rfl
theorem info37 : (Tryd.prog.info? 37).map (·.size) = some 4161 := by kernel_rfl
/-- A map is read whole. -/
theorem wpList_load37 {ops : Array Oper} {rest : List Oper} {o : Oper} {a : Act} {w : World} {Q : Exit → Act → World → Prop} (hgd : o.guard = none) (x : Operand) (ho : o.op = .load 37 x)
    (g : Nat) (S : St) (hx : a.eval x = .pointer (some ⟨g, 0, none⟩)) (hg : Bm w g S)
    (h : ∀ X, X = cells S → wpList Tryd.prog ops Q rest (a.put o.dst (.agg X)) w) : wpList Tryd.prog ops Q (o :: rest) a w := by
  have h2 := h _ rfl
  have hg' : w.heap[g]? = some (.cells (cells S) 37 (0, 0)) := hg
  have hsz := cells_size S
  clear h hg
  generalize cells S = X at h2 hg' hsz
  have hi : (Tryd.prog.info? 37).map (·.size) = some X.size := by rw [hsz]; exact info37
  exact wpList_load_row hgd 37 x ho g hx 37 X (0, 0) _ hg' Tryd.underlying37 rfl hi h2
/-- A map is written whole. -/
theorem wpList_store37 {ops : Array Oper} {rest : List Oper} {o : Oper} {a : Act} {w : World} {Q : Exit → Act → World → Prop} (hgd : o.guard = none) (x y : Operand) (ho : o.op = .store 37 x y) (hd : o.dst = none)
    (g : Nat) (S T : St) (X : Array Value) (hx : a.eval x = .pointer (some ⟨g, 0, none⟩)) (hy : a.eval y = .agg X) (hX : X = cells S) (hg : Bm w g T)
    (h : ∀ w', Bm w' g S → Fr (fun k => k = g) w w' → wpList Tryd.prog ops Q rest a w') : wpList Tryd.prog ops Q (o :: rest) a w := by
  have hg' : w.heap[g]? = some (.cells (cells T) 37 (0, 0)) := hg
  have hsz := cells_size S
  have hsz2 := cells_size T
  have hone := cells_one S
  have hset : ∀ w', w'.heap[g]? = some (.cells X 37 (0, 0)) → Bm w' g S := fun w' h => by rw [hX] at h; exact h
  rw [← hX] at hsz hone
  clear hX hg
  generalize cells T = Y at hg' hsz2
  have hi : (Tryd.prog.info? 37).map (·.size) = some X.size := by rw [hsz]; exact info37
  have hs := run_storeVar_row (P := Tryd.prog) w g 37 37 Y X hg' hi (by rw [hsz, hsz2]) hone
  refine wpList_plain hgd fun K hK => ?_
  unfold Oper.wp execOp
  simp only [ho, hx, hy, Instr.storeAt, Instr.sureAddr, Sem.run_bind, Sem.run_pure, Result.andThen_ok, hs]
  refine hK _ _ ?_
  have e : a.put o.dst undef = a := by rw [hd]; rfl
  first | rw [e] | skip
  refine h _ (hset _ (setRow_heap w g _ _ 37 (0, 0) hg')) ⟨rfl, rfl, rfl, by simp, fun k hk hn => setRow_other w g k _ hn⟩

set_option maxHeartbeats 8000000 in
set_option maxRecDepth 100000 in
theorem clone_calls {W : World} {g : Nat} {S : St} (h : Bm W g S) :
    Calls Tryd.prog 21 #[.pointer (some ⟨g, 0, none⟩)] W fun e w' => e = .returned (.pointer (some ⟨W.heap.size, 0, none⟩)) ∧ Bm w' W.heap.size S ∧ Below W.heap.size W w' := by
  obtain ⟨Z, hZ⟩ : ∃ Z, Z = cells E0 := ⟨_, rfl⟩
  have hz : ∀ w, (zeroValue 37).run Tryd.prog w = .ok (.agg Z) w := fun w => by rw [hZ]; exact zero30 w
  have HM := Aside0.mk h
  have K1 : Aside0 (Bm (W.alloc (.cells Z 37)) W.heap.size E0) := ⟨by rw [hZ]; exact heap_alloc_new W _⟩
  have K2 : Aside0 (Below W.heap.size W (W.alloc (.cells Z 37))) := ⟨(Below.refl _ W).alloc (Nat.le_refl _) _⟩
  clear hZ h
  go_enter Tryd.func21, Tryd.ntmps21
  go_wp2_with (first
    | ((with_reducible refine gate_ (.load 37 (.tmp 5)) rfl ?_); refine wpList_load37 rfl (.tmp 5) rfl g S rfl HM.out ?_; intro X hX; have HX := Aside0.mk hX; clear hX)
    | ((with_reducible refine gate_ (.store 37 (.tmp 3) (.tmp 6)) rfl ?_); refine wpList_store37 rfl (.tmp 3) (.tmp 6) rfl rfl W.heap.size S E0 X rfl rfl HX.out K1.out ?_; intro w4 h4 f4; have A1 := Aside0.mk h4; have A2 : Aside0 (Below W.heap.size W w4) := ⟨K2.out.trans ⟨f4.os, f4.tape, f4.output, f4.size, fun k hk => f4.block k (by rw [World.size_alloc]; omega) (by omega)⟩⟩; clear h4 f4))
  go_ret
  exact ⟨rfl, A1.out, A2.out⟩

set_option maxHeartbeats 8000000 in
set_option maxRecDepth 100000 in
theorem all_calls (g : Nat) (W : World) :
    Calls Tryd.prog 46 #[.pointer (some ⟨g, 0, none⟩)] W fun e w' => e = .returned (.func (.func 49) #[] #[.pointer (some ⟨W.heap.size, 0, none⟩)]) ∧ w' = W.alloc (.cells #[.pointer (some ⟨g, 0, none⟩)] 23) := by
  go_enter Tryd.func46, Tryd.ntmps46
  go_wp2
  go_ret
  exact ⟨rfl, rfl⟩
set_option maxHeartbeats 8000000 in
set_option maxRecDepth 100000 in
theorem back_calls (g : Nat) (W : World) :
    Calls Tryd.prog 47 #[.pointer (some ⟨g, 0, none⟩)] W fun e w' => e = .returned (.func (.func 50) #[] #[.pointer (some ⟨W.heap.size, 0, none⟩)]) ∧ w' = W.alloc (.cells #[.pointer (some ⟨g, 0, none⟩)] 23) := by
  go_enter Tryd.func47, Tryd.ntmps47
  go_wp2
  go_ret
  exact ⟨rfl, rfl⟩

def encI (x : Int) : Array Value := #[.int .i64 x]
/-- Blocks of cells from B on lie as they lay; so does the table. -/
def KeepT (B : Nat) (W W' : World) : Prop := (∀ (k : Nat) (o : Obj), B ≤ k → W.heap[k]? = some o → o.isCells = true → W'.heap[k]? = some o) ∧ (Tz W → Tz W')
theorem KeepT.trans {B : Nat} {X Y Z : World} (h : KeepT B X Y) (k : KeepT B Y Z) : KeepT B X Z := ⟨fun i o hB hi ho => k.1 i o hB (h.1 i o hB hi ho) ho, fun h1 => k.2 (h.2 h1)⟩
theorem keepT_b {B : Nat} (W : World) (l : Nat) (o o' : Obj) (h : W.heap[l]? = some o) (hc : o.isCells = false) : KeepT B W (W.putObj l o') := by
  have key : ∀ (k : Nat) (ok : Obj), W.heap[k]? = some ok → ok.isCells = true → (W.putObj l o').heap[k]? = some ok := by
    intro k ok hk hck
    refine (World.putObj_heap_other ?_).trans hk
    rintro rfl
    rw [hk] at h
    cases h
    rw [hck] at hc
    cases hc
  refine ⟨fun k ok _ hk hck => key k ok hk hck, fun ht => ?_⟩
  have h0 := ht 0 (by decide)
  cases hh : W.heap[0]? with
  | none => unfold World.cell? at h0; simp [hh] at h0
  | some ob =>
    have hb : ob.isCells = true := by
      unfold World.cell? at h0
      cases ob with
      | cells a b d => rfl
      | _ => simp [hh] at h0
    exact ht.keep ((key 0 ob hh hb).trans hh.symm)

theorem gD (l : List Int) (k : Nat) (h : k < l.length) : l.getD k 0 = l[k] := by
  rw [List.getD_eq_getElem?_getD, List.getElem?_eq_getElem h]
  rfl
theorem gN (l : List Int) (k : Nat) (h : l.length ≤ k) : l.getD k 0 = 0 := by
  rw [List.getD_eq_getElem?_getD, List.getElem?_eq_none h]
  rfl
theorem Rep.next {l : List Int} {S : St} (h : Rep l S) (k : Nat) (hk : k ≤ l.length) : AbR S (if k = 0 then 0 else l.getD (k - 1) 0 + 1) (l.getD k 0) (decide (k < l.length)) := by
  have hg : ∀ i, i < l.length → l.getD i 0 = l[i]?.getD 0 := fun i _ => List.getD_eq_getElem?_getD ..
  have hlt : ∀ i j, (hi : i < l.length) → (hj : j < l.length) → i < j → l[i] < l[j] := fun i j hi hj hij => List.pairwise_iff_getElem.1 h.srt i j hi hj hij
  have hle : 0 < k → ∀ y ∈ l.take k, y < l.getD (k - 1) 0 + 1 := fun h0 y hy => by
    obtain ⟨i, hi, rfl⟩ := List.mem_iff_getElem.1 hy
    rw [List.length_take] at hi
    rw [List.getElem_take, List.getD_eq_getElem?_getD, List.getElem?_eq_getElem (by omega)]
    rcases Nat.lt_or_ge i (k - 1) with h2 | h2
    · have := hlt i (k - 1) (by omega) (by omega) h2
      show _ < l[k - 1] + 1
      omega
    · have : i = k - 1 := by omega
      subst this
      show _ < l[k - 1] + 1
      omega
  rcases Nat.lt_or_ge k l.length with h1 | h1
  · have e : l = l.take k ++ l[k] :: l.drop (k + 1) := by rw [← List.drop_eq_getElem_cons (by omega), List.take_append_drop]
    rw [decide_eq_true h1, gD l k h1]
    have h' := h
    rw [e] at h'
    refine h'.above_in (fun y hy => ?_) ?_
    · by_cases h0 : k = 0
      · subst h0; simp at hy
      · rw [if_neg h0]; exact hle (by omega) y hy
    · by_cases h0 : k = 0
      · rw [if_pos h0]; exact (h.tick (List.getElem_mem h1)).1
      · rw [if_neg h0, List.getD_eq_getElem?_getD, List.getElem?_eq_getElem (by omega)]
        have := hlt (k - 1) k (by omega) h1 (by omega)
        show l[k - 1] + 1 ≤ l[k]
        omega
  · rw [decide_eq_false (by omega), gN l k h1]
    refine h.above_out fun y hy => ?_
    have hk' : k = l.length := by omega
    by_cases h0 : k = 0
    · have : l = [] := List.eq_nil_of_length_eq_zero (by omega)
      rw [this] at hy
      cases hy
    · rw [if_neg h0]
      exact hle (by omega) y (by rw [hk', List.take_length]; exact hy)
theorem Rep.prev {l : List Int} {S : St} (h : Rep l S) (k : Nat) (hk : k ≤ l.reverse.length) : BeR S (if k = 0 then 262144 else l.reverse.getD (k - 1) 0 - 1) (l.reverse.getD k 0) (decide (k < l.reverse.length)) := by
  have hlt : ∀ i j, (hi : i < l.length) → (hj : j < l.length) → i < j → l[i] < l[j] := fun i j hi hj hij => List.pairwise_iff_getElem.1 h.srt i j hi hj hij
  have hrev : ∀ j, (hj : j < l.length) → l.reverse.getD j 0 = l[l.length - 1 - j] := fun j hj => by
    rw [List.getD_eq_getElem?_getD, List.getElem?_reverse hj, List.getElem?_eq_getElem (by omega)]
    rfl
  rw [List.length_reverse] at hk ⊢
  have hge : 0 < k → ∀ y ∈ l.drop (l.length - k), l.reverse.getD (k - 1) 0 - 1 < y := fun h0 y hy => by
    obtain ⟨i, hi, rfl⟩ := List.mem_iff_getElem.1 hy
    rw [List.length_drop] at hi
    rw [List.getElem_drop, hrev (k - 1) (by omega)]
    rcases Nat.eq_zero_or_pos i with h2 | h2
    · subst h2
      have e : l.length - 1 - (k - 1) = l.length - k + 0 := by omega
      simp only [e]
      omega
    · have := hlt (l.length - 1 - (k - 1)) (l.length - k + i) (by omega) (by omega) (by omega)
      omega
  rcases Nat.lt_or_ge k l.length with h1 | h1
  · rw [decide_eq_true h1, hrev k h1]
    have hi : l.length - 1 - k < l.length := by omega
    have e : l = l.take (l.length - 1 - k) ++ l[l.length - 1 - k] :: l.drop (l.length - k) := by
      have : l.length - k = l.length - 1 - k + 1 := by omega
      rw [this, ← List.drop_eq_getElem_cons (by omega), List.take_append_drop]
    have h' := h
    rw [e] at h'
    refine h'.below_in (fun y hy => ?_) ?_
    · by_cases h0 : k = 0
      · rw [h0, Nat.sub_zero, List.drop_length] at hy
        cases hy
      · rw [if_neg h0]; exact hge (by omega) y hy
    · by_cases h0 : k = 0
      · rw [if_pos h0]; have := (h.tick (List.getElem_mem hi)).2.1; omega
      · rw [if_neg h0, hrev (k - 1) (by omega)]
        have := hlt (l.length - 1 - k) (l.length - 1 - (k - 1)) (by omega) (by omega) (by omega)
        omega
  · have hk' : k = l.length := by omega
    rw [decide_eq_false (by omega), gN l.reverse k (by rw [List.length_reverse]; omega)]
    refine h.below_out fun y hy => ?_
    by_cases h0 : k = 0
    · have : l = [] := List.eq_nil_of_length_eq_zero (by omega)
      rw [this] at hy
      cases hy
    · rw [if_neg h0]
      exact hge (by omega) y (by rw [hk', Nat.sub_self]; exact hy)

def mA (x : Int) : Nat := (262144 - x).toNat
def mB (x : Int) : Nat := x.toNat + 1
theorem Rep.up {l : List Int} {S : St} (h : Rep l S) (k : Nat) (hk : k + 1 < l.length) : mA (l.getD (k + 1) 0) < mA (l.getD k 0) := by
  have h1 := List.pairwise_iff_getElem.1 h.srt k (k + 1) (by omega) hk (by omega)
  have h2 := h.tick (List.getElem_mem hk)
  rw [gD l _ hk, gD l k (by omega)]
  unfold mA
  omega
theorem Rep.dn {l : List Int} {S : St} (h : Rep l S) (k : Nat) (hk : k + 1 < l.reverse.length) : mB (l.reverse.getD (k + 1) 0) < mB (l.reverse.getD k 0) := by
  have hk' := hk
  rw [List.length_reverse] at hk'
  have h1 := List.pairwise_iff_getElem.1 h.srt (l.length - 1 - (k + 1)) (l.length - 1 - k) (by omega) (by omega) (by omega)
  have h2 := h.tick (List.getElem_mem (l := l) (n := l.length - 1 - (k + 1)) (by omega))
  rw [gD _ _ hk, gD _ k (by omega), List.getElem_reverse, List.getElem_reverse]
  unfold mB
  omega

set_option maxHeartbeats 8000000 in
set_option maxRecDepth 100000 in
theorem all1_seq {w : World} {g p : Nat} {S : St} {l : List Int} (n : Nat) (hn : 1 ≤ n) (h : Bm w g S) (hr : Rep l S) (hT : Tz w) (hp : w.cell? ⟨p, 0, none⟩ = some (.pointer (some ⟨g, 0, none⟩))) (hpl : p < w.heap.size) :
    SeqStopsK Fence.wide n Tryd.prog 49 #[.pointer (some ⟨p, 0, none⟩)] encI (KeepT w.heap.size) (fun xs => xs = l) (fun pre => pre <+: l) (l).length w := fun ll J Jx W hW hJ hJx hY h0 => by
  obtain ⟨L, hL⟩ : ∃ L, L = l := ⟨_, rfl⟩
  rw [← hL] at hY ⊢
  have CALL : Aside0 (∀ k, k ≤ L.length → ∀ (W : World) (g' : Nat) (T : Int), Bm W g' S → Tz W → T = (if k = 0 then 0 else L.getD (k - 1) 0 + 1) → Calls Tryd.prog 11 #[.pointer (some ⟨g', 0, none⟩), .int .i64 T] W fun e w' => e = .returned (.tuple #[.int .i64 (L.getD k 0), .bool (decide (k < L.length))]) ∧ w' = W) := ⟨fun k hk W g' T hb ht e => by
    subst e
    rw [hL] at hk ⊢
    obtain ⟨a, is, h1, h2⟩ := above_calls hb ht (if k = 0 then 0 else l.getD (k - 1) 0 + 1)
    obtain ⟨rfl, rfl⟩ := above_uniq h1 (hr.next k hk)
    exact h2⟩
  have HLM : Aside0 (L.length ≤ 262144 ∧ ∀ k, k < L.length → 0 ≤ L.getD k 0 ∧ L.getD k 0 < 262144) := ⟨by
    have hmem : ∀ x, x ∈ L → x ∈ l := by rw [hL]; simp
    refine ⟨by rw [hL]; simpa using hr.le, fun k hk => ?_⟩
    rw [List.getD_eq_getElem?_getD, List.getElem?_eq_getElem hk]
    have := hr.tick (hmem _ (List.getElem_mem hk))
    exact ⟨this.1, this.2.1⟩⟩
  have MON : Aside0 (∀ k, k + 1 < L.length → mA (L.getD (k + 1) 0) < mA (L.getD k 0)) := ⟨fun k hk => by rw [hL] at hk ⊢; exact hr.up k hk⟩
  obtain ⟨m, hm⟩ : ∃ m, m = L.length := ⟨_, rfl⟩
  rw [← hm] at CALL HLM MON hY
  have hm2 : m ≤ 262144 := HLM.out.1
  have HMM := Aside0.mk hm
  have hp1 : W.cell? ⟨p, 0, none⟩ = some (.pointer (some ⟨g, 0, none⟩)) := (hW.cell (p := ⟨p, 0, none⟩) hpl).trans hp
  have HM : Aside0 (Bm W g S) := ⟨h.below hW h.lt⟩
  have HT : Aside0 (Tz W) := ⟨hT.below hW hT.lt⟩
  have HJ := Aside0.mk hJ
  have HJX := Aside0.mk hJx
  have HY := Aside0.mk hY
  have H0 := Aside0.mk h0
  have HW := Aside0.mk hW
  obtain ⟨Z, hZ⟩ : ∃ Z, Z = cells E0 := ⟨_, rfl⟩
  have hz : ∀ w, (zeroValue 37).run Tryd.prog w = .ok (.agg Z) w := fun w => by rw [hZ]; exact zero30 w
  have K1 : Aside0 (Bm (W.alloc (.cells Z 37)) W.heap.size E0) := ⟨by rw [hZ]; exact heap_alloc_new W _⟩
  have K2 : Aside0 (Below W.heap.size W (W.alloc (.cells Z 37))) := ⟨(Below.refl _ W).alloc (Nat.le_refl _) _⟩
  clear h hp hJ hJx hY h0 hW hT hr hL hZ hm
  refine callsIn_of_wp Tryd.func49 rfl trivial ?_ rfl
  refine wpIn_wide.2 ?_
  simp only [Tryd.ntmps49, List.size_toArray, List.length_cons, List.length_nil, Nat.reduceAdd, Nat.reduceSub, Array.replicate_succ, Array.replicate_zero, List.push_toArray, List.append_toArray, List.nil_append, List.cons_append]
  go_upto_region 1 with (first
    | ((with_reducible refine gate_ (.load 37 (.tmp 7)) rfl ?_); refine wpList_load37 rfl (.tmp 7) rfl g S rfl HM.out ?_; intro X hX; have HX := Aside0.mk hX; clear hX)
    | ((with_reducible refine gate_ (.store 37 (.tmp 3) (.tmp 8)) rfl ?_); refine wpList_store37 rfl (.tmp 3) (.tmp 8) rfl rfl W.heap.size S E0 X rfl rfl HX.out K1.out ?_; intro w4 h4 f4; have A1 := Aside0.mk h4; have A2 : Aside0 (Below W.heap.size W w4) := ⟨K2.out.trans ⟨f4.os, f4.tape, f4.output, f4.size, fun k hk => f4.block k (by rw [World.size_alloc]; omega) (by omega)⟩⟩; clear h4 f4))
  obtain ⟨cb, hcb⟩ : ∃ cb, cb = W.heap.size := ⟨_, rfl⟩
  rw [← hcb] at A1 ⊢
  have HCB := Aside0.mk hcb
  have HT4 : Aside0 (Tz w4) := ⟨HT.out.below A2.out HT.out.lt⟩
  have HJ2 : Aside0 (J [] w4) := ⟨HJ.out [] W w4 none H0.out ⟨A2.out.os, A2.out.tape, A2.out.output, A2.out.size, fun k hk _ => A2.out.block k hk⟩ (fun r e => by cases e)⟩
  clear hcb hz K1 K2 HX
  have C0 : Aside0 (∀ (W : World) (g' : Nat), Bm W g' S → Tz W → Calls Tryd.prog 11 #[.pointer (some ⟨g', 0, none⟩), .int .i64 0] W fun e w' => e = .returned (.tuple #[.int .i64 (L.getD 0 0), .bool (decide (0 < m))]) ∧ w' = W) := ⟨fun W g' hb ht => CALL.out 0 (Nat.zero_le _) W g' 0 hb ht rfl⟩
  obtain ⟨x0, hx0⟩ : ∃ y, y = L.getD 0 0 := ⟨_, rfl⟩
  obtain ⟨ok0, hok0⟩ : ∃ y, y = decide (0 < m) := ⟨_, rfl⟩
  rw [← hx0, ← hok0] at C0
  have HX0 := Aside0.mk hx0
  have HOK0 := Aside0.mk hok0
  clear hx0 hok0
  go_wp2_with (fail)
  refine (C0.out _ _ A1.out HT4.out).mono ?_
  rintro e w5 ⟨rfl, rfl⟩
  go_wp2_with (fail)
  refine (wpIn_wide (n := n)).1 ?_
  gi_loopw [4, 5] (fun tv ov w' => ∃ (k : Nat) (x : Int) (ok : Bool), k ≤ m ∧ tv = .int .i64 x ∧ ov = .bool ok ∧ Aside0 (x = L.getD k 0) ∧ Aside0 (ok = decide (k < m)) ∧ Aside0 (J (L.take k) w') ∧ Aside0 (Bm w' cb S ∧ Tz w'))
    (fun tv ov _ => match ov with | .bool true => mA (intOf tv) | _ => 0)
  case atStart => exact ⟨0, _, _, Nat.zero_le _, rfl, rfl, HX0, HOK0, ⟨by simpa using HJ2.out⟩, ⟨A1.out, HT4.out⟩⟩
  case round =>
    obtain ⟨k, x, ok, hk, rfl, rfl, HX, HOK, HJk, HBk⟩ := hrel
    by_cases hkm : k < m
    · obtain rfl : ok = true := by rw [HOK.out]; exact decide_eq_true hkm
      have HT : Aside0 (L.take (k + 1) = L.take k ++ [x]) := ⟨by
        have hkl : k < L.length := by rw [← HMM.out]; exact hkm
        rw [List.take_add_one, List.getElem?_eq_getElem hkl, HX.out, gD L k hkl]
        rfl⟩
      have HLN : Aside0 ((L.take k).length < m) := ⟨by rw [List.length_take, ← HMM.out]; omega⟩
      have hx := HLM.out.2 k hkm
      rw [← HX.out] at hx
      have hx0 := hx.1
      have hx1 := hx.2
      have CN : Aside0 (∀ (W : World) (g' : Nat), Bm W g' S → Tz W → Calls Tryd.prog 11 #[.pointer (some ⟨g', 0, none⟩), .int .i64 (x + 1)] W fun e w' => e = .returned (.tuple #[.int .i64 (L.getD (k + 1) 0), .bool (decide (k + 1 < m))]) ∧ w' = W) := ⟨fun W g' hb ht => CALL.out (k + 1) hkm W g' (x + 1) hb ht (by rw [if_neg (Nat.succ_ne_zero k), Nat.add_sub_cancel, HX.out])⟩
      obtain ⟨fn, tmps, assign, body, hy, hR⟩ := HY.out _ x _ HJk.out HLN.out
      dsimp only [encI] at hy
      obtain ⟨x1, hx2⟩ : ∃ y, y = L.getD (k + 1) 0 := ⟨_, rfl⟩
      obtain ⟨ok1, hok1⟩ : ∃ y, y = decide (k + 1 < m) := ⟨_, rfl⟩
      rw [← hx2, ← hok1] at CN
      have HX1 := Aside0.mk hx2
      have HOK1 := Aside0.mk hok1
      clear hx hx2 hok1
      gi_wp2
      refine hR.mono ?_
      rintro e W3 (⟨rfl, hJ3, hk3⟩ | ⟨rfl, hJx3⟩)
      · have HF : Aside0 (J (L.take (k + 1)) W3 ∧ Bm W3 cb S ∧ Tz W3) := ⟨by rw [HT.out]; exact hJ3, hk3.1 cb _ (by rw [HCB.out]; exact HW.out.size) HBk.out.1 rfl, hk3.2 HBk.out.2⟩
        clear hJ3 hk3
        gi_wp2
        refine ⟨trivial, callsIn_wide.2 ?_⟩
        refine (CN.out _ _ HF.out.2.1 HF.out.2.2).mono ?_
        rintro e w6 ⟨rfl, rfl⟩
        gi_wp2
        go_roundw
        case rel => exact ⟨k + 1, _, _, hkm, rfl, rfl, HX1, HOK1, ⟨HF.out.1⟩, ⟨HF.out.2⟩⟩
        case measure =>
          have hmon := MON.out k
          rw [← HX.out] at hmon
          by_cases hk1 : k + 1 < m
          · have := hmon hk1
            rw [← HX1.out] at this
            rw [HOK1.out, decide_eq_true hk1]
            simpa [intOf] using this
          · rw [HOK1.out, decide_eq_false hk1]
            simp [intOf, mA, mB]
            try omega
      · have HF : Aside0 (Jx (L.take (k + 1)) W3) := ⟨by rw [HT.out]; exact hJx3⟩
        clear hJx3
        gi_wp2
        refine bodyPost_ret (results_none rfl _ _ _) rfl ?_
        exact ⟨⟨_, rfl⟩, .inr ⟨_, List.take_prefix _ _, HF.out⟩⟩
    · obtain rfl : ok = false := by rw [HOK.out]; exact decide_eq_false hkm
      have hkl : L.take k = L := List.take_of_length_le (by rw [← HMM.out]; omega)
      have HF : Aside0 (J L wr) := Aside0.mk (by have h2 := HJk.out; rwa [hkl] at h2)
      gi_wp2
      go_end0
      exact ⟨⟨_, rfl⟩, .inl ⟨L, rfl, HF.out⟩⟩


set_option maxHeartbeats 8000000 in
set_option maxRecDepth 100000 in
theorem back1_seq {w : World} {g p : Nat} {S : St} {l : List Int} (n : Nat) (hn : 1 ≤ n) (h : Bm w g S) (hr : Rep l S) (hT : Tz w) (hp : w.cell? ⟨p, 0, none⟩ = some (.pointer (some ⟨g, 0, none⟩))) (hpl : p < w.heap.size) :
    SeqStopsK Fence.wide n Tryd.prog 50 #[.pointer (some ⟨p, 0, none⟩)] encI (KeepT w.heap.size) (fun xs => xs = l.reverse) (fun pre => pre <+: l.reverse) (l.reverse).length w := fun ll J Jx W hW hJ hJx hY h0 => by
  obtain ⟨L, hL⟩ : ∃ L, L = l.reverse := ⟨_, rfl⟩
  rw [← hL] at hY ⊢
  have CALL : Aside0 (∀ k, k ≤ L.length → ∀ (W : World) (g' : Nat) (T : Int), Bm W g' S → Tz W → T = (if k = 0 then 262144 else L.getD (k - 1) 0 - 1) → Calls Tryd.prog 12 #[.pointer (some ⟨g', 0, none⟩), .int .i64 T] W fun e w' => e = .returned (.tuple #[.int .i64 (L.getD k 0), .bool (decide (k < L.length))]) ∧ w' = W) := ⟨fun k hk W g' T hb ht e => by
    subst e
    rw [hL] at hk ⊢
    obtain ⟨a, is, h1, h2⟩ := below_calls hb (if k = 0 then 262144 else l.reverse.getD (k - 1) 0 - 1)
    obtain ⟨rfl, rfl⟩ := below_uniq h1 (hr.prev k hk)
    exact h2⟩
  have HLM : Aside0 (L.length ≤ 262144 ∧ ∀ k, k < L.length → 0 ≤ L.getD k 0 ∧ L.getD k 0 < 262144) := ⟨by
    have hmem : ∀ x, x ∈ L → x ∈ l := by rw [hL]; simp
    refine ⟨by rw [hL]; simpa using hr.le, fun k hk => ?_⟩
    rw [List.getD_eq_getElem?_getD, List.getElem?_eq_getElem hk]
    have := hr.tick (hmem _ (List.getElem_mem hk))
    exact ⟨this.1, this.2.1⟩⟩
  have MON : Aside0 (∀ k, k + 1 < L.length → mB (L.getD (k + 1) 0) < mB (L.getD k 0)) := ⟨fun k hk => by rw [hL] at hk ⊢; exact hr.dn k hk⟩
  obtain ⟨m, hm⟩ : ∃ m, m = L.length := ⟨_, rfl⟩
  rw [← hm] at CALL HLM MON hY
  have hm2 : m ≤ 262144 := HLM.out.1
  have HMM := Aside0.mk hm
  have hp1 : W.cell? ⟨p, 0, none⟩ = some (.pointer (some ⟨g, 0, none⟩)) := (hW.cell (p := ⟨p, 0, none⟩) hpl).trans hp
  have HM : Aside0 (Bm W g S) := ⟨h.below hW h.lt⟩
  have HT : Aside0 (Tz W) := ⟨hT.below hW hT.lt⟩
  have HJ := Aside0.mk hJ
  have HJX := Aside0.mk hJx
  have HY := Aside0.mk hY
  have H0 := Aside0.mk h0
  have HW := Aside0.mk hW
  obtain ⟨Z, hZ⟩ : ∃ Z, Z = cells E0 := ⟨_, rfl⟩
  have hz : ∀ w, (zeroValue 37).run Tryd.prog w = .ok (.agg Z) w := fun w => by rw [hZ]; exact zero30 w
  have K1 : Aside0 (Bm (W.alloc (.cells Z 37)) W.heap.size E0) := ⟨by rw [hZ]; exact heap_alloc_new W _⟩
  have K2 : Aside0 (Below W.heap.size W (W.alloc (.cells Z 37))) := ⟨(Below.refl _ W).alloc (Nat.le_refl _) _⟩
  clear h hp hJ hJx hY h0 hW hT hr hL hZ hm
  refine callsIn_of_wp Tryd.func50 rfl trivial ?_ rfl
  refine wpIn_wide.2 ?_
  simp only [Tryd.ntmps50, List.size_toArray, List.length_cons, List.length_nil, Nat.reduceAdd, Nat.reduceSub, Array.replicate_succ, Array.replicate_zero, List.push_toArray, List.append_toArray, List.nil_append, List.cons_append]
  go_upto_region 1 with (first
    | ((with_reducible refine gate_ (.load 37 (.tmp 7)) rfl ?_); refine wpList_load37 rfl (.tmp 7) rfl g S rfl HM.out ?_; intro X hX; have HX := Aside0.mk hX; clear hX)
    | ((with_reducible refine gate_ (.store 37 (.tmp 3) (.tmp 8)) rfl ?_); refine wpList_store37 rfl (.tmp 3) (.tmp 8) rfl rfl W.heap.size S E0 X rfl rfl HX.out K1.out ?_; intro w4 h4 f4; have A1 := Aside0.mk h4; have A2 : Aside0 (Below W.heap.size W w4) := ⟨K2.out.trans ⟨f4.os, f4.tape, f4.output, f4.size, fun k hk => f4.block k (by rw [World.size_alloc]; omega) (by omega)⟩⟩; clear h4 f4))
  obtain ⟨cb, hcb⟩ : ∃ cb, cb = W.heap.size := ⟨_, rfl⟩
  rw [← hcb] at A1 ⊢
  have HCB := Aside0.mk hcb
  have HT4 : Aside0 (Tz w4) := ⟨HT.out.below A2.out HT.out.lt⟩
  have HJ2 : Aside0 (J [] w4) := ⟨HJ.out [] W w4 none H0.out ⟨A2.out.os, A2.out.tape, A2.out.output, A2.out.size, fun k hk _ => A2.out.block k hk⟩ (fun r e => by cases e)⟩
  clear hcb hz K1 K2 HX
  have C0 : Aside0 (∀ (W : World) (g' : Nat), Bm W g' S → Tz W → Calls Tryd.prog 12 #[.pointer (some ⟨g', 0, none⟩), .int .i64 262144] W fun e w' => e = .returned (.tuple #[.int .i64 (L.getD 0 0), .bool (decide (0 < m))]) ∧ w' = W) := ⟨fun W g' hb ht => CALL.out 0 (Nat.zero_le _) W g' 262144 hb ht rfl⟩
  obtain ⟨x0, hx0⟩ : ∃ y, y = L.getD 0 0 := ⟨_, rfl⟩
  obtain ⟨ok0, hok0⟩ : ∃ y, y = decide (0 < m) := ⟨_, rfl⟩
  rw [← hx0, ← hok0] at C0
  have HX0 := Aside0.mk hx0
  have HOK0 := Aside0.mk hok0
  clear hx0 hok0
  go_wp2_with (fail)
  refine (C0.out _ _ A1.out HT4.out).mono ?_
  rintro e w5 ⟨rfl, rfl⟩
  go_wp2_with (fail)
  refine (wpIn_wide (n := n)).1 ?_
  gi_loopw [4, 5] (fun tv ov w' => ∃ (k : Nat) (x : Int) (ok : Bool), k ≤ m ∧ tv = .int .i64 x ∧ ov = .bool ok ∧ Aside0 (x = L.getD k 0) ∧ Aside0 (ok = decide (k < m)) ∧ Aside0 (J (L.take k) w') ∧ Aside0 (Bm w' cb S ∧ Tz w'))
    (fun tv ov _ => match ov with | .bool true => mB (intOf tv) | _ => 0)
  case atStart => exact ⟨0, _, _, Nat.zero_le _, rfl, rfl, HX0, HOK0, ⟨by simpa using HJ2.out⟩, ⟨A1.out, HT4.out⟩⟩
  case round =>
    obtain ⟨k, x, ok, hk, rfl, rfl, HX, HOK, HJk, HBk⟩ := hrel
    by_cases hkm : k < m
    · obtain rfl : ok = true := by rw [HOK.out]; exact decide_eq_true hkm
      have HT : Aside0 (L.take (k + 1) = L.take k ++ [x]) := ⟨by
        have hkl : k < L.length := by rw [← HMM.out]; exact hkm
        rw [List.take_add_one, List.getElem?_eq_getElem hkl, HX.out, gD L k hkl]
        rfl⟩
      have HLN : Aside0 ((L.take k).length < m) := ⟨by rw [List.length_take, ← HMM.out]; omega⟩
      have hx := HLM.out.2 k hkm
      rw [← HX.out] at hx
      have hx0 := hx.1
      have hx1 := hx.2
      have CN : Aside0 (∀ (W : World) (g' : Nat), Bm W g' S → Tz W → Calls Tryd.prog 12 #[.pointer (some ⟨g', 0, none⟩), .int .i64 (x - 1)] W fun e w' => e = .returned (.tuple #[.int .i64 (L.getD (k + 1) 0), .bool (decide (k + 1 < m))]) ∧ w' = W) := ⟨fun W g' hb ht => CALL.out (k + 1) hkm W g' (x - 1) hb ht (by rw [if_neg (Nat.succ_ne_zero k), Nat.add_sub_cancel, HX.out])⟩
      obtain ⟨fn, tmps, assign, body, hy, hR⟩ := HY.out _ x _ HJk.out HLN.out
      dsimp only [encI] at hy
      obtain ⟨x1, hx2⟩ : ∃ y, y = L.getD (k + 1) 0 := ⟨_, rfl⟩
      obtain ⟨ok1, hok1⟩ : ∃ y, y = decide (k + 1 < m) := ⟨_, rfl⟩
      rw [← hx2, ← hok1] at CN
      have HX1 := Aside0.mk hx2
      have HOK1 := Aside0.mk hok1
      clear hx hx2 hok1
      gi_wp2
      refine hR.mono ?_
      rintro e W3 (⟨rfl, hJ3, hk3⟩ | ⟨rfl, hJx3⟩)
      · have HF : Aside0 (J (L.take (k + 1)) W3 ∧ Bm W3 cb S ∧ Tz W3) := ⟨by rw [HT.out]; exact hJ3, hk3.1 cb _ (by rw [HCB.out]; exact HW.out.size) HBk.out.1 rfl, hk3.2 HBk.out.2⟩
        clear hJ3 hk3
        gi_wp2
        refine ⟨trivial, callsIn_wide.2 ?_⟩
        refine (CN.out _ _ HF.out.2.1 HF.out.2.2).mono ?_
        rintro e w6 ⟨rfl, rfl⟩
        gi_wp2
        go_roundw
        case rel => exact ⟨k + 1, _, _, hkm, rfl, rfl, HX1, HOK1, ⟨HF.out.1⟩, ⟨HF.out.2⟩⟩
        case measure =>
          have hmon := MON.out k
          rw [← HX.out] at hmon
          by_cases hk1 : k + 1 < m
          · have := hmon hk1
            rw [← HX1.out] at this
            rw [HOK1.out, decide_eq_true hk1]
            simpa [intOf] using this
          · rw [HOK1.out, decide_eq_false hk1]
            simp [intOf, mA, mB]
            try omega
      · have HF : Aside0 (Jx (L.take (k + 1)) W3) := ⟨by rw [HT.out]; exact hJx3⟩
        clear hJx3
        gi_wp2
        refine bodyPost_ret (results_none rfl _ _ _) rfl ?_
        exact ⟨⟨_, rfl⟩, .inr ⟨_, List.take_prefix _ _, HF.out⟩⟩
    · obtain rfl : ok = false := by rw [HOK.out]; exact decide_eq_false hkm
      have hkl : L.take k = L := List.take_of_length_le (by rw [← HMM.out]; omega)
      have HF : Aside0 (J L wr) := Aside0.mk (by have h2 := HJk.out; rwa [hkl] at h2)
      gi_wp2
      go_end0
      exact ⟨⟨_, rfl⟩, .inl ⟨L, rfl, HF.out⟩⟩

end Go.Proofs.YtgcelkndgjjbdaaDoor.PBm
