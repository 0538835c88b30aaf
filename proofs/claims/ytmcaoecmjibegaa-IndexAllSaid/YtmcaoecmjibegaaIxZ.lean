/- All's closure: the places in use, sorted, handed over one by one. -/
import Derived.RangeFuncNested
import Derived.RangeFuncBound
import Derived.RangeFuncCalls
import Derived.RangeFuncLeaves
import Derived.Shelf.Abstract
import Derived.Shelf.RegionOpen
import Derived.WalkKit
import Derived.OwnWalkIn
import Derived.TacticsInMore
import Derived.LoopNIn
import Derived.LoopIn
import Derived.Test.YtmcaoecmjibegaaIxY
import Derived.Test.YtmcaoecmjibegaaIxYn
import Derived.Test.YtmcaoecmjibegaaIxU
import Derived.Test.YtmcaoecmjibegaaIxV
namespace Go.Proofs.Ytmcaoecmjibegaa.PIx
open Go.RowKit Go.Proofs.YtmcaoecmjibegaaW.PrintWords Go.Proofs.YtmcaoecmjibegaaW.PrintLast Go.Proofs.YtmcaoecmjibegaaW.PrintMore
open Go.Shelf
set_option linter.unusedVariables false
set_option linter.unusedSimpArgs false
attribute [local go_sem] Oper.semAt_some

/-- A list of places, in memory of its own. -/
def Nr (w : World) (base : Nat) (v : Value) (l : List S72) : Prop := k72.R 72 w base (fun k => v.ownBlock = some k) v l
def used (pl : List S72) : List S72 := pl.filter (·.f0.f0)

namespace Nr
variable {w w' : World} {base : Nat} {v : Value} {l : List S72}
theorem tight {ok : Nat → Prop} (h : k72.R 72 w base ok v l) : Nr w base v l :=
  Kd.R_mono (Kd.R_tight k72_E h) (fun k hk => hk.symm)
theorem form (h : Nr w base v l) : ∃ A c, v = .slice A l.length c := Kd.R_slice h
theorem keep (h : Nr w base v l) (hk : ∀ k, base ≤ k → k < w.heap.size → w'.heap[k]? = w.heap[k]?) : Nr w' base v l :=
  Kd.R_move h (fun k hv => hk k (Kd.R_base h k hv) (Kd.R_lt h k hv))
theorem below (h : Nr w base v l) (k : Below w.heap.size w w') : Nr w' base v l := h.keep (fun i _ hl => k.block i hl)
theorem at3 (h : Nr w base v l) (hp : 0 < l.length) : ∃ c cap, v = .slice (some ⟨c, 0, none⟩) l.length cap ∧ base ≤ c ∧ c < w.heap.size ∧ At3 w c l := by
  obtain ⟨c, cap, rfl, h0, h1, _⟩ := Kd.R_form h hp
  refine ⟨c, cap, rfl, h0, h1, fun i hi j hj => ?_⟩
  obtain ⟨cs, hl, hM, hc, hf⟩ := Kd.R_elem h z72 (i : Int) (by omega) (by omega)
  have hcs := k72_openM hM
  subst hcs
  simp only [Int.toNat_natCast] at hc hf
  refine ⟨hc j _ ?_, hf j⟩
  match j, hj with
  | 0, _ => rfl
  | 1, _ => rfl
  | 2, _ => rfl
/-- append of one, as a step of a region that draws. -/
theorem append1_step {ops : Array Oper} {o : Oper} {a : Act} {Q : Exit → Act → World → Prop} {Kc : Act → World → Prop} {Wx : World} {B : Nat} {v : Value} {xs : List S72} {y0 : Bool} {y1 y2 : Int}
    (hw : Region.wanted o (yielded ops a.tmps) = true) (s x : Operand) (ho : o.op = .call { callee := .builtin .append, args := #[s, x], argTypes := #[68, 68] }) (hs : a.eval s = v) (hx : a.eval x = .slice (some ⟨Wx.heap.size, 0, none⟩) 1 1)
    (HO : Nr Wx B v xs) (hbase : B ≤ Wx.heap.size) (hl : xs.length ≤ 262144)
    (h : ∀ v1 w1, Nr w1 B v1 (xs ++ [⟨⟨y0, y1⟩, y2⟩]) → Below B Wx w1 → Kc (a.put o.dst v1) w1) :
    if Region.wanted o (yielded ops a.tmps) = true then Oper.wp Try.prog o a (Wx.alloc (.cells #[.bool y0, .int .u64 y1, .int .i64 y2] 72)) Kc Q else Kc (a.put o.dst undef) (Wx.alloc (.cells #[.bool y0, .int .u64 y1, .int .i64 y2] 72)) := by
  refine Kd.R_append_step k72 (w0 := Wx) B hw s x 68 72 _ 24 ho Try.underlying68 info72 rfl (by decide) (by decide) v xs ⟨⟨y0, y1⟩, y2⟩ [.bool y0, .int .u64 y1, .int .i64 y2] (fun k => B ≤ k) (fun _ => False) hs hx (k72_mkM _ _ _ _) (fun _ hk => hk.elim) (fun k hk => by omega)
    (Kd.R_mono HO (fun k hk => Kd.R_base HO k hk)) (Below.refl _ _) hbase (by omega) ?_
  intro v1 w1 h1 h2 h3 h4
  exact h v1 w1 (Nr.tight h1) h2
/-- append of one, in a plain region. -/
theorem append1_any {ops : Array Oper} {rest : List Oper} {o : Oper} {a : Act} {Q : Exit → Act → World → Prop} {Wx : World} {B : Nat} {v : Value} {xs : List S72} {y0 : Bool} {y1 y2 : Int}
    (hgd : o.guard = none) (s x : Operand) (ho : o.op = .call { callee := .builtin .append, args := #[s, x], argTypes := #[68, 68] }) (hs : a.eval s = v) (hx : a.eval x = .slice (some ⟨Wx.heap.size, 0, none⟩) 1 1)
    (HO : Nr Wx B v xs) (hbase : B ≤ Wx.heap.size) (hl : xs.length ≤ 262144)
    (h : ∀ v1 w1, Nr w1 B v1 (xs ++ [⟨⟨y0, y1⟩, y2⟩]) → Below B Wx w1 → wpList Try.prog ops Q rest (a.put o.dst v1) w1) :
    wpList Try.prog ops Q (o :: rest) a (Wx.alloc (.cells #[.bool y0, .int .u64 y1, .int .i64 y2] 72)) := by
  refine Kd.R_append k72 (w0 := Wx) B hgd s x 68 72 _ 24 ho Try.underlying68 info72 rfl (by decide) (by decide) v xs ⟨⟨y0, y1⟩, y2⟩ [.bool y0, .int .u64 y1, .int .i64 y2] (fun k => B ≤ k) (fun _ => False) hs hx (k72_mkM _ _ _ _) (fun _ hk => hk.elim) (fun k hk => by omega)
    (Kd.R_mono HO (fun k hk => Kd.R_base HO k hk)) (Below.refl _ _) hbase (by omega) ?_
  intro v1 w1 h1 h2 h3 h4
  exact h v1 w1 (Nr.tight h1) h2
theorem nil (w : World) (base : Nat) : Nr w base (.slice none 0 0) [] := Kd.R_nil _ _ _ _ _
end Nr

theorem isCells_of_cell {W : World} {c o : Nat} {v : Value} (h : W.cell? ⟨c, o, none⟩ = some v) : ∃ ob : Obj, W.heap[c]? = some ob ∧ ob.isCells = true := by
  unfold World.cell? at h
  cases hh : W.heap[c]? with
  | none => simp [hh] at h
  | some ob =>
    cases ob with
    | cells a b d => exact ⟨_, rfl, rfl⟩
    | _ => simp [hh] at h

/-- The sorted row, in memory of its own. -/
def Row3 (W : World) (base : Nat) (A : Option Addr) (l : List S72) : Prop := l.length = 0 ∨ ∃ c, A = some ⟨c, 0, none⟩ ∧ base ≤ c ∧ At3 W c l

theorem sort_any {w : World} {base q cp : Nat} {A : Option Addr} {l : List S72} (h : Nr w base (.slice A q cp) l) (hq : l.length = q) (hl : q ≤ 131072) :
    Calls Try.prog 31 #[.slice A q cp, .func (.func 32) #[] #[]] w fun e w' => e = .returned (.tuple #[]) ∧ ∃ l', l'.Perm l ∧ l'.Pairwise (fun a b => a.f0.f1 ≤ b.f0.f1) ∧ Row3 w' base A l' ∧ Below base w w' := by
  rcases Nat.eq_zero_or_pos q with h0 | h0
  · subst h0
    refine (sort_none A cp w).mono ?_
    rintro e w' ⟨rfl, rfl⟩
    obtain rfl : l = [] := List.eq_nil_of_length_eq_zero hq
    exact ⟨rfl, [], List.Perm.refl _, List.Pairwise.nil, .inl rfl, Below.refl _ _⟩
  · obtain ⟨c, cap, hv, hb, hc, h3⟩ := h.at3 (by omega)
    rw [hq] at hv
    injection hv with e1 e2 e3
    subst e1
    subst e3
    have hs := sort_calls w c cp l hc h3 (by omega)
    rw [hq] at hs
    refine hs.mono ?_
    rintro e w' ⟨rfl, l', hp, hw, h3', hf⟩
    exact ⟨rfl, l', hp, hw, .inr ⟨c, rfl, hb, h3'⟩, ⟨hf.os, hf.tape, hf.output, hf.size, fun k hk => hf.block k (by omega) (by omega)⟩⟩

theorem pa_lt (l : List S72) (i : Nat) (hi : i < l.length) : pa l i = l[i] := by
  unfold pa
  rw [List.getD_eq_getElem?_getD, List.getElem?_eq_getElem hi]
  rfl
theorem Row3.at_ {W : World} {base : Nat} {A : Option Addr} {l : List S72} (h : Row3 W base A l) (i : Nat) (hi : i < l.length) :
    ∃ c, A = some ⟨c, 0, none⟩ ∧ W.cell? ⟨c, i * 3, none⟩ = some (.bool (pa l i).f0.f0) ∧ W.cell? ⟨c, i * 3 + 1, none⟩ = some (.int .u64 (pa l i).f0.f1) ∧ W.cell? ⟨c, i * 3 + 2, none⟩ = some (.int .i64 (pa l i).f1) := by
  rcases h with h | ⟨c, rfl, hb, h3⟩
  · omega
  · exact ⟨c, rfl, h3.at_ i hi⟩

theorem Row3.keep {B : Nat} {W W' : World} {base : Nat} {A : Option Addr} {l : List S72} (h : Row3 W base A l) (hk : ∀ (k : Nat) (o : Obj), base ≤ k → W.heap[k]? = some o → o.isCells = true → W'.heap[k]? = some o) : Row3 W' base A l := by
  rcases h with h | ⟨c, rfl, hb, h3⟩
  · exact .inl h
  · rcases Nat.eq_zero_or_pos l.length with h0 | h0
    · exact .inl h0
    · obtain ⟨o, ho, hc⟩ := isCells_of_cell (h3 0 h0 0 (by decide)).1
      exact .inr ⟨c, rfl, hb, h3.keep ((hk c o hb ho hc).trans ho.symm)⟩
theorem Row3.alloc {W : World} {base : Nat} {A : Option Addr} {l : List S72} (h : Row3 W base A l) (o : Obj) : Row3 (W.alloc o) base A l :=
  h.keep (B := 0) (fun k ob _ hk _ => (Below.heap_alloc _ _ _ (Array.getElem?_eq_some_iff.1 hk).1).trans hk)

def encKV (x : Int × Int) : Array Value := #[.int .u64 x.1, .int .i64 x.2]
/-- Blocks of cells from B on lie as they lay. -/
def KeepCells (B : Nat) (W W' : World) : Prop := ∀ (k : Nat) (o : Obj), B ≤ k → W.heap[k]? = some o → o.isCells = true → W'.heap[k]? = some o
theorem KeepCells.trans {B : Nat} {X Y Z : World} (h : KeepCells B X Y) (k : KeepCells B Y Z) : KeepCells B X Z := fun i o hB hi ho => k i o hB (h i o hB hi ho) ho
theorem keepCells_b {B : Nat} (W : World) (l : Nat) (o o' : Obj) (h : W.heap[l]? = some o) (hc : o.isCells = false) : KeepCells B W (W.putObj l o') := by
  intro k ok hB hk hck
  refine (World.putObj_heap_other ?_).trans hk
  rintro rfl
  rw [hk] at h
  cases h
  rw [hck] at hc
  cases hc

def kv (s : S72) : Int × Int := (s.f0.f1, s.f1)
/-- What All hands over: the places in use, by rising keys. -/
def Srt (pl l : List S72) : Prop := l.Perm (used pl) ∧ l.Pairwise (fun a b => a.f0.f1 ≤ b.f0.f1)

theorem used_take (pl : List S72) (i : Nat) (hi : i < pl.length) : used (pl.take (i + 1)) = used (pl.take i) ++ (if us pl i = true then [pa pl i] else []) := by
  have e : pa pl i = pl[i] := by unfold pa; rw [List.getD_eq_getElem?_getD, List.getElem?_eq_getElem hi]; rfl
  unfold used us
  rw [List.take_add_one, List.getElem?_eq_getElem hi, List.filter_append, e]
  show _ ++ List.filter _ [pl[i]] = _
  congr 1
  by_cases h : pl[i].f0.f0 = true <;> simp [h]

set_option maxHeartbeats 8000000 in
set_option maxRecDepth 100000 in
theorem all1_seq {w : World} {g b p : Nat} {room keys : Int} {bits : Nat} {pl : List S72} (n : Nat) (hn : 1 ≤ n) (h : Ix w g b room keys bits pl) (hl : pl.length ≤ 131072) (hp : w.cell? ⟨p, 0, none⟩ = some (.pointer (some ⟨g, 0, none⟩))) (hpl : p < w.heap.size) :
    SeqStopsK Fence.wide n Try.prog 30 #[.pointer (some ⟨p, 0, none⟩)] encKV (KeepCells w.heap.size) (fun xs => ∃ l, Srt pl l ∧ xs = l.map kv) (fun pre => ∃ l, Srt pl l ∧ pre <+: l.map kv) (used pl).length w := fun ll J Jx W hW hJ hJx hY h0 => by
  have h1 : Ix W g b room keys bits pl := h.keep (hW.block g h.lt) (hW.block b h.ltb)
  have hp1 : W.cell? ⟨p, 0, none⟩ = some (.pointer (some ⟨g, 0, none⟩)) := (hW.cell (p := ⟨p, 0, none⟩) hpl).trans hp
  obtain ⟨c, ⟨hc0, hc1, _, hc3⟩, hfz, _⟩ := h1.cells
  have HI := Aside0.mk h1
  have HJ := Aside0.mk hJ
  have HJX := Aside0.mk hJx
  have HY := Aside0.mk hY
  have H0 := Aside0.mk h0
  have HW := Aside0.mk hW
  obtain ⟨m, hm⟩ : ∃ m, m = pl.length := ⟨_, rfl⟩
  rw [← hm] at hc3 hl
  have HM := Aside0.mk hm
  clear h hp hJ hJx hY h0 h1 hW hm hc1 hc0 hfz
  refine callsIn_of_wp Try.func30 rfl trivial ?_ rfl
  refine wpIn_wide.2 ?_
  simp only [Try.ntmps30, List.size_toArray, List.length_cons, List.length_nil, Nat.reduceAdd, Nat.reduceSub, Array.replicate_succ, Array.replicate_zero, List.push_toArray, List.append_toArray, List.nil_append, List.cons_append]
  go_wp2
  go_loopg [3, 13] m (fun kq v3 v13 w' => ∃ (i q : Nat) (A : Option Addr) (cp : Nat), v3 = .slice A q cp ∧ v13 = .int .i64 (i : Int) ∧ i ≤ m ∧ q ≤ i ∧ Aside0 (kq + i = m) ∧ Aside0 ((used (pl.take i)).length = q) ∧ Aside0 (Nr w' W.heap.size (.slice A q cp) (used (pl.take i))) ∧ Aside0 (Below W.heap.size W w'))
  case atStart => exact ⟨0, 0, none, 0, rfl, rfl, Nat.zero_le _, Nat.le_refl _, ⟨by omega⟩, ⟨rfl⟩, ⟨Nr.nil _ _⟩, ⟨Below.refl _ _⟩⟩
  case round =>
    obtain ⟨i, q, A, cp, rfl, rfl, him, hqi, HK, HQ, HN, HB⟩ := hrel
    have HIr : Aside0 (Ix wr g b room keys bits pl) := ⟨HI.out.keep (HB.out.block g HI.out.lt) (HB.out.block b HI.out.ltb)⟩
    by_cases hi : i < m
    · obtain ⟨k1, rfl⟩ : ∃ k1, gk = k1 + 1 := ⟨gk - 1, by have := HK.out; omega⟩
      have hi' : i < pl.length := by rw [← HM.out]; exact hi
      obtain ⟨⟨p0, p1, p2⟩, pf⟩ := HIr.out.elem i hi'
      have HT : Aside0 (used (pl.take (i + 1)) = used (pl.take i) ++ (if us pl i = true then [pa pl i] else [])) := ⟨used_take pl i hi'⟩
      have HP : Aside0 (pa pl i = ⟨⟨us pl i, (pa pl i).f0.f1⟩, (pa pl i).f1⟩) := ⟨rfl⟩
      rw [show (pa pl i).f0.f0 = us pl i from rfl] at p0
      obtain ⟨x1, h1⟩ : ∃ x, x = (pa pl i).f0.f1 := ⟨_, rfl⟩
      obtain ⟨x2, h2⟩ : ∃ x, x = (pa pl i).f1 := ⟨_, rfl⟩
      rw [← h1] at p1
      rw [← h2] at p2
      rw [← h1, ← h2] at HP
      have HLQ : Aside0 ((used (pl.take i)).length ≤ 262144) := ⟨by rw [HQ.out]; omega⟩
      clear h1 h2 pf hi'
      cases hu : us pl i with
      | true =>
        rw [hu] at p0
        have HU := Aside0.mk hu
        clear hu
        have HNA : Aside0 (Nr (wr.alloc (.cells #[.bool true, .int .u64 x1, .int .i64 x2] 72)) W.heap.size (.slice A q cp) (used (pl.take i)) ∧ W.heap.size ≤ (wr.alloc (.cells #[.bool true, .int .u64 x1, .int .i64 x2] 72)).heap.size ∧ Below W.heap.size W (wr.alloc (.cells #[.bool true, .int .u64 x1, .int .i64 x2] 72))) :=
          ⟨HN.out.keep (fun k _ hk => Below.heap_alloc _ _ _ hk), by have := HB.out.size; simp; omega, HB.out.alloc HB.out.size _⟩
        go_wp2_with (first
          | ((with_reducible refine gate_builtin (b := .append) rfl ?_); refine Nr.append1_any (Wx := wr.alloc (.cells #[.bool true, .int .u64 x1, .int .i64 x2] 72)) (B := W.heap.size) (v := .slice A q cp) (xs := used (pl.take i)) (y0 := true) (y1 := x1) (y2 := x2) (hgd := ?_) (s := .tmp 20) (x := .tmp 22) (ho := ?_) (hs := ?_) (hx := ?_) (HO := HNA.out.1) (hbase := HNA.out.2.1) (hl := HLQ.out) ?_; exact rfl; exact rfl; exact rfl; (rw [World.size_alloc]; exact rfl); intro v1 w2 m1 m2; have M1 := Aside0.mk m1; have M2 := Aside0.mk m2; clear m1 m2; obtain ⟨A3, c3, hv⟩ := M1.out.form; have hlen : (used (pl.take i) ++ ([⟨⟨true, x1⟩, x2⟩] : List S72)).length = q + 1 := (by rw [List.length_append, List.length_singleton, HQ.out]); rw [hlen] at hv; have HLEN := Aside0.mk hlen; clear hlen; subst hv))
        go_roundg k1
        case measure => omega
        case rel =>
          have e : used (pl.take (i + 1)) = used (pl.take i) ++ ([⟨⟨true, x1⟩, x2⟩] : List S72) := by rw [HT.out, if_pos HU.out, HP.out, HU.out]
          exact ⟨i + 1, q + 1, A3, c3, rfl, rfl, by omega, by omega, ⟨by have := HK.out; omega⟩, ⟨by rw [e]; exact HLEN.out⟩, ⟨by rw [e]; exact M1.out⟩, ⟨HNA.out.2.2.trans M2.out⟩⟩
      | false =>
        rw [hu] at p0
        have HU := Aside0.mk hu
        clear hu
        go_wp2
        go_roundg k1
        case measure => omega
        case rel =>
          have e : used (pl.take (i + 1)) = used (pl.take i) := by rw [HT.out, if_neg (by rw [HU.out]; decide), List.append_nil]
          exact ⟨i + 1, q, A, cp, rfl, rfl, by omega, by omega, ⟨by have := HK.out; omega⟩, ⟨by rw [e]; exact HQ.out⟩, ⟨by rw [e]; exact HN.out.keep (fun k _ hk => Below.heap_alloc _ _ _ hk)⟩, ⟨HB.out.alloc HB.out.size _⟩⟩
    · obtain rfl : i = m := by omega
      have HS : Aside0 (Nr wr W.heap.size (.slice A q cp) (used pl) ∧ (used pl).length = q) := ⟨by
        have e : pl.take i = pl := by rw [HM.out]; exact List.take_length
        have h1 := HN.out
        have h2 := HQ.out
        rw [e] at h1 h2
        exact ⟨h1, h2⟩⟩
      go_wp2_with (fail)
      refine (sort_any HS.out.1 HS.out.2 (by omega)).mono ?_
      rintro e w2 ⟨rfl, l, hp, hw, h3, hb2⟩
      have HB2 : Aside0 (Below W.heap.size W w2) := ⟨HB.out.trans hb2⟩
      have HSR : Aside0 (Srt pl l) := ⟨hp, hw⟩
      have H3 := Aside0.mk h3
      have hlq : l.length = q := by rw [hp.length_eq]; exact HS.out.2
      have HLQ := Aside0.mk hlq
      clear hp hw h3 hb2 hlq
      go_wp2_with (fail)
      refine (wpIn_wide (n := n)).1 ?_
      have HJ2 : Aside0 (J [] w2) := ⟨HJ.out [] W w2 none H0.out ⟨HB2.out.os, HB2.out.tape, HB2.out.output, HB2.out.size, fun k hk _ => HB2.out.block k hk⟩ (fun r e => by cases e)⟩
      gi_loopw [29] (fun iv w' => ∃ k : Nat, k ≤ q ∧ iv = .int .i64 (k : Int) ∧ Aside0 (J ((l.take k).map kv) w') ∧ Aside0 (Row3 w' W.heap.size A l))
        (fun iv _ => q - (intOf iv).toNat)
      case atStart => exact ⟨0, Nat.zero_le _, rfl, ⟨by simpa using HJ2.out⟩, H3⟩
      case round =>
        obtain ⟨k, hk, rfl, HJk, HRk⟩ := hrel
        by_cases hkq : k < q
        · have hkl : k < l.length := by rw [HLQ.out]; exact hkq
          obtain ⟨c3, rfl, r0, r1, r2⟩ := HRk.out.at_ k hkl
          have HT : Aside0 ((l.take (k + 1)).map kv = (l.take k).map kv ++ [kv (pa l k)]) := ⟨by rw [List.take_add_one, List.getElem?_eq_getElem hkl, List.map_append, pa_lt l k hkl]; rfl⟩
          have HLN : Aside0 (((l.take k).map kv).length < (used pl).length) := ⟨by rw [List.length_map, List.length_take, HS.out.2]; omega⟩
          obtain ⟨x0, e0⟩ : ∃ x, x = (pa l k).f0.f0 := ⟨_, rfl⟩
          obtain ⟨x1, e1⟩ : ∃ x, x = (pa l k).f0.f1 := ⟨_, rfl⟩
          obtain ⟨x2, e2⟩ : ∃ x, x = (pa l k).f1 := ⟨_, rfl⟩
          rw [← e0] at r0
          rw [← e1] at r1
          rw [← e2] at r2
          have e12 : kv (pa l k) = (x1, x2) := by rw [e1, e2]; rfl
          rw [e12] at HT
          clear e0 e1 e2 e12
          have hw3 : ∃ w3, w3 = wr.alloc (Obj.cells #[.bool x0, .int .u64 x1, .int .i64 x2] 72) := ⟨_, rfl⟩
          have HJ3 : J ((l.take k).map kv) (wr.alloc (Obj.cells #[.bool x0, .int .u64 x1, .int .i64 x2] 72)) :=
            HJ.out _ wr _ none HJk.out ⟨rfl, rfl, rfl, by simp, fun j hj _ => Below.heap_alloc _ _ _ hj⟩ (fun r e => by cases e)
          have HR3 : Aside0 (Row3 (wr.alloc (Obj.cells #[.bool x0, .int .u64 x1, .int .i64 x2] 72)) W.heap.size (some ⟨c3, 0, none⟩) l) := ⟨HRk.out.alloc _⟩
          obtain ⟨fn, tmps, assign, body, hy, hR⟩ := HY.out _ (x1, x2) _ HJ3 HLN.out
          dsimp only [encKV] at hy
          clear HJ3 hkl hw3
          gi_wp2
          refine hR.mono ?_
          rintro e W3 (⟨rfl, hJ3, hk3⟩ | ⟨rfl, hJx3⟩)
          · have HF : Aside0 (J ((l.take (k + 1)).map kv) W3 ∧ Row3 W3 W.heap.size (some ⟨c3, 0, none⟩) l) := ⟨by rw [HT.out]; exact hJ3, HR3.out.keep (B := 0) (fun j o hj hw ho => hk3 j o (Nat.le_trans HW.out.size hj) hw ho)⟩
            clear hJ3 hk3
            gi_wp2
            go_roundw
            case rel => exact ⟨k + 1, by omega, by simp, ⟨HF.out.1⟩, ⟨HF.out.2⟩⟩
            case measure => simp [intOf]; omega
          · have HF : Aside0 (Jx ((l.take (k + 1)).map kv) W3) := ⟨by rw [HT.out]; exact hJx3⟩
            clear hJx3
            gi_wp2
            refine bodyPost_ret (results_none rfl _ _ _) rfl ?_
            exact ⟨⟨_, rfl⟩, .inr ⟨_, ⟨l, HSR.out, (List.take_prefix _ _).map _⟩, HF.out⟩⟩
        · obtain rfl : k = q := by omega
          have HF : Aside0 (J (l.map kv) wr) := ⟨by have h2 := HJk.out; rwa [← HLQ.out, List.take_length] at h2⟩
          gi_wp2
          go_end0
          exact ⟨⟨_, rfl⟩, .inl ⟨_, ⟨l, HSR.out, rfl⟩, HF.out⟩⟩
end Go.Proofs.Ytmcaoecmjibegaa.PIx
