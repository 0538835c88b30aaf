/- turn, alike; what goes keeps. -/
import Derived.Test.YtgcelkndgjjbdaaDoorBmW
import Derived.BigQuiet
namespace Go.Proofs.YtgcelkndgjjbdaaDoor.PBm
open Go.RowKit Go.Proofs.YtgcelkndgjjbdaaDoorW.PrintWords Go.Proofs.YtgcelkndgjjbdaaDoorW.PrintLast Go.Proofs.YtgcelkndgjjbdaaDoorW.PrintMore
open Go.Shelf
set_option linter.unusedVariables false
set_option linter.unusedSimpArgs false

/-- A tick turned. -/
def flip (S : St) (t : Int) : St := if hasB S t then del S t else put S t
theorem flip_t {S : St} {t : Int} (h : hasB S t = true) : flip S t = del S t := by unfold flip; rw [h]; rfl
theorem flip_f {S : St} {t : Int} (h : hasB S t = false) : flip S t = put S t := by unfold flip; rw [h]; rfl
theorem flip_flip (S : St) (t : Int) (x : Nat) : flip (flip S t) t x = S x := by
  cases h : hasB S t with
  | true =>
    have ht : tickB t = true := by unfold hasB at h; exact (Bool.and_eq_true _ _ ▸ h).1
    have hs : S t.toNat = true := by unfold hasB at h; exact (Bool.and_eq_true _ _ ▸ h).2
    have e : hasB (del S t) t = false := by unfold hasB del; rw [ht, if_pos rfl, up_self]; rfl
    rw [flip_t h, flip_f e]
    unfold put del
    rw [if_pos ht, if_pos ht]
    by_cases hx : x = t.toNat
    · subst hx; rw [up_self, hs]
    · rw [up_ne _ _ hx, up_ne _ _ hx]
  | false =>
    cases ht : tickB t with
    | true =>
      have hs : S t.toNat = false := by unfold hasB at h; rw [ht] at h; simpa using h
      have e : hasB (put S t) t = true := by unfold hasB put; rw [ht, if_pos rfl, up_self]; rfl
      rw [flip_f h, flip_t e]
      unfold put del
      rw [if_pos ht, if_pos ht]
      by_cases hx : x = t.toNat
      · subst hx; rw [up_self, hs]
      · rw [up_ne _ _ hx, up_ne _ _ hx]
    | false =>
      have e : put S t = S := by unfold put; rw [ht]; rfl
      rw [flip_f h, e, flip_f h, e]
theorem flip_no {S : St} {t : Int} (h : tickB t = false) : flip S t = S := by
  unfold flip put
  have : hasB S t = false := by unfold hasB; rw [h]; rfl
  rw [this, h]
  rfl

set_option maxHeartbeats 8000000 in
set_option maxRecDepth 100000 in
theorem turn_calls {W : World} {g : Nat} {S : St} (x2 : Value) (h : Bm W g S) (t : Int) :
    Calls Tryd.prog 48 #[.agg #[.pointer (some ⟨g, 0, none⟩), x2], .int .i64 t] W fun e w' => e = .returned (.bool (tickB t)) ∧ Bm w' g (flip S t) ∧ Fr (fun k => k = g) W w' := by
  obtain ⟨w1, hw1⟩ : ∃ w1, w1 = W.alloc (.cells #[.pointer (some ⟨g, 0, none⟩), x2] 40) := ⟨_, rfl⟩
  have hB : Below W.heap.size W w1 := by rw [hw1]; exact (Below.refl _ W).alloc (Nat.le_refl _) _
  have HM : Aside0 (Bm w1 g S) := ⟨h.below hB h.lt⟩
  have HF : Aside0 (Fr (fun k => k = g) W w1) := ⟨(Fr.refl _ W).below hB⟩
  have HP : Aside0 (w1.heap[W.heap.size]? = some (.cells #[.pointer (some ⟨g, 0, none⟩), x2] 40 (0, 0))) := ⟨by rw [hw1]; exact heap_alloc_new W _⟩
  have HH : Aside0 (Calls Tryd.prog 13 #[.pointer (some ⟨g, 0, none⟩), .int .i64 t] w1 fun e w' => e = .returned (.bool (hasB S t)) ∧ w' = w1) := ⟨has_any S HM.out t⟩
  cases hb : hasB S t with
  | true =>
    have ht : tickB t = true := by unfold hasB at hb; exact (Bool.and_eq_true _ _ ▸ hb).1
    have e1 : flip S t = del S t := by unfold flip; rw [hb]; rfl
    have HC : Aside0 (Calls Tryd.prog 20 #[.pointer (some ⟨g, 0, none⟩), .int .i64 t] w1 fun e w' => e = .returned (.bool true) ∧ Bm w' g (del S t) ∧ Fr (fun k => k = g) w1 w') := ⟨by have := clear_any S HM.out t; rwa [hb] at this⟩
    rw [hb] at HH
    rw [e1, ht]
    have c0 : w1.cell? ⟨W.heap.size, 0, none⟩ = some (.pointer (some ⟨g, 0, none⟩)) := (blk_cell HP.out 0).trans rfl
    clear hb h hB ht e1
    go_enter Tryd.func48, Tryd.ntmps48
    go_upto_region 1 with (fail)
    rw [← hw1]
    clear hw1
    go_wp2_with (first
      | ((with_reducible refine gate_callee (f := 13) rfl ?_); (try (refine gate_guard (by rfl) ?_; dsimp only)); refine goesL_ (some 8) rfl rfl Tryd.func13 (by kernel_rfl) rfl #[.pointer (some ⟨g, 0, none⟩), .int .i64 t] rfl (by (try simp only [List.map_toArray, List.map_cons, List.map_nil]); first | done | rfl) ?_; (with_reducible refine (HH.out).mono ?_); rintro e w2 ⟨rfl, rfl⟩; refine ⟨_, rfl, ?_⟩; skip)
      | ((with_reducible refine gate_callee (f := 20) rfl ?_); (try (refine gate_guard (by rfl) ?_; dsimp only)); refine goesL_ (some 12) rfl rfl Tryd.func20 (by kernel_rfl) rfl #[.pointer (some ⟨g, 0, none⟩), .int .i64 t] rfl (by (try simp only [List.map_toArray, List.map_cons, List.map_nil]); first | done | rfl) ?_; (with_reducible refine (HC.out).mono ?_); rintro e w3 ⟨rfl, h3, f3⟩; refine ⟨_, rfl, ?_⟩; have H3 := Aside0.mk h3; have F3 := Aside0.mk f3; clear h3 f3))
    go_ret
    exact ⟨rfl, H3.out, HF.out.trans F3.out (fun i hi => .inl hi)⟩
  | false =>
    have e1 : flip S t = put S t := by unfold flip; rw [hb]; rfl
    have HC : Aside0 (Calls Tryd.prog 15 #[.pointer (some ⟨g, 0, none⟩), .int .i64 t] w1 fun e w' => e = .returned (.bool (tickB t)) ∧ Bm w' g (put S t) ∧ Fr (fun k => k = g) w1 w') := ⟨by have := set_any S HM.out t; rw [hb] at this; simpa using this⟩
    rw [hb] at HH
    rw [e1]
    obtain ⟨tb, htb⟩ : ∃ tb, tb = tickB t := ⟨_, rfl⟩
    rw [← htb] at HC ⊢
    have c0 : w1.cell? ⟨W.heap.size, 0, none⟩ = some (.pointer (some ⟨g, 0, none⟩)) := (blk_cell HP.out 0).trans rfl
    clear hb h hB htb e1
    go_enter Tryd.func48, Tryd.ntmps48
    go_upto_region 1 with (fail)
    rw [← hw1]
    clear hw1
    go_wp2_with (first
      | ((with_reducible refine gate_callee (f := 13) rfl ?_); (try (refine gate_guard (by rfl) ?_; dsimp only)); refine goesL_ (some 8) rfl rfl Tryd.func13 (by kernel_rfl) rfl #[.pointer (some ⟨g, 0, none⟩), .int .i64 t] rfl (by (try simp only [List.map_toArray, List.map_cons, List.map_nil]); first | done | rfl) ?_; (with_reducible refine (HH.out).mono ?_); rintro e w2 ⟨rfl, rfl⟩; refine ⟨_, rfl, ?_⟩; skip)
      | ((with_reducible refine gate_callee (f := 15) rfl ?_); (try (refine gate_guard (by rfl) ?_; dsimp only)); refine goesL_ (some 16) rfl rfl Tryd.func15 (by kernel_rfl) rfl #[.pointer (some ⟨g, 0, none⟩), .int .i64 t] rfl (by (try simp only [List.map_toArray, List.map_cons, List.map_nil]); first | done | rfl) ?_; (with_reducible refine (HC.out).mono ?_); rintro e w3 ⟨rfl, h3, f3⟩; refine ⟨_, rfl, ?_⟩; have H3 := Aside0.mk h3; have F3 := Aside0.mk f3; clear h3 f3))
    go_ret
    exact ⟨rfl, H3.out, HF.out.trans F3.out (fun i hi => .inl hi)⟩

/-- A result in a box. -/
theorem results_bool {fn : Func} {tmps : Array Value} {w : World} {p r : Nat} {v : Bool} (h : fn.results = #[.cell p 4]) (hp : tmps.getD p undef = .pointer (some ⟨r, 0, none⟩)) (hc : w.cell? ⟨r, 0, none⟩ = some (.bool v)) : (results fn tmps).run Tryd.prog w = .ok (.bool v) w := by
  unfold results
  rw [show fn.results = [ResultVar.cell p 4].toArray from h, List.mapM_toArray]
  rw [Array.getD_eq_getD_getElem?] at hp
  simp [List.mapM_cons, go_sem, hp, hc, asAddr]
def mark (D : Nat) : Deferred := { target := .collected D, args := #[] }
/-- The marks that the ranges have left. -/
structure DsOk (N : Nat) (Ds : List Nat) (w : World) : Prop where
  nod : Ds.Nodup
  blk : ∀ D ∈ Ds, N ≤ D ∧ w.heap[D]? = some (.deferred (some []))
theorem DsOk.nil (N : Nat) (w : World) : DsOk N [] w := ⟨List.nodup_nil, by simp⟩
theorem DsOk.lt {N : Nat} {Ds : List Nat} {w : World} (h : DsOk N Ds w) : ∀ D ∈ Ds, D < w.heap.size := fun D hD => (Array.getElem?_eq_some_iff.1 (h.blk D hD).2).1
theorem DsOk.below {N B : Nat} {Ds : List Nat} {w w' : World} (h : DsOk N Ds w) (hB : ∀ D ∈ Ds, D < B) (k : Below B w w') : DsOk N Ds w' := ⟨h.nod, fun D hD => ⟨(h.blk D hD).1, (k.block D (hB D hD)).trans (h.blk D hD).2⟩⟩
theorem DsOk.fr {S : Nat → Prop} {N : Nat} {Ds : List Nat} {w w' : World} (h : DsOk N Ds w) (k : Fr S w w') (hS : ∀ D ∈ Ds, ¬ S D) : DsOk N Ds w' := ⟨h.nod, fun D hD => ⟨(h.blk D hD).1, (k.block D (h.lt D hD) (hS D hD)).trans (h.blk D hD).2⟩⟩
theorem DsOk.cons {N B : Nat} {Ds : List Nat} {w : World} (h : DsOk N Ds w) (hB : ∀ D ∈ Ds, D < B) {D : Nat} (hD : B ≤ D) (hN : N ≤ B) (hb : w.heap[D]? = some (.deferred (some []))) : DsOk N (D :: Ds) w :=
  ⟨List.nodup_cons.2 ⟨fun hm => by have := hB D hm; omega, h.nod⟩, fun D' hD' => by
    rcases List.mem_cons.1 hD' with rfl | hm
    · exact ⟨by omega, hb⟩
    · exact h.blk D' hm⟩
theorem DsOk.grown {row : Option Nat} {N B : Nat} {Ds : List Nat} {w w' : World} (h : DsOk N Ds w) (hB : ∀ D ∈ Ds, D < B) (hg : w.grownBy w' row) (hr : ∀ i, row = some i → B ≤ i) : DsOk N Ds w' :=
  ⟨h.nod, fun D hD => ⟨(h.blk D hD).1, (hg.block D (h.lt D hD) (fun e => by have := hr D e.symm; have := hB D hD; omega)).trans (h.blk D hD).2⟩⟩
theorem DsOk.ne {N : Nat} {Ds : List Nat} {w : World} (h : DsOk N Ds w) {k : Nat} {cs : Array Value} {t : TypeId} {f : Nat × Nat} (hk : w.heap[k]? = some (.cells cs t f)) : ∀ D ∈ Ds, D ≠ k := fun D hD e => by
  have := (h.blk D hD).2
  rw [e, hk] at this
  cases this

/-- A function that holds several ranges over functions leaves. -/
theorem leaves_marks {F : Fence} {n : Nat} {Pr : Program} {fn : Func} {tmps : Array Value} {R : Ending → World → Prop} (N : Nat) : ∀ (Ds : List Nat) (w : World), DsOk N Ds w → (∀ w', Below N w w' → LeavesIn F n Pr fn tmps R [] .returning w') → LeavesInM F n Pr fn tmps R (Ds.map mark) .returning w := by
  intro Ds
  induction Ds with
  | nil => intro w _ h; exact h w (Below.refl _ _)
  | cons D Ds ih =>
    intro w hd h
    have h1 := hd.blk D (List.mem_cons_self ..)
    have hnd := List.nodup_cons.1 hd.nod
    refine ⟨by simp, .inl ⟨_, _, rfl, run_takeDeferred h1.2, ih _ ⟨hnd.2, fun D' hD' => ⟨(hd.blk D' (List.mem_cons_of_mem _ hD')).1, ?_⟩⟩ (fun w' hb => h w' (Below.trans ?_ hb))⟩⟩
    · exact (World.putObj_heap_other (fun e => hnd.1 (by first | (rw [e]; exact hD') | (rw [← e]; exact hD')))).trans (hd.blk D' (List.mem_cons_of_mem _ hD')).2
    · have hg := grownBy_putObj' w D (.deferred none)
      exact ⟨hg.os, hg.tape, hg.output, hg.size, fun k hk => World.putObj_heap_other (by omega)⟩

theorem Fr.keepsFrom {S : Nat → Prop} {B : Nat} {W W' : World} (h : Fr S W W') (hS : ∀ i, S i → i < B) : KeepsFrom B W W' :=
  ⟨h.size, fun k o hB hk _ => (h.block k (Array.getElem?_eq_some_iff.1 hk).1 (fun hs => by have := hS k hs; omega)).trans hk⟩
theorem Fr.keepT {S : Nat → Prop} {B : Nat} {W W' : World} (h : Fr S W W') (hS : ∀ i, S i → i < B) (h0 : ¬ S 0) : KeepT B W W' :=
  ⟨fun k o hB hk _ => (h.block k (Array.getElem?_eq_some_iff.1 hk).1 (fun hs => by have := hS k hs; omega)).trans hk, fun ht => ht.keep (h.block 0 ht.lt h0)⟩
/-- A way out that is no panic (the region's tactics want a post to which a panic's act is nothing). -/
def noPanic (Q : Exit → Act → World → Prop) : Exit → Act → World → Prop
  | .panic _, _, _ => False
  | .normal, a, w => Q .normal a w
  | .ret, a, w => Q .ret a w
  | .exit i, a, w => Q (.exit i) a w
  | .goto i, a, w => Q (.goto i) a w
  | .outgrown, a, w => Q .outgrown a w
theorem wpIn_noPanic {F : Fence} {n : Nat} {P : Program} {c : Code} {Q : Exit → Act → World → Prop} {a : Act} {w : World} (h : c.wpIn F n P (noPanic Q) a w) : c.wpIn F n P Q a w :=
  wpIn_mono h (fun e a w hq => by cases e <;> first | exact hq | exact hq.elim)
/-- A function's value is not nil. -/
theorem func_nil (fn : Fn) (fi ca : Array Value) (w : World) : Sem.run Tryd.prog (binOp .eql 64 (.func fn fi ca) .nilFunc) w = .ok (.bool false) w := by kernel_rfl
/-- An act under a name. -/
theorem wpIn_act {F : Fence} {n : Nat} {P : Program} {c : Code} {Q : Exit → Act → World → Prop} {a : Act} {w : World} (h : ∀ a0, a0 = a → c.wpIn F n P Q a0 w) : c.wpIn F n P Q a w := h a rfl
/-- A world under a name. -/
theorem wpIn_world {F : Fence} {n : Nat} {P : Program} {c : Code} {Q : Exit → Act → World → Prop} {a : Act} {w : World} (h : ∀ w0, w0 = w → c.wpIn F n P Q a w0) : c.wpIn F n P Q a w := h w rfl

theorem Tz.ne {W : World} {g : Nat} {S : St} (hT : Tz W) (h : Bm W g S) : g ≠ 0 := fun e => by
  subst e
  have h1 := hT 0 (by decide)
  have h2 := h.cell 0 (by decide)
  rw [h1] at h2
  injection h2 with h2
  unfold cv at h2
  injection h2 with h2 _
  cases h2

/-- Between the goings: three boxes, the iterator's box; the map; the marks. -/
structure GoS (W : World) (g : Nat) (S : St) (v : Value) (kind on oth A B : Int) (PB N : Nat) (w : World) : Prop where
  fr : Fr (fun i => i = g) W w
  xbk : w.heap[W.heap.size]? = some (.cells #[.pointer (some ⟨g, 0, none⟩), v] 40 (0, 0))
  obk : w.heap[W.heap.size + 1]? = some (.cells #[.int .i64 kind, .int .i64 on, .int .i64 oth, .int .i64 A, .int .i64 B] 45 (0, 0))
  rbk : w.heap[W.heap.size + 1 + 1]? = some (.cells #[.bool false] 4 (0, 0))
  qbk : w.heap[PB]? = some (.cells #[.pointer (some ⟨g, 0, none⟩)] 23 (0, 0))
  m : Bm w g S
  g0 : g < W.heap.size
  o1 : W.heap.size + 1 + 1 < PB
  o2 : PB < N
  hN : N ≤ w.heap.size
namespace GoS
variable {W w w' : World} {g : Nat} {S S' : St} {v : Value} {kind on oth A B : Int} {PB N : Nat}
theorem below (h : GoS W g S v kind on oth A B PB N w) (k : Below N w w') : GoS W g S v kind on oth A B PB N w' := by
  have := h.g0; have := h.o1; have := h.o2
  exact ⟨⟨k.os.trans h.fr.os, k.tape.trans h.fr.tape, k.output.trans h.fr.output, Nat.le_trans h.fr.size k.size, fun i hi hn => (k.block i (by omega)).trans (h.fr.block i hi hn)⟩,
    (k.block _ (by omega)).trans h.xbk, (k.block _ (by omega)).trans h.obk, (k.block _ (by omega)).trans h.rbk, (k.block PB h.o2).trans h.qbk, h.m.below k (by omega), h.g0, h.o1, h.o2, Nat.le_trans h.hN k.size⟩
theorem grown {row : Option Nat} {C : Nat} (h : GoS W g S v kind on oth A B PB N w) (hg : w.grownBy w' row) (hB : N ≤ C) (hr : ∀ i, row = some i → C ≤ i) : GoS W g S v kind on oth A B PB N w' :=
  h.below ⟨hg.os, hg.tape, hg.output, hg.size, fun i hi => hg.block i (Nat.lt_of_lt_of_le hi h.hN) (fun e => by have := hr i e.symm; omega)⟩
/-- A tick has been turned. -/
theorem call (h : GoS W g S v kind on oth A B PB N w) (hm : Bm w' g S') (k : Fr (fun i => i = g) w w') : GoS W g S' v kind on oth A B PB N w' := by
  have := h.g0; have := h.o1; have := h.o2
  exact ⟨h.fr.trans k (fun i hi => .inl hi), k.blk h.xbk (by omega), k.blk h.obk (by omega), k.blk h.rbk (by omega), k.blk h.qbk (by omega), hm, h.g0, h.o1, h.o2, Nat.le_trans h.hN k.size⟩
theorem ext (h : GoS W g S v kind on oth A B PB N w) (e : ∀ t, t < 262144 → S t = S' t) : GoS W g S' v kind on oth A B PB N w := ⟨h.fr, h.xbk, h.obk, h.rbk, h.qbk, h.m.ext e, h.g0, h.o1, h.o2, h.hN⟩
theorem tz (h : GoS W g S v kind on oth A B PB N w) (hT : Tz W) (hg : g ≠ 0) : Tz w := hT.keep (h.fr.block 0 hT.lt (fun e => hg e.symm))
end GoS

/-- Whether the tick stands turned, behind so many rounds of the r-th going. -/
def turnd (r : Nat) (A : Int) (pre : List Int) : Bool := decide (r = 0) && (!pre.isEmpty) && tickB A
def flp (r : Nat) (A : Int) (pre : List Int) (S : St) : St := if turnd r A pre then flip S A else S

/-- Within a going. -/
structure GoI (W : World) (g : Nat) (S : St) (v : Value) (kind on oth A B : Int) (PB N rb nb tb C r : Nat) (Ds : List Nat) (pre : List Int) (w : World) : Prop where
  st : GoS W g (flp r A pre S) v kind on oth A B PB N w
  rbx : w.heap[rb]? = some (.cells #[.int .i64 (r : Int)] 3 (0, 0))
  nbx : w.heap[nb]? = some (.cells #[.int .i64 (pre.length : Int)] 3 (0, 0))
  tbx : w.heap[tb]? = some (.cells #[.bool (turnd r A pre)] 4 (0, 0))
  ds : DsOk N Ds w
  h1 : N ≤ rb
  h2 : rb < nb
  h3 : nb < tb
  h4 : tb < C
  hD : ∀ D ∈ Ds, D < rb
namespace GoI
variable {W w w' : World} {g : Nat} {S S' : St} {v : Value} {kind on oth A B : Int} {PB N rb nb tb C r : Nat} {Ds : List Nat} {pre : List Int}
theorem own (W : World) (g : Nat) (S : St) (v : Value) (kind on oth A B : Int) (PB N rb nb tb C r : Nat) (Ds : List Nat) : OwnFrom C (GoI W g S v kind on oth A B PB N rb nb tb C r Ds) := by
  rintro pre X X' row ⟨h, hr', hn, ht, hd, h1, h2, h3, h4, hD⟩ hg hr
  exact ⟨h.grown (C := C) hg (by omega) (fun i hi => (hr i hi).1), (hg.block rb (blk_lt hr') (fun e => by have := (hr rb e.symm).1; omega)).trans hr', (hg.block nb (blk_lt hn) (fun e => by have := (hr nb e.symm).1; omega)).trans hn,
    (hg.block tb (blk_lt ht) (fun e => by have := (hr tb e.symm).1; omega)).trans ht, hd.grown (B := C) (fun D hD' => by have := hD D hD'; omega) hg (fun i hi => (hr i hi).1), h1, h2, h3, h4, hD⟩
/-- One more tick, nothing being turned. -/
theorem more (h : GoI W g S v kind on oth A B PB N rb nb tb C r Ds pre w) (hp : r ≠ 0 ∨ pre ≠ []) (x : Int) : GoI W g S v kind on oth A B PB N rb nb tb C r Ds (pre ++ [x]) (w.setCell ⟨nb, 0, none⟩ (.int .i64 ((pre.length : Int) + 1))) := by
  obtain ⟨h, hr', hn, ht, hd, h1, h2, h3, h4, hD⟩ := h
  have hf : Fr (fun i => i = nb) w (w.setCell ⟨nb, 0, none⟩ (.int .i64 ((pre.length : Int) + 1))) := (Fr.refl (fun i => i = nb) w).setCell (p := ⟨nb, 0, none⟩) (.inl rfl) _
  have hlen : ((pre ++ [x]).length : Int) = (pre.length : Int) + 1 := by rw [List.length_append, List.length_singleton]; omega
  have et : turnd r A (pre ++ [x]) = turnd r A pre := by
    unfold turnd
    rcases hp with hp | hp
    · rw [decide_eq_false hp]; rfl
    · cases pre with
      | nil => exact (hp rfl).elim
      | cons a b => rfl
  have ef : flp r A (pre ++ [x]) S = flp r A pre S := by unfold flp; rw [et]
  refine ⟨by rw [ef]; exact h.below ⟨hf.os, hf.tape, hf.output, hf.size, fun i hi => hf.block i (by have := h.hN; omega) (by omega)⟩, hf.blk hr' (by omega), by rw [hlen]; exact blk_set hn 0 _, by rw [et]; exact hf.blk ht (by omega), hd.fr hf (fun D hD' e => by have := hD D hD'; omega), h1, h2, h3, h4, hD⟩
/-- The first tick of the first going: one is turned. -/
theorem first (h : GoI W g S v kind on oth A B PB N rb nb tb C 0 Ds [] w) (x : Int) (hm : Bm w' g (flip S A)) (k : Fr (fun i => i = g) w w') :
    GoI W g S v kind on oth A B PB N rb nb tb C 0 Ds [x] ((w'.setCell ⟨tb, 0, none⟩ (.bool (tickB A))).setCell ⟨nb, 0, none⟩ (.int .i64 1)) ∧ w'.heap[nb]? = some (.cells #[.int .i64 0] 3 (0, 0)) ∧ w'.heap[tb]? = some (.cells #[.bool false] 4 (0, 0)) ∧ w'.heap[rb]? = some (.cells #[.int .i64 0] 3 (0, 0)) ∧ w'.heap[W.heap.size + 1]? = some (.cells #[.int .i64 kind, .int .i64 on, .int .i64 oth, .int .i64 A, .int .i64 B] 45 (0, 0)) := by
  obtain ⟨h, hr', hn, ht, hd, h1, h2, h3, h4, hD⟩ := h
  have := h.g0; have := h.o1; have := h.o2
  have hst := h.call hm k
  have hn' := k.blk hn (by omega)
  have ht' := k.blk ht (by omega)
  have hr'' := k.blk hr' (by omega)
  have hd' := hd.fr k (fun D hD' => by have := (hd.blk D hD').1; omega)
  have hf : Fr (fun i => i = tb ∨ i = nb) w' ((w'.setCell ⟨tb, 0, none⟩ (.bool (tickB A))).setCell ⟨nb, 0, none⟩ (.int .i64 1)) := ((Fr.refl (fun i => i = tb ∨ i = nb) w').setCell (p := ⟨tb, 0, none⟩) (.inl (.inl rfl)) _).setCell (p := ⟨nb, 0, none⟩) (.inl (.inr rfl)) _
  have et : turnd 0 A [x] = tickB A := by unfold turnd; simp
  have ef : ∀ t, t < 262144 → flip S A t = flp 0 A [x] S t := by
    unfold flp
    rw [et]
    cases hb : tickB A with
    | true => intro t _; rfl
    | false => intro t _; rw [flip_no hb]; rfl
  have hst2 := hst.below (w' := (w'.setCell ⟨tb, 0, none⟩ (.bool (tickB A))).setCell ⟨nb, 0, none⟩ (.int .i64 1)) ⟨hf.os, hf.tape, hf.output, hf.size, fun i hi => hf.block i (by have := hst.hN; omega) (by omega)⟩
  refine ⟨⟨hst2.ext ef, hf.blk hr'' (by omega), ?_, ?_, hd'.fr hf (fun D hD' e => by have := hD D hD'; omega), h1, h2, h3, h4, hD⟩, hn', ht', hr'', hst.obk⟩
  · have e1 : (w'.setCell ⟨tb, 0, none⟩ (.bool (tickB A))).heap[nb]? = some (.cells #[.int .i64 0] 3 (0, 0)) := (Below.heap_setCell w' ⟨tb, 0, none⟩ _ nb (by show nb ≠ tb; omega)).trans hn'
    exact blk_set e1 0 _
  · rw [et]
    have e1 := blk_set ht' 0 (.bool (tickB A))
    exact (Below.heap_setCell _ ⟨nb, 0, none⟩ _ tb (by show tb ≠ nb; omega)).trans e1
end GoI
/-- How a going may be left early: no tick of the list's; or as many as asked. -/
def GoX (I : List Int → World → Prop) (id r : Nat) (L : List Int) (n : Int) (c : Code) (pre : List Int) (w : World) : Prop :=
  (c = .ret ∧ ∃ pre0 x, pre = pre0 ++ [x] ∧ pre0.length < L.length ∧ L.getD pre0.length 0 ≠ x) ∨ (c = .exit id ∧ r = 0 ∧ (pre.length : Int) = n ∧ I pre w)
theorem GoX.own {C : Nat} {I : List Int → World → Prop} (hI : OwnFrom C I) (id r : Nat) (L : List Int) (n : Int) (c : Code) : OwnFrom C (GoX I id r L n c) := by
  rintro pre A A' row (h | ⟨h1, h2, h3, h4⟩) hg hr
  · exact .inl h
  · exact .inr ⟨h1, h2, h3, hI pre A A' row h4 hg hr⟩
theorem GoX.no {L pre pre0 : List Int} {x : Int} (hp : pre <+: L) (he : pre = pre0 ++ [x]) (hx : L.getD pre0.length 0 ≠ x) : False := by
  obtain ⟨t, rfl⟩ := hp
  subst he
  apply hx
  rw [List.append_assoc, List.getD_eq_getElem?_getD, List.getElem?_append_right (Nat.le_refl _), Nat.sub_self]
  rfl

/-- goes leaves. -/
theorem goes_leave {W w : World} {g : Nat} {S : St} {v : Value} {kind on oth A B : Int} {PB N : Nat} {Ds : List Nat} {tmps : Array Value}
    (h : GoS W g S v kind on oth A B PB N w) (hd : DsOk N Ds w) (ht : tmps.getD 4 undef = .pointer (some ⟨W.heap.size + 1 + 1, 0, none⟩)) :
    LeavesInM Fence.wide 8 Tryd.prog Tryd.f44 tmps (fun e W' => e = Ending.returned (.bool true) ∧ Bm W' g S ∧ Fr (fun i => i = g) W W') (Ds.map mark) .returning (w.setCell ⟨W.heap.size + 1 + 1, 0, none⟩ (.bool true)) := by
  have o0 := h.g0; have o1 := h.o1; have o2 := h.o2
  have hf : Fr (fun i => i = W.heap.size + 1 + 1) w (w.setCell ⟨W.heap.size + 1 + 1, 0, none⟩ (.bool true)) := (Fr.refl (fun i => i = W.heap.size + 1 + 1) w).setCell (p := ⟨W.heap.size + 1 + 1, 0, none⟩) (.inl rfl) _
  have hr := blk_set h.rbk 0 (.bool true)
  refine leaves_marks N Ds _ (hd.fr hf (fun D hD e => by have := (hd.blk D hD).1; omega)) (fun w' k => ?_)
  refine ⟨.bool true, results_bool rfl ht ((blk_cell ((k.block _ (by omega)).trans hr) 0).trans rfl), rfl, (h.m.fr hf (by omega)).below k (by omega), ?_⟩
  have h1 := h.fr.setCell (p := ⟨W.heap.size + 1 + 1, 0, none⟩) (.inr (by show W.heap.size ≤ W.heap.size + 1 + 1; omega)) (.bool true)
  exact h1.trans (S2 := fun i => N ≤ i) ⟨k.os, k.tape, k.output, k.size, fun i hi hn => k.block i (by omega)⟩ (fun i hi => .inr (by omega))
end Go.Proofs.YtgcelkndgjjbdaaDoor.PBm
