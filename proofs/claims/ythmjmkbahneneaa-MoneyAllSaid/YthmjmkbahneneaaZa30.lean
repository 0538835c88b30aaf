/- MonK, struck of what this claim does not name (wip/tools/pack2.py). -/
import Derived.BigQuiet
import Derived.Deep.RegionHeld3
import Derived.Test.YthmjmkbahneneaaZa27
section
namespace Go.Proofs.Ythmjmkbahneneaa.PMon
open Go.RowKit Go.Proofs.YthmjmkbahneneaaW.PrintWords Go.Proofs.YthmjmkbahneneaaW.PrintLast Go.Proofs.YthmjmkbahneneaaW.PrintMore

theorem wp_region_calm {P : Program} {id : Nat} {Q : Exit → Act → World → Prop} {a : Act} {w : World} {l : List Oper} {N : Type} (f : N → World)
    (hm : P.follows .mixedOrders = true) (hB : Region.lexB .any l.toArray = true) (h0 : ∃ n, w.drew = f n)
    (h : wpQuiet P l.toArray (fun w' => ∃ n, w' = f n) (fun a' => ∀ w', (∃ n, w' = f n) → Q .normal a' w') l a) : (Code.region id l.toArray true).wp P Q a w :=
  wp_region_quiet (C := fun w' => ∃ n, w' = f n) hm hB h0 (by simpa using h)

theorem calm_class (S : World → Prop) (w : World) (h0 : S w.drew) (hs : ∀ W w', S W → Below W.heap.size W w' → S w') :
    ∃ (N : Type) (f : N → World), (∃ n, w.drew = f n) ∧ (∀ n, S (f n)) ∧ (∀ n w', Below (f n).heap.size (f n) w' → ∃ m, w' = f m) :=
  ⟨{W // S W}, Subtype.val, ⟨⟨w.drew, h0⟩, rfl⟩, fun n => n.2, fun n w' hb => ⟨⟨w', hs _ _ n.2 hb⟩, rfl⟩⟩

theorem Calls.calm {P : Program} {g : FuncId} {args : Array Value} {N : Type} {f : N → World} {n : N} {v : Value}
    (hs : Aside0 (∀ n w', Below (f n).heap.size (f n) w' → ∃ m, w' = f m)) (h : Calls P g args (f n) fun e w' => e = .returned v ∧ Below (f n).heap.size (f n) w') :
    Calls P g args (f n) fun e w' => e = .returned v ∧ ∃ m, w' = f m :=
  h.mono fun _ _ ⟨he, hb⟩ => ⟨he, hs.out _ _ hb⟩
end Go.Proofs.Ythmjmkbahneneaa.PMon
end
