/- A range over a function: the laws of the statement and of one round, in the wide fence, for iterators that keep state of their own in cells. -/
import Derived.RangeFuncNested
import Derived.RangeFuncBound
import Derived.RangeFuncCalls
import Derived.RangeFuncLeaves
import Derived.Shelf.Abstract
import Derived.Shelf.RegionOpen
import Derived.WalkKit
import Derived.OwnWalkIn
import Derived.TacticsInMore
import Derived.LoopNIn
import Derived.LoopIn
import Derived.OrdersHeld
import Derived.Test.YtbhinnkjadfgcaaDoorBase
namespace Go.Proofs.YtbhinnkjadfgcaaDoor
open Go Go.RowKit

section
variable {P : Program} {n : Nat}
/-- One call of yield: the assignments, the body; the record is ready again behind it, or done with a jump pending. -/
theorem yield_of {m l : Nat} {r : Loop} {args : Array Value} {W : World} {On : World → Prop} {Stop : Code → World → Prop} (hl : W.heap[l]? = some (.loop r)) (hr : r.state = .ready) (hp : r.pending = none) (hps : args.size = r.params.size)
    (h : r.assign.wpIn (Fence.wide.inRound l) m P (Exit.then (fun a' W2 => W2.heap[l]? = some (.loop r) ∧
        r.body.wpIn (Fence.wide.inRound l) m P (fun e _ W3 => W3.heap[l]? = some (.loop { r with state := .busy }) ∧
          (match e with
           | .normal => On (W3.putObj l (.loop r))
           | .ret => Stop .ret (W3.putObj l (.loop { r with state := .done, pending := some .ret }))
           | .exit id => Stop (.exit id) (W3.putObj l (.loop { r with state := .done, pending := some (.exit id) }))
           | _ => False)) a' (W2.putObj l (.loop { r with state := .busy }))) (fun _ _ _ => False))
      { tmps := (r.params.zip args).foldl (fun t (p, v) => t.setIfInBounds p v) r.tmps, defers := [] } W) :
    YieldAt Fence.wide m P l args W (fun e W' => (e = .returned (.bool true) ∧ On W') ∨ (e = .returned (.bool false) ∧ ∃ c, Stop c W')) := by
  have hy := run_yield (P := P) (args := args) hl hps
  refine ⟨r.fn, _, r.assign, r.body, hy, roundIn_of_wpIn trivial (wpIn_mono h ?_)⟩
  rintro e a' W2 hq
  cases e with
  | normal =>
    obtain ⟨hl2, hb⟩ := hq
    refine ⟨_, run_beginRound hl2 hr, wpIn_mono hb ?_⟩
    rintro e a3 W3 ⟨hl3, hp3⟩
    cases e with
    | normal =>
      refine ⟨_, _, run_endRound none hl3, .inl ⟨rfl, ?_⟩⟩
      have e1 : ({ ({ r with state := .busy } : Loop) with state := if (none : Option Code).isNone then .ready else .done, pending := none } : Loop) = r := by
        cases r; simp only at hr hp; subst hr; subst hp; rfl
      rw [e1]; exact hp3
    | ret => exact ⟨_, _, run_endRound (some .ret) hl3, .inr ⟨rfl, .ret, hp3⟩⟩
    | exit id => exact ⟨_, _, run_endRound (some (.exit id)) hl3, .inr ⟨rfl, .exit id, hp3⟩⟩
    | goto t => exact hp3.elim
    | panic ch => exact hp3.elim
    | outgrown => exact hp3.elim
  | ret => exact hq.elim
  | exit id => exact hq.elim
  | goto t => exact hq.elim
  | panic ch => exact hq.elim
  | outgrown => exact hq.elim
/-- The record that a range over a function lays, at an outermost loop. -/
def recOf (fn : FuncId) (tmps : Array Value) (ps : Array Tmp) (assign body : Code) (D : Nat) : Loop := { state := .ready, pending := none, fn, tmps, params := ps, assign, body, defers := D }
def rangeStart (w : World) (r : Loop) : World := (w.alloc (.deferred (some []))).alloc (.loop r)
theorem rangeStart_below (w : World) (r : Loop) : Below w.heap.size w (rangeStart w r) := ((Below.refl _ w).alloc (Nat.le_refl _) _).alloc (by simp) _
theorem rangeStart_size (w : World) (r : Loop) : (rangeStart w r).heap.size = w.heap.size + 2 := by simp [rangeStart]
theorem rangeStart_rec (w : World) (r : Loop) : (rangeStart w r).heap[w.heap.size + 1]? = some (.loop r) := by
  have := World.alloc_heap_new (w.alloc (.deferred (some []))) (.loop r); rwa [World.size_alloc] at this
theorem rangeStart_def (w : World) (r : Loop) : (rangeStart w r).heap[w.heap.size]? = some (.deferred (some [])) :=
  (Below.heap_alloc _ _ _ (by simp)).trans (World.alloc_heap_new w _)
/-- The statement, out of the iterator's one call. -/
theorem range_of {g : Operand} {ps : Array Tmp} {assign body : Code} {Q : Exit → Act → World → Prop} {a : Act} {w : World} {gf : Nat} {lb : Array Value} (hg : a.eval g = .func (.func gf) #[] lb) (eg : ∀ args w, (callFunc gf args).run P w = .ok (.enter gf args) w)
    (Done : World → Prop) (Stop : Code → World → Prop)
    (hcall : ∀ fn, CallsIn Fence.wide (n - 1) P gf (#[.func (.yield (w.heap.size + 1)) #[] #[]] ++ lb) (rangeStart w (recOf fn a.tmps ps assign body w.heap.size)) (fun e W' => (∃ v, e = .returned v) ∧ W'.heap[w.heap.size]? = some (.deferred (some [])) ∧
      ((W'.heap[w.heap.size + 1]? = some (.loop (recOf fn a.tmps ps assign body w.heap.size)) ∧ Done W') ∨
       ∃ c, W'.heap[w.heap.size + 1]? = some (.loop { recOf fn a.tmps ps assign body w.heap.size with state := .done, pending := some c }) ∧ Stop c W')))
    (hdone : ∀ W o, Done W → W.heap[w.heap.size]? = some (.deferred (some [])) → Q .normal { a with defers := { target := .collected w.heap.size, args := #[] } :: a.defers } (W.putObj (w.heap.size + 1) o))
    (hstop : ∀ c W o, Stop c W → W.heap[w.heap.size]? = some (.deferred (some [])) → c.wpIn Fence.wide n P Q { a with defers := { target := .collected w.heap.size, args := #[] } :: a.defers } (W.putObj (w.heap.size + 1) o)) :
    (Code.rangeFunc g ps assign body).wpIn Fence.wide n P Q a w := by
  refine wpIn_rangeFunc ?_
  intro fn _
  refine ⟨w.heap.size + 1, [{ target := .collected w.heap.size, args := #[] }], rangeStart w (recOf fn a.tmps ps assign body w.heap.size), { target := .fn (.func gf) lb, args := #[.func (.yield (w.heap.size + 1)) #[] #[]] }, rangeStart w (recOf fn a.tmps ps assign body w.heap.size), gf,
    #[.func (.yield (w.heap.size + 1)) #[] #[]] ++ lb, rangeStart w (recOf fn a.tmps ps assign body w.heap.size), ?_, ?_, ?_, ?_, fun h => (by cases h), ?_⟩
  · exact run_enterLoop_outer _ _ _ _ _
  · simp only [resolve, hg]
    simp [go_sem]
  · intro f' hf'; trivial
  · simp [invoke, go_sem, eg]
  · refine (hcall fn).mono ?_
    rintro e W2 ⟨⟨v, rfl⟩, hk, (⟨hl, hd⟩ | ⟨c, hl, hs⟩)⟩
    · exact ⟨none, _, run_endLoop (P := P) hl (by simp [recOf]), hdone _ _ hd hk⟩
    · exact ⟨some c, _, run_endLoop (P := P) hl (by simp), hstop c _ _ hs hk⟩
/-- What is asked at the ordinary end alone. -/
def OnN (K : Act → World → Prop) : Exit → Act → World → Prop
  | .normal, a, w => K a w
  | _, _, _ => False
theorem wpOpIn_of {l i : Nat} {ops : Array Oper} {K K' K0 : Act → World → Prop} {Q : Exit → Act → World → Prop} {a : Act} {w : World} (hnd : ∀ (i : Nat) (o : Oper), ops[i]? = some o → ∀ c, o.op ≠ Op.defer c)
    (h : wpOp P ops (OnN K0) i K a w) (hK : ∀ a w, K a w → K' a w) : wpOpIn (Fence.wide.inRound l) n P ops Q i K' a w := by
  unfold wpOp at h
  unfold wpOpIn
  cases ho : ops[i]? with
  | none => simp only [ho] at h ⊢; exact hK _ _ h
  | some o =>
    simp only [ho] at h ⊢
    by_cases hw : Region.wanted o (yielded ops a.tmps) = true
    · rw [if_pos hw] at h ⊢
      rcases h with h | ⟨_, a0, w0, hq⟩
      · refine ⟨fun _ _ => trivial, ?_⟩
        rw [Oper.semAt_eq _ _ _ (hnd i o ho)]
        unfold Oper.wp at h
        generalize (execOp a.eval o).run P w = r at *
        cases r with
        | ok nx w' =>
          cases nx <;> simp only [Oper.upon, Oper.uponIn] at h ⊢
          case value v => exact hK _ _ h
          case skip => exact hK _ _ h
          case defer d => exact hK _ _ h
          case enter f args =>
            refine ⟨fun h => (by cases h), CallsIn.inRound l ((callsIn_wide.2 h).mono ?_)⟩
            rintro e w2 he
            cases e with
            | returned v => exact hK _ _ he
            | panicked ch => exact he.elim
            | outgrown => obtain ⟨_, _, hq⟩ := he; exact hq.elim
          case row rw_ args =>
            refine ⟨fun h => (by cases h), ?_⟩
            intro c cs _
            obtain ⟨v, w2, hr, hs⟩ := h c cs
            exact ⟨v, w2, hK _ _ hr, stepsIn_wide.2 hs⟩
        | halt x w' =>
          cases x <;> simp only [Oper.upon, Oper.uponIn] at h ⊢
          case panic v => exact h.elim
      · exact hq.elim
    · rw [if_neg hw] at h ⊢
      exact ⟨fun _ _ => trivial, hK _ _ h⟩
theorem wpAnyIn_of {l : Nat} {ops : Array Oper} {K : Act → World → Prop} {Q : Exit → Act → World → Prop} {md : Region.Mode} (hnd : ∀ (i : Nat) (o : Oper), ops[i]? = some o → ∀ c, o.op ≠ Op.defer c) (hK : ∀ a w, K a w → Q .normal a w) :
    ∀ (fuel : Nat) (listed : Array Bool) (a : Act) (w : World), wpAny P md ops (OnN K) fuel listed a w → wpAnyIn (Fence.wide.inRound l) n P md ops Q fuel listed a w
  | 0, _, _, _, h => ⟨h.1, hK _ _ h.2⟩
  | fuel + 1, _, _, _, h => ⟨fun e => hK _ _ (h.1 e), fun i hi => wpOpIn_of hnd (h.2 i hi) fun a' w' h' => wpAnyIn_of hnd hK fuel _ a' w' h'⟩
def noDefer (ops : Array Oper) : Bool := ops.all fun o => match o.op with | .defer _ => false | _ => true
theorem noDefer_spec {ops : Array Oper} (h : noDefer ops = true) : ∀ (i : Nat) (o : Oper), ops[i]? = some o → ∀ c, o.op ≠ Op.defer c := by
  intro i o ho c e
  have := Array.all_eq_true'.1 h o (Array.mem_of_getElem? ho)
  rw [e] at this
  cases this
theorem OnN.intro {Q : Exit → Act → World → Prop} {a : Act} {w : World} (h : Q .normal a w) : OnN (fun a w => Q .normal a w) .normal a w := h
/-- A region that draws, in a round: by the held law, one goal for each way. -/
theorem region_round {l id : Nat} {ops : Array Oper} {Q : Exit → Act → World → Prop} {a : Act} {w : World} {S : World → Prop} (hm : P.follows .mixedOrders = true) (hnd : noDefer ops = true) (hS : S w.drew)
    (h : S w.drew → wpAnyH P .any ops (OnN fun a w => Q .normal a w) S ops.size (Array.replicate ops.size false) a w.drew) : (Code.region id ops true).wpIn (Fence.wide.inRound l) n P Q a w :=
  wpIn_region_any hm (wpAnyIn_of (noDefer_spec hnd) (K := fun a w => Q .normal a w) (fun _ _ h => h) _ _ _ _ (wpAny_of_held _ _ _ _ (h hS)))
end
end Go.Proofs.YtbhinnkjadfgcaaDoor
