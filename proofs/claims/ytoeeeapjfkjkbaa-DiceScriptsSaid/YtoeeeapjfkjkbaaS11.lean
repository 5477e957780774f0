/- Layer 35 (dice): the law of Script's range over throws' function. -/
import Derived.Test.YtoeeeapjfkjkbaaS9
import Derived.Test.YtoeeeapjfkjkbaaS10
import Derived.Shelf.Abstract
namespace Go.Proofs.Ytoeeeapjfkjkbaa
open Go.RowKit Go.BigFrame Go.Shelf
set_option linter.unusedVariables false
set_option linter.unusedSimpArgs false

/-- Left off its end. -/
def Ended (R : World → Prop) : Exit → Act → World → Prop
  | .normal, _, w => R w
  | _, _, _ => False
theorem range24 {assign body : Code} {Q : Exit → Act → World → Prop} {a : Act} {g : Operand} {w0 w : World} {p pt po b2 b3 n : Nat} {c : Cfg} (hn : n ≤ 600) (F : Five w0 p pt po b2 b3) (seed : Int)
    (hg : a.eval g = .func (.func 24) #[] #[.pointer (some ⟨b3, 0, none⟩), .pointer (some ⟨b2, 0, none⟩)])
    (h0 : PlayAt w0 w p pt po b2 b3 c n (playTo c seed 0).1 (playTo c seed 0).2)
    (hassign : ∀ (l : Nat) (v : Int) (W : World) (K : Act → World → Prop), K { tmps := (a.tmps.setIfInBounds 42 (.int .u64 v)).setIfInBounds 12 (.int .u64 v), defers := [] } W →
      assign.wpIn (Fence.wide.inRound l) 7 Try.prog (Exit.then K (fun _ _ _ => False)) { tmps := a.tmps.setIfInBounds 42 (.int .u64 v), defers := [] } W)
    (hbody : ∀ (l k : Nat) (W : World), k < n → PlayAt w0 W p pt po b2 b3 c n (playTo c seed k).1 (rNext (playTo c seed k).2) →
      body.wpIn (Fence.wide.inRound l) 7 Try.prog (Ended fun W' => PlayAt w0 W' p pt po b2 b3 c n (playTo c seed (k + 1)).1 (playTo c seed (k + 1)).2 ∧ Stays W W') { tmps := (a.tmps.setIfInBounds 42 (.int .u64 (rThrow (playTo c seed k).2))).setIfInBounds 12 (.int .u64 (rThrow (playTo c seed k).2)), defers := [] } W)
    (hdone : ∀ (D : Nat) (W : World), w0.heap.size ≤ D → PlayAt w0 W p pt po b2 b3 c n (playTo c seed n).1 (playTo c seed n).2 → W.heap[D]? = some (.deferred (some [])) → Q .normal { a with defers := { target := .collected D, args := #[] } :: a.defers } W) :
    (Code.rangeFunc g #[42] assign body).wpIn Fence.wide 9 Try.prog Q a w := by
  refine wpIn_rangeFunc ?_
  intro fn hfn
  obtain ⟨rec, hrec⟩ : ∃ rec : LoopState → Option Code → Loop, rec = fun st pe => { state := st, pending := pe, fn, tmps := a.tmps, params := #[42], assign, body, defers := w.heap.size } := ⟨_, rfl⟩
  obtain ⟨W1, hW1⟩ : ∃ W1, (w.alloc (.deferred (some []))).alloc (.loop (rec .ready none)) = W1 := ⟨_, rfl⟩
  have hsw := h0.below.size
  have hL1 : W1.heap[w.heap.size + 1]? = some (.loop (rec .ready none)) := by
    rw [← hW1]; have := World.alloc_heap_new (w.alloc (.deferred (some []))) (.loop (rec .ready none)); rwa [World.size_alloc] at this
  have hK1 : W1.heap[w.heap.size]? = some (.deferred (some [])) := by
    rw [← hW1]; exact (Below.heap_alloc _ _ _ (by simp)).trans (World.alloc_heap_new w _)
  have hI1 : PlayAt w0 W1 p pt po b2 b3 c n (playTo c seed 0).1 (playTo c seed 0).2 := h0.grow (by rw [← hW1]; exact ((Below.refl _ w).alloc (Nat.le_refl _) _).alloc (by simp) _)
  refine ⟨w.heap.size + 1, [{ target := .collected w.heap.size, args := #[] }], W1, { target := .fn (.func 24) #[.pointer (some ⟨b3, 0, none⟩), .pointer (some ⟨b2, 0, none⟩)], args := #[.func (.yield (w.heap.size + 1)) #[] #[]] }, W1, 24,
    #[.func (.yield (w.heap.size + 1)) #[] #[]] ++ #[.pointer (some ⟨b3, 0, none⟩), .pointer (some ⟨b2, 0, none⟩)], W1, ?_, ?_, ?_, ?_, fun _ => by omega, ?_⟩
  · rw [← hW1, hrec]; exact run_enterLoop_outer _ _ _ _ _
  · simp only [resolve, hg]
    simp [go_sem]
  · intro f' hf'; simp [Target.leads] at hf'; subst hf'; trivial
  · have eg : ∀ args w, (callFunc 24 args).run Try.prog w = .ok (.enter 24 args) w := enters_of Try.func24 (by kernel_rfl) rfl
    simp [invoke, go_sem, eg]
  · refine (iter24 8 (w.heap.size + 1) p b2 b3 n (by omega) hn (fun k => (playTo c seed k).2)
      (fun k W => PlayAt w0 W p pt po b2 b3 c n (playTo c seed k).1 (playTo c seed k).2 ∧ W.heap[w.heap.size + 1]? = some (.loop (rec .ready none)) ∧ W.heap[w.heap.size]? = some (.deferred (some [])))
      (fun k W h => ⟨h.1.cb2, h.1.cb3, h.1.tab.cs, h.1.tab.free 5⟩) ?_ W1 ⟨hI1, hL1, hK1⟩).mono ?_
    · rintro k W0 hk ⟨hi0, hl0, hk0⟩
      have hst : Stays W0 (W0.setCell ⟨p, 5, none⟩ (.int .u64 (rNext (playTo c seed k).2))) := stays_state hi0.tab.cs 5
      have hi := hi0.state F (rNext (playTo c seed k).2)
      have hl := hst _ _ hl0 rfl
      have hkk := hst _ _ hk0 rfl
      generalize W0.setCell ⟨p, 5, none⟩ (.int .u64 (rNext (playTo c seed k).2)) = W at *
      have hlt : w.heap.size + 1 < W.heap.size := (Array.getElem?_eq_some_iff.1 hl).1
      have hy : (Instr.yield (w.heap.size + 1) #[.int .u64 (rThrow (playTo c seed k).2)]).run Try.prog W = .ok (.round (w.heap.size + 1) fn (a.tmps.setIfInBounds 42 (.int .u64 (rThrow (playTo c seed k).2))) assign body) W := by
        refine (run_yield (P := Try.prog) (args := #[.int .u64 (rThrow (playTo c seed k).2)]) hl (by rw [hrec]; rfl)).trans ?_
        rw [hrec]
        simp
      refine ⟨fn, _, assign, body, hy, roundIn_of_wpIn hfn (hassign _ (rThrow (playTo c seed k).2) W _ ⟨_, run_beginRound hl (by rw [hrec]), ?_⟩)⟩
      have hl2 : (W.putObj (w.heap.size + 1) (.loop { rec .ready none with state := .busy })).heap[w.heap.size + 1]? = some (.loop { rec .ready none with state := .busy }) := World.putObj_heap_same hlt
      have hk2 : (W.putObj (w.heap.size + 1) (.loop { rec .ready none with state := .busy })).heap[w.heap.size]? = some (.deferred (some [])) := (World.putObj_heap_other (by omega)).trans hkk
      refine wpIn_mono (hbody _ k _ hk (hi.put hl rfl (by omega) _)) ?_
      rintro e a3 W3 hp
      cases e with
      | normal =>
        obtain ⟨hi3, hs3⟩ := hp
        have hl3 := hs3 _ _ hl2 rfl
        have hk3 := hs3 _ _ hk2 rfl
        have hend := run_endRound (P := Try.prog) none hl3
        refine ⟨_, _, hend, rfl, hi3.put hl3 rfl (by omega) _, ?_, (World.putObj_heap_other (by omega)).trans hk3⟩
        rw [World.putObj_heap_same (Array.getElem?_eq_some_iff.1 hl3).1, hrec]
        rfl
      | _ => exact hp.elim
    · rintro e W2 ⟨⟨v, rfl⟩, hi, hl, hk⟩
      exact ⟨none, _, by have := run_endLoop (P := Try.prog) hl (by rw [hrec]; simp); rw [hrec] at this; exact this, hdone _ _ hsw (hi.put hl rfl (by omega) _) ((World.putObj_heap_other (by omega)).trans hk)⟩
end Go.Proofs.Ytoeeeapjfkjkbaa
