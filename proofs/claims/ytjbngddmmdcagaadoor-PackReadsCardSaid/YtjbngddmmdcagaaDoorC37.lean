/- Layer 3: the range over the parts. -/
import Derived.Test.YtjbngddmmdcagaaDoorC36
import Derived.Shelf.Abstract
namespace Go.Proofs.YtjbngddmmdcagaaDoor
open Go.RowKit Go.BigFrame
set_option linter.unusedVariables false
set_option linter.unusedSimpArgs false

/-- Left off its end. -/
def Ended (R : World → Prop) : Exit → Act → World → Prop
  | .normal, _, w => R w
  | _, _, _ => False
theorem range71 {assign body : Code} {Q : Exit → Act → World → Prop} {a : Act} {g : Operand} {w0 w : World} {po b2 b3 b off n cap : Nat} {f : Nat → Int} (hn : n ≤ cap) (hc : cap ≤ 9223372036854775807) (n1 : po ≠ b2) (n2 : b2 ≠ b3)
    (hg : a.eval g = .func (.func 48) #[] #[.pointer (some ⟨b2, 0, none⟩), .pointer (some ⟨b3, 0, none⟩)])
    (h0 : CutAt w0 w po b2 b3 b off n cap f 0 0)
    (hassign : ∀ (l : Nat) (v : Value) (W : World) (K : Act → World → Prop), K { tmps := (a.tmps.setIfInBounds 15 v).setIfInBounds 6 v, defers := [] } W →
      assign.wpIn (Fence.wide.inRound l) 7 Tryd.prog (Exit.then K (fun _ _ _ => False)) { tmps := a.tmps.setIfInBounds 15 v, defers := [] } W)
    (hbody : ∀ (l k : Nat) (W : World), 8 * (k + 1) ≤ n → CutAt w0 W po b2 b3 b off n cap f k k →
      body.wpIn (Fence.wide.inRound l) 7 Tryd.prog (Ended fun W' => CutAt w0 W' po b2 b3 b off n cap f k (k + 1) ∧ Stays W W') { tmps := (a.tmps.setIfInBounds 15 (.slice (some ⟨b, off + 8 * k, none⟩) 8 8)).setIfInBounds 6 (.slice (some ⟨b, off + 8 * k, none⟩) 8 8), defers := [] } W)
    (hdone : ∀ (D : Nat) (W : World), w0.heap.size ≤ D → CutAt w0 W po b2 b3 b off n cap f (n / 8) (n / 8) → W.heap[D]? = some (.deferred (some [])) → Q .normal { a with defers := { target := .collected D, args := #[] } :: a.defers } W) :
    (Code.rangeFunc g #[15] assign body).wpIn Fence.wide 9 Tryd.prog Q a w := by
  refine wpIn_rangeFunc ?_
  intro fn hfn
  obtain ⟨rec, hrec⟩ : ∃ rec : LoopState → Option Code → Loop, rec = fun st pe => { state := st, pending := pe, fn, tmps := a.tmps, params := #[15], assign, body, defers := w.heap.size } := ⟨_, rfl⟩
  obtain ⟨W1, hW1⟩ : ∃ W1, (w.alloc (.deferred (some []))).alloc (.loop (rec .ready none)) = W1 := ⟨_, rfl⟩
  have hsw := h0.below.size
  have hL1 : W1.heap[w.heap.size + 1]? = some (.loop (rec .ready none)) := by
    rw [← hW1]; have := World.alloc_heap_new (w.alloc (.deferred (some []))) (.loop (rec .ready none)); rwa [World.size_alloc] at this
  have hK1 : W1.heap[w.heap.size]? = some (.deferred (some [])) := by
    rw [← hW1]; exact (Below.heap_alloc _ _ _ (by simp)).trans (World.alloc_heap_new w _)
  have hI1 : CutAt w0 W1 po b2 b3 b off n cap f 0 0 := h0.grow (by rw [← hW1]; exact ((Below.refl _ w).alloc (Nat.le_refl _) _).alloc (by simp) _)
  refine ⟨w.heap.size + 1, [{ target := .collected w.heap.size, args := #[] }], W1, { target := .fn (.func 48) #[.pointer (some ⟨b2, 0, none⟩), .pointer (some ⟨b3, 0, none⟩)], args := #[.func (.yield (w.heap.size + 1)) #[] #[]] }, W1, 48,
    #[.func (.yield (w.heap.size + 1)) #[] #[]] ++ #[.pointer (some ⟨b2, 0, none⟩), .pointer (some ⟨b3, 0, none⟩)], W1, ?_, ?_, ?_, ?_, fun _ => by omega, ?_⟩
  · rw [← hW1, hrec]; exact run_enterLoop_outer _ _ _ _ _
  · simp only [resolve, hg]
    simp [go_sem]
  · intro f' hf'; simp [Target.leads] at hf'; subst hf'; trivial
  · have eg : ∀ args w, (callFunc 48 args).run Tryd.prog w = .ok (.enter 48 args) w := enters_at Tryd.func48 (by kernel_rfl) rfl
    simp [invoke, go_sem, eg]
  · have K : ∀ (k j : Nat), World → Prop := fun _ _ _ => True
    refine (iter71 8 (w.heap.size + 1) b2 b3 b off n cap n2 (by omega) hn hc
      (fun k W => CutAt w0 W po b2 b3 b off n cap f k k ∧ W.heap[w.heap.size + 1]? = some (.loop (rec .ready none)) ∧ W.heap[w.heap.size]? = some (.deferred (some [])))
      (fun k W => CutAt w0 W po b2 b3 b off n cap f k (k + 1) ∧ W.heap[w.heap.size + 1]? = some (.loop (rec .ready none)) ∧ W.heap[w.heap.size]? = some (.deferred (some [])))
      (fun k W h => h.1.parts) (fun k W h => h.1.parts) ?_ ?_ W1 ⟨hI1, hL1, hK1⟩).mono ?_
    · rintro k W hk ⟨hi, hl, hkk⟩
      have hlt : w.heap.size + 1 < W.heap.size := (Array.getElem?_eq_some_iff.1 hl).1
      have hy : (Instr.yield (w.heap.size + 1) #[.slice (some ⟨b, off + 8 * k, none⟩) 8 8]).run Tryd.prog W = .ok (.round (w.heap.size + 1) fn (a.tmps.setIfInBounds 15 (.slice (some ⟨b, off + 8 * k, none⟩) 8 8)) assign body) W := by
        refine (run_yield (P := Tryd.prog) (args := #[.slice (some ⟨b, off + 8 * k, none⟩) 8 8]) hl (by rw [hrec]; rfl)).trans ?_
        rw [hrec]
        simp
      refine ⟨fn, _, assign, body, hy, roundIn_of_wpIn hfn (hassign _ _ W _ ⟨_, run_beginRound hl (by rw [hrec]), ?_⟩)⟩
      have hl2 : (W.putObj (w.heap.size + 1) (.loop { rec .ready none with state := .busy })).heap[w.heap.size + 1]? = some (.loop { rec .ready none with state := .busy }) := World.putObj_heap_same hlt
      have hk2 : (W.putObj (w.heap.size + 1) (.loop { rec .ready none with state := .busy })).heap[w.heap.size]? = some (.deferred (some [])) := (World.putObj_heap_other (by omega)).trans hkk
      refine wpIn_mono (hbody _ k _ hk (hi.put hl rfl (by omega) _)) ?_
      rintro e a3 W3 hp
      cases e with
      | normal =>
        obtain ⟨hi3, hs3⟩ := hp
        have hl3 := hs3 _ _ hl2 rfl
        have hk3 := hs3 _ _ hk2 rfl
        have hend := run_endRound (P := Tryd.prog) none hl3
        refine ⟨_, _, hend, rfl, hi3.put hl3 rfl (by omega) _, ?_, (World.putObj_heap_other (by omega)).trans hk3⟩
        rw [World.putObj_heap_same (Array.getElem?_eq_some_iff.1 hl3).1, hrec]
        rfl
      | _ => exact hp.elim
    · rintro k W A hk ⟨hi, hl, hkk⟩ hA
      obtain ⟨A0, -, c2, -, -⟩ := hi.parts
      have hs := stays_set (v := .slice A (n - 8 * (k + 1)) (cap - 8 * (k + 1))) c2 0
      exact ⟨hi.next n1 n2 hA, hs _ _ hl rfl, hs _ _ hkk rfl⟩
    · rintro e W2 ⟨⟨v, rfl⟩, hi, hl, hk⟩
      exact ⟨none, _, by have := run_endLoop (P := Tryd.prog) hl (by rw [hrec]; simp); rw [hrec] at this; exact this, hdone _ _ hsw (hi.put hl rfl (by omega) _) ((World.putObj_heap_other (by omega)).trans hk)⟩
theorem parts50 (v : Value) (hv : ∃ a m c, v = .slice a m c) (n : Int) (w : World) : Calls Tryd.prog 36 #[v, .int .i64 n] w fun e w' =>
    e = .returned (.func (.func 48) #[] #[.pointer (some ⟨w.heap.size, 0, none⟩), .pointer (some ⟨w.heap.size + 1, 0, none⟩)]) ∧ w' = (w.alloc (.cells #[v] 22)).alloc (.cells #[.int .i64 n] 3) := by
  obtain ⟨a, m, c, rfl⟩ := hv
  have hmf : ∀ (fn : Fn) (first cap : Array Value) (w : World), (Instr.makeFunc fn first cap).run Tryd.prog w = .ok (.func fn first cap) w := fun _ _ _ _ => rfl
  go_enter Tryd.func36, Tryd.ntmps36
  go_wp2_with fail
  go_ret
  exact ⟨rfl, rfl⟩
end Go.Proofs.YtjbngddmmdcagaaDoor
