/- Layer 32's first law, all cases; words that came in; the wrap that keeps the world's shape beside a condition. -/
import Derived.Test.YtjbngddmmdcagaaDoorL4
import Derived.Test.YtjbngddmmdcagaaDoorOpen
import Derived.Test.YtjbngddmmdcagaaDoorShelf
import Derived.HandedShaped
namespace Go.Proofs.YtjbngddmmdcagaaDoor
open Go.RowKit Go.BigFrame
set_option linter.unusedVariables false

theorem law3 (a : Option Addr) (n cap : Nat) (hcap : n ≤ cap) (hc : cap ≤ 9223372036854775807) (f : Nat → Nat) (hf : ∀ j, f j < 18446744073709551616) (x : Nat) (hx : x < 18446744073709551616) (mv : Int) (w : World)
    (hw : WordsAt w.heap.size w a n f) (hm : w.cell? ⟨0, 0, none⟩ = some (.int .i64 mv)) :
    Calls Tryd.prog 3 #[.slice a n cap, .int .u64 x] w fun e w' => e = .returned (.bool true) ∧ Below w.heap.size w w' := by
  by_cases h3 : 300 < n
  · exact law3_far a n cap h3 (by omega) x w
  · by_cases h8 : n % 8 ≠ 0 ∨ n = 0
    · exact law3_no a n cap hcap hc (by omega) h8 x hx w
    · exact law3_yes a n cap hcap hc (by omega) (by omega) (by omega) f hf x hx mv w hw hm (World.block_lt_of_cell? w _ hm)
theorem maxLen_cell {w : World} (h : w.ShapedOpen Tryd.prog) : ∃ m, w.cell? ⟨0, 0, none⟩ = some (.int .i64 m) :=
  Go.Proofs.cell_of_shapedOpen_int (zero := #[.int .i64 0]) (t := 3) h (of_decide_eq_true (by kernel_rfl)) (by kernel_rfl) rfl (by kernel_rfl) (by kernel_rfl) Tryd.underlying3
theorem cells23 : Tryd.prog.cellsOf 23 = 1 := by kernel_rfl
theorem kind23_0 : kindAt Tryd.prog 3 23 0 = some (some .u64) := by kernel_rfl
theorem words_of_trod {H : Type} {enc : TypeId × Value → H} {w : World} {base : Nat} {spare : Nat → Bool} {held : Bool} {fuel : Nat} {a : Option Addr} {len cap : Nat} {x : DataW H × List MemPlace}
    (h : DataW.trod enc Tryd.prog w base spare held fuel 22 (Value.cells (.slice a len cap)).toList = some x) : len ≤ cap ∧ cap ≤ 9223372036854775807 ∧ ∃ f : Nat → Nat, (∀ j, f j < 18446744073709551616) ∧ WordsAt w.heap.size w a len f := by
  obtain ⟨h1, h2, h3⟩ := open_slice_cells (P := Tryd.prog) Tryd.underlying22 (by rw [cells23]; decide) ⟨3, _, kind23_0⟩ h a len cap (by simp [Value.cells])
  unfold maxLen at h2
  refine ⟨h1, h2, ?_⟩
  rcases h3 with rfl | ⟨b, off, rfl, hb, hc⟩
  · exact ⟨fun _ => 0, fun _ => by show 0 < 18446744073709551616; decide, 0, 0, by omega, by omega⟩
  · rw [cells23] at hc
    have each : ∀ i, ∃ c : Nat, c < 18446744073709551616 ∧ (i < len → w.cell? ⟨b, off + i, none⟩ = some (.int .u64 c)) := by
      intro i
      by_cases hi : i < len
      · obtain ⟨_, c0, n0, rfl, f0⟩ := hc i hi 3 0 _ (by decide) kind23_0
        rw [Nat.mul_one, Nat.add_zero] at c0
        have hw : 0 ≤ n0 ∧ n0 < 18446744073709551616 := by
          have := f0
          simp [Lit.wf] at this
          have e1 : IntKind.u64.min = 0 := rfl
          have e2 : IntKind.u64.max = 18446744073709551615 := rfl
          omega
        exact ⟨n0.toNat, by omega, fun _ => by rw [Int.toNat_of_nonneg hw.1]; exact c0⟩
      · exact ⟨0, by decide, fun h => absurd h hi⟩
    exact ⟨fun i => Classical.choose (each i), fun j => (Classical.choose_spec (each j)).1, b, off, fun _ => ⟨rfl, hb⟩, fun j hj => (Classical.choose_spec (each j)).2 hj⟩
theorem handed_and_shaped {H : Type} {enc : TypeId × Value → H} {a : Assume} {C : Checked} {os : Os} {f : FuncId} {fn : Func} {s : ChangeSpec} {conds : List PathCond} {apart fresh handsOn again : Bool} {X : World → Array Value → Prop}
    (hX : ∀ (w w' : World) (args : Array Value), w.heap = w'.heap → X w args → X w' args)
    (own : ownKnob C.prog.godebug = none) (started : os.Started) (noInit : C.prog.inits.idxOf? f = none) (hfn : C.prog.funcs[f]? = some fn)
    (witness : ∃ (w : World) (tape : Tape) (i : Input), w.os = os ∧ (w.forCall tape i).Shaped C.prog ∧ i.vars = [] ∧ Input.okWide C.prog (w.forCall tape i) .any w.heap.size f i ∧
      ((s.pre enc C.prog fn conds apart (w.forCall tape i).memory i.args ∧ X (w.forCall tape i).memory i.args) ∧ sizedMet enc C.prog fn (OpenSpec.ofChange s) apart (w.forCall tape i).memory i.args) ∧ a.holds C.prog (lone (Frame.enter C.prog f i.args .normal) [] (w.forCall tape i)))
    (contract : ∀ (W : World) (base : Nat) (args : Array Value) (ds gs : List (DataW H)) (before : List MemPlace),
      (∀ (j : Nat) t v, fn.params[j]? = some t → args[j]? = some v → Value.okWide C.prog W .any base t v) →
      DataW.Whole enc C.prog fn.params.toList s.vars apart W args.toList ds gs before →
      W.ShapedOpen C.prog → X W args →
      Calls C.prog f args W fun e W' => ∃ v, e = .returned v ∧ s.post enc C.prog fn apart fresh handsOn again W args v W') :
    ReturnsInHanded a C os f .any (fun w args => (s.pre enc C.prog fn conds apart w args ∧ X w args) ∧ sizedMet enc C.prog fn (OpenSpec.ofChange s) apart w args) (s.post enc C.prog fn apart fresh handsOn again) := by
  refine returnsInHanded_of_calls own started noInit witness ?_
  intro w tape i _ hsh _ hok hpre hholds
  obtain ⟨_, _, _, fn', hfn', _, _, _, _, hval⟩ := hok
  have e : fn' = fn := Option.some.inj (hfn'.symm.trans hfn)
  subst e
  obtain ⟨⟨⟨ds, gs, before, hw, hc⟩, hx⟩, hz⟩ := hpre
  have hw' := DataW.Whole.of_heap (w' := w.forCall tape i) (by rfl) hw
  refine (contract (w.forCall tape i) w.heap.size i.args ds gs before hval hw' hsh (hX _ _ _ (by rfl) hx)).mono fun e W' ⟨v, he, hp⟩ => ?_
  subst he
  exact ChangeSpec.post_blind hp
end Go.Proofs.YtjbngddmmdcagaaDoor
