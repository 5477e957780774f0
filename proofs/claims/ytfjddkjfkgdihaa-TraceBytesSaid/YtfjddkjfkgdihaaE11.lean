/- Walk of trace.Read. -/
import Derived.Test.YtfjddkjfkgdihaaE10
import Derived.Laws.Pointers
import Derived.Deep.CutRange
import Derived.Outline
import Derived.RegionDies
namespace Go.Proofs.Ytfjddkjfkgdihaa
open Go.RowKit Go.BigFrame
set_option linter.unusedVariables false
set_option linter.unusedSimpArgs false

def RdTo (M : List Int) (w : World) (e : Ending) (w' : World) : Prop :=
  Below w.heap.size w w' ∧ ((∃ c n a cap, Says M c n ∧ e = .returned (.tuple #[.slice a n cap, .int .i64 0]) ∧ AccsAt w' a n cap c) ∨
    (e = .returned (.tuple #[.slice none 0 0, .int .i64 3]) ∧ ∀ c n, ¬ Says M c n))

theorem one_cell {w : World} {g : Nat} {v : Value} {t : TypeId} (h : w.heap[g]? = some (.cells #[v] t (0, 0))) : w.cell? ⟨g, 0, none⟩ = some v := by
  rw [cell_of_row _ _ _ _ _ _ h]; rfl
theorem own_keep {w w' : World} {base : Nat} {e : TypeId} {size : Nat} {v : Value} {n : Nat} {xs : List Value} (h : w.ownsRow base e size v n xs) (hk : ∀ k, base ≤ k → k < w.heap.size → w'.heap[k]? = w.heap[k]?) : w'.ownsRow base e size v n xs := by
  refine ⟨h.1, ?_⟩
  rcases h.2 with hn | ⟨g, cap, cur, hv, hb, hg, rest⟩
  · exact .inl hn
  · exact .inr ⟨g, cap, cur, hv, hb, (hk g hb (Array.getElem?_eq_some_iff.1 hg).1).trans hg, rest⟩
theorem accCells_len (c : Nat → AccD) (n : Nat) : (accCells c n).length = n * 6 := by
  induction n with
  | zero => rfl
  | succ n ih => simp [accCells, ih, AccD.cells]; omega
theorem accCells_at (c : Nat → AccD) (n i r : Nat) (hi : i < n) (hr : r < 6) : (accCells c n)[i * 6 + r]? = (c i).cells.toList[r]? := by
  induction n with
  | zero => omega
  | succ n ih =>
    unfold accCells
    by_cases e : i = n
    · subst e
      rw [List.getElem?_append_right (by rw [accCells_len]; omega), accCells_len]
      congr 1; omega
    · rw [List.getElem?_append_left (by rw [accCells_len]; omega)]
      exact ih (by omega)
theorem accs_of_own {w : World} {base : Nat} {a : Option Addr} {n cc : Nat} {c : Nat → AccD} (h : w.ownsRow base 50 6 (.slice a n cc) n (accCells c n)) : AccsAt w a n cc c := by
  have h0 := h
  obtain ⟨a', c', e, h2⟩ := own_form3 h
  cases e
  refine ⟨?_, ?_, fun i hi => ?_⟩
  · rcases h0.2 with ⟨e, h0⟩ | ⟨g, cap, cur, e, hb, hg, hnc, hcm, hcs, htake⟩
    · cases e; omega
    · cases e; exact hnc
  · rcases h0.2 with ⟨e, h0⟩ | ⟨g, cap, cur, e, hb, hg, hnc, hcm, hcs, htake⟩
    · cases e; simp [maxLen]
    · cases e; exact hcm
  · obtain ⟨g, rfl, hb, hg, hc⟩ := h2 (by omega)
    refine ⟨g, 0, rfl, hg, ?_⟩
    rw [Nat.zero_add]
    refine ⟨?_, ?_, ?_, ?_, ?_, ?_⟩
    · rw [hc _ (by omega)]; exact accCells_at c n i 0 hi (by decide)
    · rw [hc _ (by omega)]; exact accCells_at c n i 1 hi (by decide)
    · rw [hc _ (by omega)]; exact accCells_at c n i 2 hi (by decide)
    · rw [hc _ (by omega)]; exact accCells_at c n i 3 hi (by decide)
    · rw [hc _ (by omega)]; exact accCells_at c n i 4 hi (by decide)
    · rw [hc _ (by omega)]; exact accCells_at c n i 5 hi (by decide)
def ext (c : Nat → AccD) (m : Nat) (x : AccD) (i : Nat) : AccD := if i < m then c i else x
theorem ext_body (c : Nat → AccD) (m : Nat) (x : AccD) : bodyTo (ext c m x) (m + 1) = ((bodyTo c m).1 ++ x.enc (bodyTo c m).2, x.next (bodyTo c m).2) := by
  have e : bodyTo (ext c m x) m = bodyTo c m := bodyTo_congr fun i hi => by unfold ext; rw [if_pos hi]
  show ((bodyTo (ext c m x) m).1 ++ (ext c m x m).enc (bodyTo (ext c m x) m).2, (ext c m x m).next (bodyTo (ext c m x) m).2) = _
  rw [e, show ext c m x m = x from if_neg (Nat.lt_irrefl m)]
theorem ext_cells (c : Nat → AccD) (m : Nat) (x : AccD) : accCells (ext c m x) (m + 1) = accCells c m ++ x.cells.toList := by
  show accCells (ext c m x) m ++ (ext c m x m).cells.toList = _
  rw [accCells_congr (c := ext c m x) (c' := c) fun i hi => by unfold ext; rw [if_pos hi], show ext c m x m = x from if_neg (Nat.lt_irrefl m)]
theorem ext_good {c : Nat → AccD} {m : Nat} {x : AccD} (h : ∀ i, i < m → (c i).good) (hx : x.good) : ∀ i, i < m + 1 → (ext c m x i).good := fun i hi => by
  unfold ext
  by_cases h1 : i < m
  · rw [if_pos h1]; exact h i h1
  · rw [if_neg h1]; exact hx
theorem own_open {w : World} {base m : Nat} {v : Value} {xs : List Value} (h : w.ownsRow base 50 6 v m xs) : ∃ a cc, v = .slice a m cc := by
  rcases h.2 with ⟨rfl, rfl⟩ | ⟨g, cap, cur, rfl, -⟩
  · exact ⟨_, _, rfl⟩
  · exact ⟨_, _, rfl⟩
/-- What holds of Read's loop behind m accesses. -/
structure LoopAt (w wr : World) (B m : Nat) (c : Nat → AccD) (M1 r : List Int) (aa : Option Addr) (cc : Nat) (a1 : Option Addr) (n1 c1 : Nat) : Prop where
  good : ∀ i, i < m → (c i).good
  bytes : M1 = (bodyTo c m).1 ++ r
  rdr : RdrAt wr B (B + 1 + 1) r (bodyTo c m).2 a1 n1 c1
  out0 : wr.heap[B]? = some (.cells #[.slice aa m cc] 48 (0, 0))
  out1 : wr.heap[B + 1]? = some (.cells #[.int .i64 0] 76 (0, 0))
  own : wr.ownsRow (B + 1 + 1 + 1) 50 6 (.slice aa m cc) m (accCells c m)
  below : Below B w wr
theorem LoopAt.acc {w wr w5 : World} {B m : Nat} {c : Nat → AccD} {M1 s : List Int} {aa : Option Addr} {cc : Nat} {a1 : Option Addr} {n1 c1 : Nat} {x : AccD}
    (h : LoopAt w wr B m c M1 (x.enc (bodyTo c m).2 ++ s) aa cc a1 n1 c1) (hb5 : But (B + 1 + 1) (B + 1 + 1) wr.drew w5) :
    w5.heap[B]? = some (.cells #[.slice aa m cc] 48 (0, 0)) ∧ w5.heap[B + 1]? = some (.cells #[.int .i64 0] 76 (0, 0)) ∧ w5.ownsRow (B + 1 + 1 + 1) 50 6 (.slice aa m cc) m (accCells c m) ∧ Below B w w5 :=
  ⟨(hb5.block B (Array.getElem?_eq_some_iff.1 h.out0).1 (by omega) (by omega)).trans h.out0,
   (hb5.block (B + 1) (Array.getElem?_eq_some_iff.1 h.out1).1 (by omega) (by omega)).trans h.out1,
   own_keep h.own fun k hk hs => hb5.block k hs (by omega) (by omega),
   But.below h.below.drew hb5 (by omega) (by omega) (by have := h.rdr.lt; simp; omega)⟩
theorem LoopAt.next {w wr w5 w6 : World} {B m : Nat} {c : Nat → AccD} {M1 s : List Int} {aa : Option Addr} {cc : Nat} {a1 : Option Addr} {n1 c1 : Nat} {x : AccD}
    (h : LoopAt w wr B m c M1 (x.enc (bodyTo c m).2 ++ s) aa cc a1 n1 c1) (hx : x.good) (hb5 : But (B + 1 + 1) (B + 1 + 1) wr.drew w5)
    {a5 : Option Addr} {n5 c5 : Nat} (hr5 : RdrAt w5 B (B + 1 + 1) s (x.next (bodyTo c m).2) a5 n5 c5) {v' : Value}
    (ho : w6.ownsRow (B + 1 + 1 + 1) 50 6 v' (m + 1) (accCells c m ++ x.cells.toList)) (h56 : Below (B + 1 + 1 + 1) w5 w6) :
    ∃ c' aa' cc', v' = .slice aa' (m + 1) cc' ∧ LoopAt w (w6.setCell ⟨B, 0, none⟩ v') B (m + 1) c' M1 s aa' cc' a5 n5 c5 := by
  obtain ⟨q0, q1, -, hb⟩ := h.acc hb5
  obtain ⟨aa', cc', rfl⟩ := own_open ho
  have hs5 := hr5.lt
  have r0 : w6.heap[B]? = some (.cells #[.slice aa m cc] 48 (0, 0)) := (h56.block B (by omega)).trans q0
  refine ⟨ext c m x, aa', cc', rfl, ext_good h.good hx, ?_, ?_, heap_set (j := 0) _ r0, ?_, ?_, ?_⟩
  · rw [ext_body, List.append_assoc]; exact h.bytes
  · rw [ext_body]
    have h1 : RdrAt w6 B (B + 1 + 1) s (x.next (bodyTo c m).2) a5 n5 c5 := hr5.keep h56.size fun k hk => h56.block k (by omega)
    refine ⟨by simpa using h1.lt, h1.le, ?_, ?_, fun j => ?_, ?_, h1.bytes⟩
    · rw [cell_of_heap (heap_setCell_ne _ _ _ _ (by simp; omega))]; exact h1.rest
    · rw [cell_of_heap (heap_setCell_ne _ _ _ _ (by simp; omega))]; exact h1.last
    · rw [World.frozen?_setCell]; exact h1.free j
    · exact h1.reads.below ((Below.refl B w6).setCell (p := ⟨B, 0, none⟩) (Nat.le_refl _) _)
  · rw [heap_setCell_ne _ _ _ _ (by simp)]; exact (h56.block (B + 1) (by omega)).trans q1
  · rw [ext_cells]; exact own_keep ho fun k hk hs => heap_setCell_ne _ _ _ _ (by simp; omega)
  · exact (hb.trans (h56.mono (by omega))).setCell (Nat.le_refl _) _

theorem step_build {ops : Array Oper} {o : Oper} {a : Act} {w : World} {K : Act → World → Prop} {Q : Exit → Act → World → Prop} {E : Prop} (hgd : o.guard = none) (t : Nat) (ho : o.op = .buildSlice 48 1 #[(0, .tmp t)]) (x : AccD) (hs : a.tmps[t]?.getD undef = .agg x.cells)
    (h : K (a.put o.dst (.slice (some ⟨w.heap.size, 0, none⟩) 1 1)) (w.alloc (.cells x.cells 50))) :
    if Region.wanted o (yielded ops a.tmps) = true then Oper.wp Try.prog o a w K Q else E := by
  have hw : Region.wanted o (yielded ops a.tmps) = true := by simp [Region.wanted, hgd]
  rw [if_pos hw]
  obtain ⟨o1, o2, o3, o4, o5, o6⟩ := o
  subst ho
  unfold AccD.cells at hs h
  simp [Oper.wp, go_sem, hs]
  exact h

set_option maxRecDepth 100000 in
set_option maxHeartbeats 4000000 in
theorem read_all (a : Option Addr) (len cap : Nat) (M : List Int) (hl : len ≤ 20000) (w : World) (h : RdB .u8 w.heap.size w a len cap M) (hM : ∀ c ∈ M, 0 ≤ c ∧ c ≤ 255) :
    Calls Try.prog 49 #[.slice a len cap] w (RdTo M w) := by
  have hmf : ∀ (fn : Fn) (first cap : Array Value) (w : World), (Instr.makeFunc fn first cap).run Try.prog w = .ok (.func fn first cap) w := fun _ _ _ _ => rfl
  have HML := Lib.hid h.1
  have H := Lib.hid h
  have HBM := Lib.hid hM
  clear h hM
  obtain ⟨B, hB⟩ : ∃ B, B = w.heap.size := ⟨_, rfl⟩
  obtain ⟨W, hW⟩ : ∃ W, W = ((w.alloc (.cells #[.slice none 0 0] 48)).alloc (.cells #[.int .i64 0] 76)).alloc (.cells #[.slice a len cap, .int .i64 0] 103) := ⟨_, rfl⟩
  have hbw : Below B w W := by rw [hW, hB]; exact (((Below.refl _ _).alloc (Nat.le_refl _) _).alloc (by simp) _).alloc (by simp; omega) _
  have HW0 : Hid (W.heap[B]? = some (.cells #[.slice none 0 0] 48 (0, 0))) := Lib.hid (by
    rw [hW, hB, Below.heap_alloc _ _ _ (by simp; omega), Below.heap_alloc _ _ _ (by simp), heap_alloc_new])
  have HW1 : Hid (W.heap[B + 1]? = some (.cells #[.int .i64 0] 76 (0, 0))) := Lib.hid (by
    rw [hW, hB, Below.heap_alloc _ _ _ (by simp)]
    have := heap_alloc_new (w.alloc (.cells #[.slice none 0 0] 48)) (.cells #[.int .i64 0] 76)
    simpa using this)
  have hW2 : W.heap[B + 1 + 1]? = some (.cells #[.slice a len cap, .int .i64 0] 103 (0, 0)) := by
    rw [hW, hB]
    have := heap_alloc_new ((w.alloc (.cells #[.slice none 0 0] 48)).alloc (.cells #[.int .i64 0] 76)) (.cells #[.slice a len cap, .int .i64 0] 103)
    simpa using this
  have HRD : Hid (RdrAt W B (B + 1 + 1) M 0 a len cap) := Lib.hid ⟨(Array.getElem?_eq_some_iff.1 hW2).1, by omega, by rw [cell_of_row _ _ _ _ _ _ hW2]; rfl, by rw [cell_of_row _ _ _ _ _ _ hW2]; rfl, free_of hW2, by
    have := H.out; rw [← hB] at this; exact this.below hbw, HBM.out⟩
  have HBW := Lib.hid hbw
  have HWW := Lib.hid hW
  have HB := Lib.hid hB
  clear hbw hW2 hW hB
  have g1 : decide ((4194304 : Int) < (len : Int)) = false := by simp; omega
  have g2 : decide (4194304 < len) = false := by simp; omega
  go_enter_defers Try.func49, Try.ntmps49
  go_wp2_with fail
  rw [← HWW.out, ← HB.out]
  by_cases hT : ∃ n M1, n < 4194304 ∧ M = numB n ++ M1
  rotate_left
  · have HNO : Hid (∀ c n, ¬ Says M c n) := Lib.hid fun c n hs => hT ⟨n, _, by have := hs.len; have := HML.out; omega, hs.bytes⟩
    have HC : Hid (Calls Try.prog 71 #[.pointer (some ⟨B + 1 + 1, 0, none⟩), .int .u64 4194304] W (Falls (B + 1 + 1) W)) := Lib.hid (below_no B (B + 1 + 1) 4194304 (by omega) M 0 a len cap W HRD.out (fun n M1 h e => hT ⟨n, M1, h, e⟩))
    clear hT
    with_reducible refine HC.out.mono ?_
    rintro e w1 ⟨rfl, hb1⟩
    have q0 : w1.heap[B]? = some (.cells #[.slice none 0 0] 48 (0, 0)) := (hb1.block B (Array.getElem?_eq_some_iff.1 HW0.out).1 (by omega) (by omega)).trans HW0.out
    have q1 : w1.heap[B + 1]? = some (.cells #[.int .i64 0] 76 (0, 0)) := (hb1.block (B + 1) (Array.getElem?_eq_some_iff.1 HW1.out).1 (by omega) (by omega)).trans HW1.out
    have hbb : Below B w w1 := But.below HBW.out hb1 (by omega) (by omega) (by have := HRD.out.lt; omega)
    refine leaves_cons (f := 70) (args := #[.pointer (some ⟨B, 0, none⟩), .pointer (some ⟨B + 1, 0, none⟩)]) (by simp) (by simp [go_sem]) ?_
    refine (catch_panicking B (B + 1) _ _ 119 _ [] _ (by omega) (one_cell q0) (free_of q0 0) (one_cell q1) (free_of q1 0)).mono ?_
    rintro e u' w'' ⟨rfl, rfl, rfl⟩
    simp [Leaves, settle, results, Try.results49, go_sem, one_cell q0, one_cell q1]
    exact ⟨by rw [← HB.out]; exact (hbb.setCell (Nat.le_refl _) _).setCell (by simp) _, .inr ⟨rfl, HNO.out⟩⟩
  obtain ⟨n, M1, hn, rfl⟩ := hT
  have HC : Hid (Calls Try.prog 71 #[.pointer (some ⟨B + 1 + 1, 0, none⟩), .int .u64 4194304] W (BelowTo B (B + 1 + 1) n M1 0 W)) := Lib.hid (below_yes B (B + 1 + 1) n 4194304 hn (by omega) M1 0 a len cap W HRD.out)
  with_reducible refine HC.out.mono ?_
  rintro e w1 ⟨rfl, hb1, a1, n1, c1, hr1⟩
  have HQ0 : Hid (w1.heap[B]? = some (.cells #[.slice none 0 0] 48 (0, 0))) := Lib.hid ((hb1.block B (Array.getElem?_eq_some_iff.1 HW0.out).1 (by omega) (by omega)).trans HW0.out)
  have HQ1 : Hid (w1.heap[B + 1]? = some (.cells #[.int .i64 0] 76 (0, 0))) := Lib.hid ((hb1.block (B + 1) (Array.getElem?_eq_some_iff.1 HW1.out).1 (by omega) (by omega)).trans HW1.out)
  have HBB : Hid (Below B w w1) := Lib.hid (But.below HBW.out hb1 (by omega) (by omega) (by have := HRD.out.lt; omega))
  have HR1 := Lib.hid hr1
  clear hb1 hr1 HC HW0 HW1 HRD HBW HWW
  go_wp2_with fail
  go_loopw [14] (fun i wr => ∃ (m : Nat) (c : Nat → AccD) (r : List Int) (aa : Option Addr) (cc : Nat) (a1 : Option Addr) (n1 c1 : Nat), m ≤ n ∧ i = .int .i64 m ∧ Hid (LoopAt w wr B m c M1 r aa cc a1 n1 c1)) (fun i _ => n - (intOf i).toNat)
  case atStart => exact ⟨0, fun _ => ⟨0, 0, 0, 0, 0, false⟩, M1, none, 0, a1, n1, c1, Nat.zero_le _, rfl, Lib.hid ⟨fun i hi => absurd hi (by omega), rfl, HR1.out, HQ0.out, HQ1.out, World.ownsRow_nil _ _ _ _, HBB.out⟩⟩
  case round =>
    clear HR1 HQ0 HQ1 HBB
    obtain ⟨m, c, r, aa, cc, a1, n1, c1, hm, rfl, HL⟩ := hrel
    have hlb := last_bd (c := c) (n := m) (fun i hi => (HL.out.good i hi).1)
    obtain ⟨l0, l1⟩ := hlb
    have b0 := one_cell HL.out.out0
    have z0 := free_of HL.out.out0 0
    have b1 := one_cell HL.out.out1
    have z1 := free_of HL.out.out1 0
    have hm2 : m ≤ 100000 := by
      have h1 := body_len c m
      have h2 := congrArg List.length HL.out.bytes
      have h3 := HML.out
      simp only [List.length_append] at h2 h3
      omega
    by_cases hlt : m < n
    · have m0 : (m : Int) < (n : Int) := by omega
      by_cases hA : ∃ x s, AccD.good x ∧ r = x.enc (bodyTo c m).2 ++ s
      rotate_left
      · have HNO : Hid (∀ c n', ¬ Says (numB n ++ M1) c n') := Lib.hid fun c' n' hs => by
          obtain ⟨-, -, -, h4⟩ := hs.on HL.out.good (by rw [HL.out.bytes]) (Nat.le_of_lt hlt)
          obtain ⟨s, e⟩ := h4 hlt
          exact hA ⟨_, s, hs.good m (by have := (hs.on HL.out.good (by rw [HL.out.bytes]) (Nat.le_of_lt hlt)).1; omega), e⟩
        have HC := Lib.hid (access_no B (B + 1 + 1) r (bodyTo c m).2 (fun x s hx e => hA ⟨x, s, hx, e⟩) l0 l1 a1 n1 c1 wr.drew (HL.out.rdr.below ((Below.refl _ _).drew)))
        clear hA
        go_wp2_with fail
        first | go_region_dies | fail
        all_goals
          with_reducible refine HC.out.mono ?_
          rintro e w5 ⟨rfl, hb5⟩
          have q0 : w5.heap[B]? = some (.cells #[.slice aa m cc] 48 (0, 0)) := (hb5.block B (Array.getElem?_eq_some_iff.1 HL.out.out0).1 (by omega) (by omega)).trans HL.out.out0
          have q1 : w5.heap[B + 1]? = some (.cells #[.int .i64 0] 76 (0, 0)) := (hb5.block (B + 1) (Array.getElem?_eq_some_iff.1 HL.out.out1).1 (by omega) (by omega)).trans HL.out.out1
          have hbb : Below B w w5 := But.below (HL.out.below.drew) hb5 (by omega) (by omega) (by have := HL.out.rdr.lt; simp; omega)
          refine leaves_cons (f := 70) (args := #[.pointer (some ⟨B, 0, none⟩), .pointer (some ⟨B + 1, 0, none⟩)]) (by simp) (by simp [go_sem]) ?_
          refine (catch_panicking B (B + 1) _ _ 119 _ [] _ (by omega) (one_cell q0) (free_of q0 0) (one_cell q1) (free_of q1 0)).mono ?_
          rintro e u' w'' ⟨rfl, rfl, rfl⟩
          simp [Leaves, settle, results, Try.results49, go_sem, one_cell q0, one_cell q1]
          exact ⟨by rw [← HB.out]; exact (hbb.setCell (Nat.le_refl _) _).setCell (by simp) _, .inr ⟨rfl, HNO.out⟩⟩
      · obtain ⟨x, s, hx, rfl⟩ := hA
        have HA := Lib.hid (access_yes B (B + 1 + 1) x hx s (bodyTo c m).2 l0 l1 a1 n1 c1 wr.drew (HL.out.rdr.below ((Below.refl _ _).drew)))
        have HX := Lib.hid hx
        clear hx
        go_wp2_with fail
        first | go_region_dies | fail
        all_goals
          with_reducible refine HA.out.mono ?_
          rintro e w5 ⟨rfl, hb5, a5, n5, c5, hr5⟩
          obtain ⟨q0, -, ho5, -⟩ := HL.out.acc hb5
          have b5 := one_cell q0
          have z5 := free_of q0 0
          have b6 : (w5.alloc (.cells x.cells 50)).cell? ⟨B, 0, none⟩ = some (.slice aa m cc) := by rw [cell_of_heap (Below.heap_alloc _ _ _ (Array.getElem?_eq_some_iff.1 q0).1)]; exact b5
          have z6 : (w5.alloc (.cells x.cells 50)).frozen? ⟨B, 0, none⟩ = false := by rw [frozen_of_heap (Below.heap_alloc _ _ _ (Array.getElem?_eq_some_iff.1 q0).1)]; exact z5
          have HQ5 := Lib.hid q0
          have HO5 := Lib.hid ho5
          have HB5 := Lib.hid hb5
          have HR5 := Lib.hid hr5
          clear q0 hb5 hr5 ho5
          rename_i hK
          refine hK _ _ ?_
          clear hK
        · refine wpAny_ready (rs := [3]) (by kernel_rfl) (by simp) (AllReady.cons rfl (fun K hK => ?_) AllReady.nil)
          refine step_build rfl 18 rfl x rfl ?_
          refine hK _ _ ?_
          clear hK
          refine wpAny_ready (rs := [4]) (by kernel_rfl) (by simp) (AllReady.cons rfl (fun K hK => ?_) AllReady.nil)
          refine step_acc rfl (.tmp 16) (.tmp 19) rfl (B + 1 + 1 + 1) w5 (by have := HR5.out.lt; omega) (.slice aa m cc) m c x rfl HO5.out rfl hm2 ?_
          intro v' w6 ho6 hg6 hb6
          have h56 := hb6 _ _ (Below.refl (B + 1 + 1 + 1) _) (Nat.le_refl _)
          have r0 := (h56.block B (by omega)).trans HQ5.out
          have b7 := one_cell r0
          have z7 := free_of r0 0
          obtain ⟨c', aa', cc', rfl, hn⟩ := HL.out.next HX.out HB5.out HR5.out ho6 h56
          have HN := Lib.hid hn
          clear ho6 hg6 hb6 h56 r0 hn
          refine hK _ _ ?_
          clear hK
          refine wpAny_ready (rs := [5]) (by kernel_rfl) (by simp) (AllReady.cons rfl (fun K hK => ?_) AllReady.nil)
          go_simp
          refine hK _ _ ?_
          clear hK
          refine wpAny_done (by kernel_rfl) ?_ _
          go_wp2_with fail
          exact ⟨⟨m + 1, c', s, aa', cc', a5, n5, c5, hlt, by simp, HN⟩, by simp [intOf]; omega⟩
        · refine wpAny_ready (rs := [3]) (by kernel_rfl) (by simp) (AllReady.cons rfl (fun K hK => ?_) AllReady.nil)
          refine step_build rfl 18 rfl x rfl ?_
          refine hK _ _ ?_
          clear hK
          refine wpAny_ready (rs := [4]) (by kernel_rfl) (by simp) (AllReady.cons rfl (fun K hK => ?_) AllReady.nil)
          refine step_acc rfl (.tmp 16) (.tmp 19) rfl (B + 1 + 1 + 1) w5 (by have := HR5.out.lt; omega) (.slice aa m cc) m c x rfl HO5.out rfl hm2 ?_
          intro v' w6 ho6 hg6 hb6
          have h56 := hb6 _ _ (Below.refl (B + 1 + 1 + 1) _) (Nat.le_refl _)
          have r0 := (h56.block B (by omega)).trans HQ5.out
          have b7 := one_cell r0
          have z7 := free_of r0 0
          obtain ⟨c', aa', cc', rfl, hn⟩ := HL.out.next HX.out HB5.out HR5.out ho6 h56
          have HN := Lib.hid hn
          clear ho6 hg6 hb6 h56 r0 hn
          refine hK _ _ ?_
          clear hK
          refine wpAny_ready (rs := [5]) (by kernel_rfl) (by simp) (AllReady.cons rfl (fun K hK => ?_) AllReady.nil)
          go_simp
          refine hK _ _ ?_
          clear hK
          refine wpAny_done (by kernel_rfl) ?_ _
          go_wp2_with fail
          exact ⟨⟨m + 1, c', s, aa', cc', a5, n5, c5, hlt, by simp, HN⟩, by simp [intOf]; omega⟩
        · refine wpAny_ready (rs := [0, 3]) (by kernel_rfl) (by simp) (AllReady.cons rfl (fun K hK => ?_) (AllReady.cons rfl (fun K hK => ?_) AllReady.nil))
          · go_simp
            refine hK _ _ ?_
            clear hK
            refine wpAny_ready (rs := [3]) (by kernel_rfl) (by simp) (AllReady.cons rfl (fun K hK => ?_) AllReady.nil)
            refine step_build rfl 18 rfl x rfl ?_
            refine hK _ _ ?_
            clear hK
            refine wpAny_ready (rs := [4]) (by kernel_rfl) (by simp) (AllReady.cons rfl (fun K hK => ?_) AllReady.nil)
            refine step_acc rfl (.tmp 16) (.tmp 19) rfl (B + 1 + 1 + 1) w5 (by have := HR5.out.lt; omega) (.slice aa m cc) m c x rfl HO5.out rfl hm2 ?_
            intro v' w6 ho6 hg6 hb6
            have h56 := hb6 _ _ (Below.refl (B + 1 + 1 + 1) _) (Nat.le_refl _)
            have r0 := (h56.block B (by omega)).trans HQ5.out
            have b7 := one_cell r0
            have z7 := free_of r0 0
            obtain ⟨c', aa', cc', rfl, hn⟩ := HL.out.next HX.out HB5.out HR5.out ho6 h56
            have HN := Lib.hid hn
            clear ho6 hg6 hb6 h56 r0 hn
            refine hK _ _ ?_
            clear hK
            refine wpAny_ready (rs := [5]) (by kernel_rfl) (by simp) (AllReady.cons rfl (fun K hK => ?_) AllReady.nil)
            go_simp
            refine hK _ _ ?_
            clear hK
            refine wpAny_done (by kernel_rfl) ?_ _
            go_wp2_with fail
            exact ⟨⟨m + 1, c', s, aa', cc', a5, n5, c5, hlt, by simp, HN⟩, by simp [intOf]; omega⟩
          · refine step_build rfl 18 rfl x rfl ?_
            refine hK _ _ ?_
            clear hK
            refine wpAny_ready (rs := [0]) (by kernel_rfl) (by simp) (AllReady.cons rfl (fun K hK => ?_) AllReady.nil)
            go_simp
            refine hK _ _ ?_
            clear hK
            refine wpAny_ready (rs := [4]) (by kernel_rfl) (by simp) (AllReady.cons rfl (fun K hK => ?_) AllReady.nil)
            refine step_acc rfl (.tmp 16) (.tmp 19) rfl (B + 1 + 1 + 1) w5 (by have := HR5.out.lt; omega) (.slice aa m cc) m c x rfl HO5.out rfl hm2 ?_
            intro v' w6 ho6 hg6 hb6
            have h56 := hb6 _ _ (Below.refl (B + 1 + 1 + 1) _) (Nat.le_refl _)
            have r0 := (h56.block B (by omega)).trans HQ5.out
            have b7 := one_cell r0
            have z7 := free_of r0 0
            obtain ⟨c', aa', cc', rfl, hn⟩ := HL.out.next HX.out HB5.out HR5.out ho6 h56
            have HN := Lib.hid hn
            clear ho6 hg6 hb6 h56 r0 hn
            refine hK _ _ ?_
            clear hK
            refine wpAny_ready (rs := [5]) (by kernel_rfl) (by simp) (AllReady.cons rfl (fun K hK => ?_) AllReady.nil)
            go_simp
            refine hK _ _ ?_
            clear hK
            refine wpAny_done (by kernel_rfl) ?_ _
            go_wp2_with fail
            exact ⟨⟨m + 1, c', s, aa', cc', a5, n5, c5, hlt, by simp, HN⟩, by simp [intOf]; omega⟩
    · obtain rfl : m = n := by omega
      clear hlt
      have m0 : ¬ (m : Int) < (m : Int) := by omega
      have hrd := HL.out.rdr
      have x0 := hrd.rest
      have z2 := hrd.free 0
      have hlen := hrd.reads.1
      clear hrd
      by_cases hr : r = []
      · subst hr
        obtain rfl : n1 = 0 := by simpa using hlen.symm
        clear hlen
        go_wp2_with fail
        have r0 := heap_set (j := 0) (.slice aa m cc) HL.out.out0
        have r0 : ((wr.setCell ⟨B, 0, none⟩ (.slice aa m cc)).setCell ⟨B + 1, 0, none⟩ (.int .i64 0)).heap[B]? = some (.cells #[.slice aa m cc] 48 (0, 0)) := (heap_setCell_ne _ _ _ _ (by simp)).trans r0
        have r1 : ((wr.setCell ⟨B, 0, none⟩ (.slice aa m cc)).setCell ⟨B + 1, 0, none⟩ (.int .i64 0)).heap[B + 1]? = some (.cells #[.int .i64 0] 76 (0, 0)) := heap_set (j := 0) (.int .i64 0) ((heap_setCell_ne _ _ _ _ (by simp)).trans HL.out.out1)
        refine leaves_cons (f := 70) (args := #[.pointer (some ⟨B, 0, none⟩), .pointer (some ⟨B + 1, 0, none⟩)]) (by simp) (by simp [go_sem]) ?_
        refine (catch_idle ⟨B, 0, none⟩ ⟨B + 1, 0, none⟩ _).mono ?_
        rintro e u' w'' ⟨rfl, rfl, rfl⟩
        simp [Leaves, settle, results, Try.results49, go_sem, one_cell r0, one_cell r1]
        refine ⟨by rw [← HB.out]; exact (HL.out.below.setCell (Nat.le_refl _) _).setCell (by simp) _, .inl ⟨c, m, aa, cc, ⟨HL.out.good, by rw [HL.out.bytes]; simp [encAll]⟩, rfl, ?_⟩⟩
        exact accs_of_own (own_keep HL.out.own fun k hk hs => by rw [heap_setCell_ne _ _ _ _ (by simp; omega), heap_setCell_ne _ _ _ _ (by simp; omega)])
      · have hn1 : 0 < n1 := by have := List.length_pos_iff.2 hr; omega
        have l1 : ((n1 : Int) == 0) = false := by simp; omega
        have l2 : (n1 == 0) = false := by simp; omega
        have HNO : Hid (∀ c n', ¬ Says (numB m ++ M1) c n') := Lib.hid fun c' n' hs => hr ((hs.on HL.out.good (by rw [HL.out.bytes]) (Nat.le_refl _)).2.2.1 rfl)
        go_wp2_with fail
        have r0 := heap_set (j := 0) (.slice none 0 0) HL.out.out0
        have r0 : ((wr.setCell ⟨B, 0, none⟩ (.slice none 0 0)).setCell ⟨B + 1, 0, none⟩ (.int .i64 3)).heap[B]? = some (.cells #[.slice none 0 0] 48 (0, 0)) := (heap_setCell_ne _ _ _ _ (by simp)).trans r0
        have r1 : ((wr.setCell ⟨B, 0, none⟩ (.slice none 0 0)).setCell ⟨B + 1, 0, none⟩ (.int .i64 3)).heap[B + 1]? = some (.cells #[.int .i64 3] 76 (0, 0)) := heap_set (j := 0) (.int .i64 3) ((heap_setCell_ne _ _ _ _ (by simp)).trans HL.out.out1)
        refine leaves_cons (f := 70) (args := #[.pointer (some ⟨B, 0, none⟩), .pointer (some ⟨B + 1, 0, none⟩)]) (by simp) (by simp [go_sem]) ?_
        refine (catch_idle ⟨B, 0, none⟩ ⟨B + 1, 0, none⟩ _).mono ?_
        rintro e u' w'' ⟨rfl, rfl, rfl⟩
        simp [Leaves, settle, results, Try.results49, go_sem, one_cell r0, one_cell r1]
        exact ⟨by rw [← HB.out]; exact (HL.out.below.setCell (Nat.le_refl _) _).setCell (by simp) _, .inr ⟨rfl, HNO.out⟩⟩
end Go.Proofs.Ytfjddkjfkgdihaa
