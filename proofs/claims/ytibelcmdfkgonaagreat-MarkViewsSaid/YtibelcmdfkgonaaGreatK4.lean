/- Layer 4: a line is written back.
   A memory as a whole: what lies in it, and what of the heap it owns.
   A region that draws its order: moves that may come late, a head whose operations are quiet in a class of worlds, and a tail in one order. No program here.
   Small words for the walks: a region that reads and then does one thing; rows of cells. No program here. -/
import Derived.Test.YtibelcmdfkgonaaGreatK3
import Derived.Test.YtibelcmdfkgonaaGreatK1
import Derived.StillTailTactics
import Derived.Deep.Quiet
import Derived.OrdersHeld
import Derived.Deep.RegionHeld3
import Derived.BigQuiet
import Derived.Deep.QuietTactic
namespace Go.Proofs.YtibelcmdfkgonaaGreat
open Go.RowKit Go.BigFrame
set_option linter.unusedVariables false
set_option linter.unusedSimpArgs false
/-- Eight words from one place on. -/
def Eight (W : World) (b o : Nat) (l : Nat → Int) : Prop := ∀ r, r < 8 → W.cell? ⟨b, o + r, none⟩ = some (.int .u64 (l r))
theorem Eight.cells {W : World} {b o : Nat} {l : Nat → Int} (h : Eight W b o l) : W.cell? ⟨b, o, none⟩ = some (.int .u64 (l 0)) ∧ W.cell? ⟨b, o + 1, none⟩ = some (.int .u64 (l 1)) ∧ W.cell? ⟨b, o + 2, none⟩ = some (.int .u64 (l 2)) ∧ W.cell? ⟨b, o + 3, none⟩ = some (.int .u64 (l 3)) ∧
    W.cell? ⟨b, o + 4, none⟩ = some (.int .u64 (l 4)) ∧ W.cell? ⟨b, o + 5, none⟩ = some (.int .u64 (l 5)) ∧ W.cell? ⟨b, o + 6, none⟩ = some (.int .u64 (l 6)) ∧ W.cell? ⟨b, o + 7, none⟩ = some (.int .u64 (l 7)) :=
  ⟨h 0 (by omega), h 1 (by omega), h 2 (by omega), h 3 (by omega), h 4 (by omega), h 5 (by omega), h 6 (by omega), h 7 (by omega)⟩
/-- Eight words put, from one place on. -/
def put8 (w : World) (b o : Nat) (l : Nat → Int) : World :=
  (((((((w.setCell ⟨b, o, none⟩ (.int .u64 (l 0))).setCell ⟨b, o + 1, none⟩ (.int .u64 (l 1))).setCell ⟨b, o + 2, none⟩ (.int .u64 (l 2))).setCell ⟨b, o + 3, none⟩ (.int .u64 (l 3))).setCell ⟨b, o + 4, none⟩ (.int .u64 (l 4))).setCell ⟨b, o + 5, none⟩ (.int .u64 (l 5))).setCell ⟨b, o + 6, none⟩ (.int .u64 (l 6))).setCell ⟨b, o + 7, none⟩ (.int .u64 (l 7))
theorem put8_heap {w : World} {b o g : Nat} {l : Nat → Int} (h : g ≠ b) : (put8 w b o l).heap[g]? = w.heap[g]? := by
  unfold put8
  rw [heap_set_other h, heap_set_other h, heap_set_other h, heap_set_other h, heap_set_other h, heap_set_other h, heap_set_other h, heap_set_other h]
/-- But for draws. -/
def Draws (w w1 : World) : Prop := w1.heap = w.heap ∧ Below w.heap.size w w1
set_option maxRecDepth 100000 in
set_option maxHeartbeats 1000000 in
theorem back78 (d kb sb wb : Nat) (n ck cs cw : Nat) (hn : n ≤ 262144) (i : Nat) (hi : i < n) (lk ls : Nat → Int) (c : Int) (c0 : 0 ≤ c) (c1 : c ≤ 1000000) (w : World)
    (h0 : w.cell? ⟨d, 0, none⟩ = some (.slice (some ⟨kb, 0, none⟩) n ck)) (h1 : w.cell? ⟨d, 1, none⟩ = some (.slice (some ⟨sb, 0, none⟩) n cs)) (h2 : w.cell? ⟨d, 2, none⟩ = some (.slice (some ⟨wb, 0, none⟩) n cw))
    (hk : Eight w kb (i * 8) lk) (hs : Eight w sb (i * 8) ls) (hw : w.cell? ⟨wb, i, none⟩ = some (.int .i64 c)) (fk : ∀ j, w.frozen? ⟨kb, j, none⟩ = false) (fw : ∀ j, w.frozen? ⟨wb, j, none⟩ = false) (e1 : kb ≠ d) (e2 : wb ≠ kb) (e3 : wb ≠ d) (e4 : sb ≠ kb) :
    Calls Tryz.prog 217 #[.pointer (some ⟨d, 0, none⟩), .int .i64 i] w fun e w' => (∃ x, e = .returned x) ∧ ∃ w1, Draws (put8 w kb (i * 8) ls) w1 ∧ w' = w1.setCell ⟨wb, i, none⟩ (.int .i64 (c + 1)) := by
  obtain ⟨k0, k1, k2, k3, k4, k5, k6, k7⟩ := hk.cells
  obtain ⟨s0, s1, s2, s3, s4, s5, s6, s7⟩ := hs.cells
  have f1 : (0 : Int) ≤ (i : Int) := by omega
  have f2 : (i : Int) < (n : Int) := by omega
  clear hk hs
  go_enter Tryz.func217, Tryz.ntmps217
  go_wp2_with fail
  go_region
  obtain ⟨W, hW⟩ : ∃ W, W = put8 w kb (i * 8) ls := ⟨_, rfl⟩
  have g2 : W.cell? ⟨d, 2, none⟩ = some (.slice (some ⟨wb, 0, none⟩) n cw) := by rw [hW]; exact (cell_of_heap (put8_heap (Ne.symm e1)) 2).trans h2
  have gw : W.cell? ⟨wb, i, none⟩ = some (.int .i64 c) := by rw [hW]; exact (cell_of_heap (put8_heap e2) i).trans hw
  have gf : W.frozen? ⟨wb, i, none⟩ = false := by rw [hW]; exact (frozen_of_heap (put8_heap e2) i).trans (fw i)
  have HW := Lib.hid hW
  simp only [put8] at hW
  rw [← hW]
  clear hW k0 k1 k2 k3 k4 k5 k6 k7 s0 s1 s2 s3 s4 s5 s6 s7 h0 h1 h2 hw fk fw
  go_wp2_with fail
  go_end0
  exact ⟨⟨_, rfl⟩, W.drew, ⟨show W.heap = _ from congrArg World.heap HW.out, by rw [← HW.out]; exact ⟨rfl, rfl, rfl, Nat.le_refl _, fun _ _ => rfl⟩⟩, rfl⟩
end Go.Proofs.YtibelcmdfkgonaaGreat

namespace Go.Proofs.YtibelcmdfkgonaaGreat
open Go.RowKit Go.BigFrame
set_option linter.unusedVariables false
set_option linter.unusedSimpArgs false
theorem enters_at {P : Program} {f : FuncId} {fn : Func} {c : Code} (hf : P.funcs[f]? = some fn) (hname : (fn.name == "runtime.NumGoroutine") = false) (hb : fn.body = some c) (args : Array Value) (w : World) :
    (callFunc f args).run P w = .ok (.enter f args) w := by
  have h1 : fn.name ≠ "runtime.NumGoroutine" := by simpa using hname
  simp [callFunc, hf, h1, hb]
/-- A function with one place turned. -/
def upd {α : Type} (f : Nat → α) (j : Nat) (v : α) : Nat → α := fun k => if k = j then v else f k
theorem upd_at {α : Type} (f : Nat → α) (j : Nat) (v : α) : upd f j v j = v := by simp [upd]
theorem upd_ne {α : Type} (f : Nat → α) {j k : Nat} (v : α) (h : k ≠ j) : upd f j v k = f k := by simp [upd, h]
theorem upd_map {α β : Type} (g : α → β) (f : Nat → α) (j : Nat) (v : α) : (fun k => g (upd f j v k)) = upd (fun k => g (f k)) j (g v) := by
  funext k; unfold upd; split <;> rfl
/-- A block whose first n cells are told, none of it frozen. -/
def RowAt (W : World) (b n : Nat) (f : Nat → Value) : Prop := ∃ c t, W.heap[b]? = some (.cells c t (0, 0)) ∧ ∀ k, k < n → c[k]? = some (f k)
theorem RowAt.lt {W : World} {b n : Nat} {f : Nat → Value} (h : RowAt W b n f) : b < W.heap.size := by
  obtain ⟨c, t, h1, _⟩ := h; exact (Array.getElem?_eq_some_iff.1 h1).1
theorem RowAt.cell {W : World} {b n : Nat} {f : Nat → Value} (h : RowAt W b n f) {k : Nat} (hk : k < n) : W.cell? ⟨b, k, none⟩ = some (f k) := by
  obtain ⟨c, t, h1, h2⟩ := h
  rw [cell_of_row _ _ k _ _ _ h1]; exact h2 k hk
theorem RowAt.free {W : World} {b n : Nat} {f : Nat → Value} (h : RowAt W b n f) (j : Nat) : W.frozen? ⟨b, j, none⟩ = false := by
  obtain ⟨c, t, h1, h2⟩ := h
  unfold World.frozen?; rw [h1]; simp
theorem RowAt.keep {W W' : World} {b n : Nat} {f : Nat → Value} (h : RowAt W b n f) (e : W'.heap[b]? = W.heap[b]?) : RowAt W' b n f := by
  obtain ⟨c, t, h1, h2⟩ := h; exact ⟨c, t, e.trans h1, h2⟩
theorem RowAt.set {W : World} {b n : Nat} {f : Nat → Value} (h : RowAt W b n f) (j : Nat) (v : Value) : RowAt (W.setCell ⟨b, j, none⟩ v) b n (upd f j v) := by
  obtain ⟨c, t, h1, h2⟩ := h
  refine ⟨_, t, heap_set v h1, fun k hk => ?_⟩
  rw [Array.getElem?_setIfInBounds]
  have hk' : k < c.size := (Array.getElem?_eq_some_iff.1 (h2 k hk)).1
  by_cases e : k = j
  · subst e; simp [upd, hk']
  · rw [if_neg (Ne.symm e), upd_ne _ _ e]; exact h2 k hk
theorem RowAt.mono {W : World} {b n m : Nat} {f : Nat → Value} (h : RowAt W b n f) (hm : m ≤ n) : RowAt W b m f := by
  obtain ⟨c, t, h1, h2⟩ := h; exact ⟨c, t, h1, fun k hk => h2 k (by omega)⟩
theorem RowAt.congr {W : World} {b n : Nat} {f g : Nat → Value} (h : RowAt W b n f) (e : ∀ k, k < n → f k = g k) : RowAt W b n g := by
  obtain ⟨c, t, h1, h2⟩ := h; exact ⟨c, t, h1, fun k hk => by rw [← e k hk]; exact h2 k hk⟩
/-- Nothing but the blocks of F has turned. -/
structure Turn (F : Nat → Prop) (w w' : World) : Prop where
  os : w'.os = w.os
  tape : w'.tape = w.tape
  output : w'.output = w.output
  size : w.heap.size ≤ w'.heap.size
  block : ∀ k, k < w.heap.size → ¬ F k → w'.heap[k]? = w.heap[k]?
theorem Turn.refl (F : Nat → Prop) (w : World) : Turn F w w := ⟨rfl, rfl, rfl, Nat.le_refl _, fun _ _ _ => rfl⟩
theorem Turn.trans {F G : Nat → Prop} {x y z : World} (h : Turn F x y) (k : Turn G y z) (hs : ∀ i, i < x.heap.size → G i → F i) : Turn F x z :=
  ⟨k.os.trans h.os, k.tape.trans h.tape, k.output.trans h.output, Nat.le_trans h.size k.size, fun i hi h1 => (k.block i (Nat.lt_of_lt_of_le hi h.size) (fun g => h1 (hs i hi g))).trans (h.block i hi h1)⟩
theorem Turn.mono {F G : Nat → Prop} {x y : World} (h : Turn F x y) (hs : ∀ i, i < x.heap.size → F i → G i) : Turn G x y :=
  ⟨h.os, h.tape, h.output, h.size, fun i hi h1 => h.block i hi fun f => h1 (hs i hi f)⟩
theorem Turn.of_below {F : Nat → Prop} {w w' : World} (h : Below w.heap.size w w') : Turn F w w' := ⟨h.os, h.tape, h.output, h.size, fun k hk _ => h.block k hk⟩
theorem Turn.of_but {F : Nat → Prop} {p : Nat} {w w' : World} (h : But p w w') (hp : p < w.heap.size → F p) : Turn F w w' :=
  ⟨h.os, h.tape, h.output, h.size, fun k hk hf => h.block k hk fun e => hf (by rw [e]; rw [e] at hk; exact hp hk)⟩
theorem Turn.alloc {F : Nat → Prop} {a w : World} (h : Turn F a w) (o : Obj) : Turn F a (w.alloc o) :=
  ⟨h.os, h.tape, h.output, Nat.le_trans h.size (by simp), fun k hk hb => by rw [Below.heap_alloc _ _ _ (Nat.lt_of_lt_of_le hk h.size)]; exact h.block k hk hb⟩
theorem Turn.set {F : Nat → Prop} {a w : World} (h : Turn F a w) {b : Nat} (hb : b < a.heap.size → F b) (j : Nat) (v : Value) : Turn F a (w.setCell ⟨b, j, none⟩ v) :=
  ⟨h.os, h.tape, h.output, by simpa [World.setCell] using h.size, fun k hk hf => by rw [heap_set_other (fun e => hf (by rw [e]; rw [e] at hk; exact hb hk))]; exact h.block k hk hf⟩
theorem Turn.below {F : Nat → Prop} {B : Nat} {w w' : World} (h : Turn F w w') (hB : B ≤ w.heap.size) (hf : ∀ k, k < B → ¬ F k) : Below B w w' :=
  ⟨h.os, h.tape, h.output, h.size, fun k hk => h.block k (by omega) (hf k hk)⟩
/-- A slice of whole numbers, its own row of cells behind it, or none. -/
def LstAt (W : World) (v : Value) (l : List Int) : Prop :=
  v = .slice none 0 0 ∧ l = [] ∨
  ∃ g cap c, v = .slice (some ⟨g, 0, none⟩) l.length cap ∧ W.heap[g]? = some (.cells c 3 (0, 0)) ∧ l.length ≤ cap ∧ cap ≤ 9223372036854775807 ∧ cap ≤ c.size ∧ 0 < c.size ∧ ∀ k, k < l.length → c[k]? = some (.int .i64 (l.getD k 0))
theorem LstAt.keep {W W' : World} {v : Value} {l : List Int} (h : LstAt W v l) (e : ∀ g, v.ownBlock = some g → W'.heap[g]? = W.heap[g]?) : LstAt W' v l := by
  rcases h with h | ⟨g, cap, c, rfl, h1, h2⟩
  · exact Or.inl h
  · exact Or.inr ⟨g, cap, c, rfl, (e g rfl).trans h1, h2⟩
theorem LstAt.lt {W : World} {v : Value} {l : List Int} (h : LstAt W v l) {g : Nat} (e : v.ownBlock = some g) : g < W.heap.size := by
  rcases h with ⟨rfl, _⟩ | ⟨g', cap, c, rfl, h1, h2⟩
  · cases e
  · cases e; exact (Array.getElem?_eq_some_iff.1 h1).1
/-- A memory: its blocks, how many lines, threads and passing words it has, what its words are, how often each line was written back, what each thread flushes, the clock, the bad ones, the last access, and a number that no line was written back more often than. -/
structure Mv where
  m : Nat
  d : Nat
  kb : Nat
  sb : Nat
  wb : Nat
  fb : Nat
  pb : Nat
  n : Nat
  nt : Nat
  np : Nat
  c0 : Nat
  c1 : Nat
  c2 : Nat
  c3 : Nat
  c4 : Nat
  kept : Nat → Int
  seen : Nat → Int
  pass : Nat → Int
  wr : Nat → Int
  fl : Nat → List Int
  fv : Nat → Value
  ck : Int
  bd : Int
  la : Acc
  wm : Int
def Mv.blocks (M : Mv) : List Nat := [M.m, M.d, M.kb, M.sb, M.wb, M.fb, M.pb]
/-- The blocks that a memory owns. -/
def Mv.own (M : Mv) (k : Nat) : Prop := k ∈ M.blocks ∨ ∃ t, t < M.nt ∧ (M.fv t).ownBlock = some k
structure MemAt (W : World) (M : Mv) : Prop where
  row : MemRow W M.m (.pointer (some ⟨M.d, 0, none⟩)) (.slice (some ⟨M.pb, 0, none⟩) M.np M.c4) M.ck M.bd M.la
  dev : W.heap[M.d]? = some (.cells #[.slice (some ⟨M.kb, 0, none⟩) M.n M.c0, .slice (some ⟨M.sb, 0, none⟩) M.n M.c1, .slice (some ⟨M.wb, 0, none⟩) M.n M.c2, .slice (some ⟨M.fb, 0, none⟩) M.nt M.c3] 143 (0, 0))
  kept : RowAt W M.kb (8 * M.n) fun k => .int .u64 (M.kept k)
  seen : RowAt W M.sb (8 * M.n) fun k => .int .u64 (M.seen k)
  wr : RowAt W M.wb M.n fun k => .int .i64 (M.wr k)
  fb : RowAt W M.fb M.nt M.fv
  pass : RowAt W M.pb M.np fun k => .int .u64 (M.pass k)
  fl : ∀ t, t < M.nt → LstAt W (M.fv t) (M.fl t)
  apart : M.blocks.Nodup
  alone : ∀ t, t < M.nt → ∀ g, (M.fv t).ownBlock = some g → g ∉ M.blocks
  lone : ∀ t, t < M.nt → ∀ t', t' < M.nt → t ≠ t' → ∀ g, (M.fv t).ownBlock = some g → (M.fv t').ownBlock ≠ some g
  n0 : 0 < M.n
  n1 : M.n ≤ 262144
  t1 : M.nt ≤ 64
  p1 : M.np ≤ 262144
  rise : ∀ t, t < M.nt → (M.fl t).Pairwise (· < ·)
  inn : ∀ t, t < M.nt → ∀ x ∈ M.fl t, 0 ≤ x ∧ x < M.n
  ck0 : 0 ≤ M.ck
  bd0 : 0 ≤ M.bd
  bd1 : M.bd ≤ M.ck
  wr0 : ∀ k, k < M.n → 0 ≤ M.wr k ∧ M.wr k ≤ M.wm
theorem MemAt.lt {W : World} {M : Mv} (h : MemAt W M) {k : Nat} (hk : M.own k) : k < W.heap.size := by
  rcases hk with hk | ⟨t, ht, e⟩
  · simp only [Mv.blocks, List.mem_cons, List.not_mem_nil, or_false] at hk
    rcases hk with rfl | rfl | rfl | rfl | rfl | rfl | rfl
    · exact (Array.getElem?_eq_some_iff.1 h.row).1
    · exact (Array.getElem?_eq_some_iff.1 h.dev).1
    · exact h.kept.lt
    · exact h.seen.lt
    · exact h.wr.lt
    · exact h.fb.lt
    · exact h.pass.lt
  · exact (h.fl t ht).lt e
theorem MemAt.keep {W W' : World} {M : Mv} (h : MemAt W M) (e : ∀ k, M.own k → W'.heap[k]? = W.heap[k]?) : MemAt W' M := by
  have o : ∀ k, k ∈ M.blocks → W'.heap[k]? = W.heap[k]? := fun k hk => e k (Or.inl hk)
  exact { h with
    row := (o _ (by simp [Mv.blocks])).trans h.row
    dev := (o _ (by simp [Mv.blocks])).trans h.dev
    kept := h.kept.keep (o _ (by simp [Mv.blocks]))
    seen := h.seen.keep (o _ (by simp [Mv.blocks]))
    wr := h.wr.keep (o _ (by simp [Mv.blocks]))
    fb := h.fb.keep (o _ (by simp [Mv.blocks]))
    pass := h.pass.keep (o _ (by simp [Mv.blocks]))
    fl := fun t ht => (h.fl t ht).keep fun g hg => e g (Or.inr ⟨t, ht, hg⟩) }
theorem MemAt.turn {W W' : World} {M : Mv} {F : Nat → Prop} (h : MemAt W M) (t : Turn F W W') (hd : ∀ k, M.own k → ¬ F k) : MemAt W' M :=
  h.keep fun k hk => t.block k (h.lt hk) (hd k hk)
theorem MemAt.below {W W' : World} {M : Mv} (h : MemAt W M) (t : Below W.heap.size W W') : MemAt W' M :=
  h.keep fun k hk => t.block k (h.lt hk)
end Go.Proofs.YtibelcmdfkgonaaGreat

namespace Go.Proofs.YtibelcmdfkgonaaGreat
set_option linter.unusedVariables false
section
variable {P : Program} {ops : Array Oper} {md : Region.Mode} {C : World → Prop}
/-- Each operation of the head that is no mere move is waited for by a later one, at the latest by the tail's first. -/
def sinkF (md : Region.Mode) (ops : Array Oper) (fl : List Nat) (n : Nat) : Bool :=
  (List.range n).all fun i => fl.contains i || (List.range (n + 1)).any fun j => decide (i < j) && Region.waitsFor md ops j i
theorem tail_waitsF {fl : List Nat} {n : Nat} {listed : Array Bool} (hs : sinkF md ops fl n = true) (hc : Region.chainB md ops n = true) (hn : n < ops.size) (inv : HeadInv md ops n listed) (hf : ∀ i ∈ fl, listed.getD i true = true) :
    ∀ (d i : Nat), n - i = d → i < n → listed.getD i true = false → ∀ t, n ≤ t → t ∉ Region.ready md ops listed := by
  intro d
  induction d using Nat.strongRecOn with
  | _ d ih =>
    intro i hd hi hun t ht hr
    obtain ⟨_, ot, hot, hall⟩ := mem_ready.1 hr
    have htlt : t < ops.size := (Array.getElem?_eq_some_iff.1 hot).1
    by_cases htn : t = n
    · subst htn
      have h1 := List.all_eq_true.1 hs i (List.mem_range.2 hi)
      simp only [Bool.or_eq_true] at h1
      rcases h1 with h1 | h1
      · have := hf i (by simpa using h1)
        rw [hun] at this; cases this
      obtain ⟨j, hj, hj2⟩ := List.any_eq_true.1 h1
      simp only [Bool.and_eq_true, decide_eq_true_eq] at hj2
      obtain ⟨oj, hoj, e, he, hb, hon⟩ := Region.waitsFor_spec hj2.2
      have hjle : j ≤ t := by have := List.mem_range.1 hj; omega
      by_cases hjt : j = t
      · subst hjt
        obtain rfl : oj = ot := Option.some.inj (hoj.symm.trans hot)
        have h2 := hall e he hb
        rw [hon, getD_both hun] at h2
        cases h2
      · cases hl : listed.getD j false with
        | true =>
          have h2 := inv.closed j oj hoj hl e he hb
          rw [hon, getD_both hun] at h2
          cases h2
        | false => exact ih (t - j) (by omega) j rfl (by omega) (getD_in (by rw [inv.size]; omega) hl) t (Nat.le_refl _) hr
    · have h1 := List.all_eq_true.1 hc t (List.mem_range.2 htlt)
      simp only [Bool.or_eq_true, decide_eq_true_eq] at h1
      rcases h1 with h1 | h1
      · omega
      · obtain ⟨o', ho', e, he, hb, hon⟩ := Region.waitsFor_spec h1
        obtain rfl : o' = ot := Option.some.inj (ho'.symm.trans hot)
        have h2 := hall e he hb
        rw [hon, getD_both (inv.tail (t - 1) (by omega) (by omega))] at h2
        cases h2
/-- The head, in whatever order; then L. -/
def headAny (P : Program) (md : Region.Mode) (ops : Array Oper) (C : World → Prop) (n : Nat) (L : Array Bool → Act → Prop) : Nat → Array Bool → Act → Prop
  | 0, listed, a => L listed a
  | f + 1, listed, a => Region.ready md ops listed ≠ [] ∧ ∀ i ∈ Region.ready md ops listed, i < n ∧ qOp P ops C i (headAny P md ops C n L f (listed.setIfInBounds i true)) a
theorem any_of_head {n g : Nat} {L : Array Bool → Act → Prop} {Q' : Exit → Act → World → Prop} (hL : ∀ listed a w, C w → L listed a → wpAny P md ops Q' g listed a w) :
    ∀ (f : Nat) (listed : Array Bool) (a : Act) (w : World), C w → headAny P md ops C n L f listed a → wpAny P md ops Q' (f + g) listed a w
  | 0, listed, a, w, hw, h => by rw [Nat.zero_add]; exact hL _ _ _ hw h
  | f + 1, listed, a, w, hw, h => by
    rw [show f + 1 + g = (f + g) + 1 by omega]
    exact ⟨fun h0 => absurd h0 h.1, fun i hi => wpOp_of_qOp hw (fun a' w' hw' h' => any_of_head hL f _ a' w' hw' h') (h.2 i hi).2⟩
theorem set_keeps {listed : Array Bool} {fl : List Nat} (hf : ∀ i ∈ fl, listed.getD i true = true) (j : Nat) : ∀ i ∈ fl, (listed.setIfInBounds j true).getD i true = true := fun i hi => by
  by_cases h : j = i
  · subst h
    rcases Nat.lt_or_ge j listed.size with h' | h'
    · simp [h']
    · simp [h']
  · rw [getD_set_ne true h]; exact hf i hi
theorem head_first {fl : List Nat} {n i : Nat} {oi : Oper} {v : Value} {L : Array Bool → Act → Prop} (hi : ops[i]? = some oi) (hsel : ∀ (j : Nat) (o : Oper) cs b, ops[j]? = some o → o.op ≠ .select cs b)
    (hs : sinkF md ops fl n = true) (hc : Region.chainB md ops n = true) (hn : n < ops.size) (hin : i < n)
    (hdone : ∀ listed a, L listed a → ∀ j ∈ Region.ready md ops listed, n ≤ j) :
    ∀ (f : Nat) (listed : Array Bool) (a : Act), HeadInv md ops n listed → (∀ i ∈ fl, listed.getD i true = true) →
      (∀ j oj, ops[j]? = some oj → j ≠ i → listed.getD j true = false → (∀ e ∈ oj.after, Region.binds md e = true → e.on ≠ i) → oi.apart ops oj = true) →
      i ∈ Region.ready md ops listed → YieldsIn P ops C oi v a →
      headAny P md ops C n L f (listed.setIfInBounds i true) (a.put oi.dst v) → headAny P md ops C n L (f + 1) listed a := by
  intro f
  induction f with
  | zero =>
    intro listed a inv hfl _ hr hy H
    have hun := (mem_ready.1 hr).1
    refine ⟨fun h => (by rw [h] at hr; cases hr), fun j hj => ?_⟩
    have hjn : j < n := by
      rcases Nat.lt_or_ge j n with h | h
      · exact h
      · exact absurd hj (tail_waitsF hs hc hn inv hfl _ i rfl hin hun j h)
    refine ⟨hjn, ?_⟩
    by_cases hji : j = i
    · subst hji; exact hy.qOp hi H
    · have := hdone _ _ H j (ready_mono hj hji)
      omega
  | succ f ih =>
    intro listed a inv hfl hfree hr hy H
    have hun := (mem_ready.1 hr).1
    refine ⟨fun h => (by rw [h] at hr; cases hr), fun j hj => ?_⟩
    have hjn : j < n := by
      rcases Nat.lt_or_ge j n with h | h
      · exact h
      · exact absurd hj (tail_waitsF hs hc hn inv hfl _ i rfl hin hun j h)
    refine ⟨hjn, ?_⟩
    by_cases hji : j = i
    · subst hji; exact hy.qOp hi H
    · have h1 := (H.2 j (ready_mono hj hji)).2
      obtain ⟨hjun, oj, hoj, hall⟩ := mem_ready.1 hj
      have hnot : ∀ e ∈ oj.after, Region.binds md e = true → e.on ≠ i := fun e he hb heq => by
        have h1 := hall e he hb
        rw [heq, getD_both hun] at h1
        cases h1
      have h2 := qOp_put hoj (hfree j oj hoj hji hjun hnot) (fun cs b => hsel i oi cs b hi) (fun cs b => hsel j oj cs b hoj) hy h1
      have hfree' : ∀ k ok, ops[k]? = some ok → k ≠ i → (listed.setIfInBounds j true).getD k true = false →
          (∀ e ∈ ok.after, Region.binds md e = true → e.on ≠ i) → oi.apart ops ok = true := fun k ok hk hki hun hno => by
        refine hfree k ok hk hki ?_ hno
        by_cases hjk : j = k
        · subst hjk; exact hjun
        · rw [getD_set_ne true hjk] at hun; exact hun
      refine qOp_mono (fun a' h3 => ih (listed.setIfInBounds j true) a' (inv.set hj hjn) (set_keeps hfl j) hfree' (ready_mono hr (Ne.symm hji)) h3.1 ?_) h2
      rw [Array.setIfInBounds_comm _ _ hji]
      exact h3.2
/-- The head's operations in their order, then the tail's. -/
def headB (md : Region.Mode) (ops : Array Oper) (g n : Nat) : List Nat → Array Bool → Bool
  | [], listed => Region.seqB md ops g n listed
  | k :: ks, listed => (Region.ready md ops listed).contains k && Region.free md ops listed k && decide (k < n) && headB md ops g n ks (listed.setIfInBounds k true)
theorem head_lex {fl : List Nat} {n g : Nat} {Lq : Act → Prop} (hsel : Region.noSelect ops = true) (hs : sinkF md ops fl n = true) (hc : Region.chainB md ops n = true) (hn : n < ops.size) :
    ∀ (ix : List Nat) (listed : Array Bool) (a : Act), HeadInv md ops n listed → (∀ i ∈ fl, listed.getD i true = true) →
    headB md ops g n ix listed = true → wpQuiet P ops C Lq (ix.filterMap fun i => ops[i]?) a →
    headAny P md ops C n (fun listed' a' => Region.seqB md ops g n listed' = true ∧ Lq a') ix.length listed a
  | [], listed, a, inv, hfl, hB, h => ⟨hB, h⟩
  | k :: ks, listed, a, inv, hfl, hB, h => by
    simp only [headB, Bool.and_eq_true, decide_eq_true_eq] at hB
    obtain ⟨⟨⟨hr, hf⟩, hkn⟩, hB'⟩ := hB
    have hr' : k ∈ Region.ready md ops listed := by simpa using hr
    obtain ⟨_, o, h0, _⟩ := mem_ready.1 hr'
    rw [List.filterMap_cons, h0] at h
    have hst : qOp P ops C k (wpQuiet P ops C Lq (ks.filterMap fun i => ops[i]?)) a := by unfold qOp; simp only [h0]; exact h
    obtain ⟨v, hy, hK⟩ := yieldsIn_of_qOp h0 hst
    exact head_first h0 (Region.noSelect_spec hsel) hs hc hn hkn (fun listed' a' hL => seqB_ready hL.1) ks.length listed a inv hfl (Region.free_spec h0 hf) hr' hy
      (head_lex hsel hs hc hn ks _ _ (inv.set hr' hkn) (set_keeps hfl k) hB' hK)
/-- The moves, each in its turn. -/
def floatB (md : Region.Mode) (ops : Array Oper) (n : Nat) (K : Array Bool → Bool) : List Nat → Array Bool → Bool
  | [], listed => K listed
  | k :: ks, listed => (Region.ready md ops listed).contains k && Region.free md ops listed k && decide (k < n) &&
    (match ops[k]? with | some o => (match o.op with | .move _ => o.guard.isNone | _ => false) | none => false) && floatB md ops n K ks (listed.setIfInBounds k true)
def floatPut (ops : Array Oper) : List Nat → Act → Act
  | [], a => a
  | k :: ks, a => floatPut ops ks (match ops[k]? with | some o => (match o.op with | .move x => a.put o.dst (a.eval x) | _ => a) | none => a)
theorem held_true {Q : Exit → Act → World → Prop} : ∀ (fuel : Nat) (listed : Array Bool) (a : Act) (w : World), wpAny P md ops Q fuel listed a w → wpAnyH P md ops Q (fun _ => True) fuel listed a w
  | 0, _, _, _, h => h
  | fuel + 1, _, _, _, h => ⟨h.1, fun i hi => wpOp_mono (fun a' w' h' => ⟨trivial, held_true fuel _ a' w' h'⟩) (h.2 i hi)⟩
theorem floats_first {Q : Exit → Act → World → Prop} {n : Nat} {K : Array Bool → Bool} (hsel : Region.noSelect ops = true) (hQ : ∀ c a d v w, Q (.panic c) (Act.put a d v) w → Q (.panic c) a w) (fuel : Nat) :
    ∀ (fl done : List Nat) (listed : Array Bool) (a : Act) (w : World), HeadInv md ops n listed → (∀ i ∈ done, listed.getD i true = true) → floatB md ops n K fl listed = true →
      (∀ listed', HeadInv md ops n listed' → (∀ i ∈ done ++ fl, listed'.getD i true = true) → K listed' = true → wpAny P md ops Q fuel listed' (floatPut ops fl a) w) →
      wpAnyH P md ops Q (fun _ => True) (fl.length + fuel) listed a w
  | [], done, listed, a, w, inv, hd, hB, h => by
    rw [List.length_nil, Nat.zero_add]
    exact held_true _ _ _ _ (h listed inv (by simpa using hd) hB)
  | k :: ks, done, listed, a, w, inv, hd, hB, h => by
    simp only [floatB, Bool.and_eq_true, decide_eq_true_eq] at hB
    obtain ⟨⟨⟨⟨hr, hf⟩, hkn⟩, hmv⟩, hB'⟩ := hB
    have hr' : k ∈ Region.ready md ops listed := by simpa using hr
    obtain ⟨hun, o, h0, _⟩ := mem_ready.1 hr'
    rw [h0] at hmv
    simp only [floatPut, h0] at h
    cases hop : o.op with
    | move x =>
      simp only [hop] at hmv h
      have hg : o.guard = none := by simpa using hmv
      have hy : YieldsIf P ops (fun _ => True) o (a.eval x) a := .inl ⟨by simp [Region.wanted, hg], fun w _ => by simp [execOp, hop, Sem.run_pure]⟩
      rw [show (k :: ks).length + fuel = (ks.length + fuel) + 1 by simp; omega]
      refine wpAnyH_take h0 hsel hf hr (fun c a w => hQ c a _ _ w) hy trivial ?_
      refine floats_first hsel hQ fuel ks (done ++ [k]) _ _ w (inv.set hr' hkn) (fun i hi => ?_) hB' (fun listed' i1 i2 i3 => h listed' i1 (by simpa using i2) i3)
      rw [List.mem_append] at hi
      rcases hi with hi | hi
      · exact set_keeps hd k i hi
      · obtain rfl : i = k := by simpa using hi
        rcases Nat.lt_or_ge i listed.size with h' | h'
        · simp [h']
        · simp [h']
    | _ => simp [hop] at hmv
def qtB (md : Region.Mode) (ops : Array Oper) (fl ix : List Nat) (n : Nat) : Bool :=
  Region.noSelect ops && decide (n < ops.size) && decide (fl.length + ix.length = n) && sinkF md ops fl n && Region.chainB md ops n &&
    floatB md ops n (fun listed => headB md ops (ops.size - n) n ix listed) fl (Array.replicate ops.size false)
end
/-- A REGION THAT DRAWS ITS ORDER: moves (fl) that may come at any time, a head (ix) quiet in a class of worlds, a tail from n on, in its one order. -/
theorem any_qt {P : Program} {Q : Exit → Act → World → Prop} {a : Act} {w : World} {l : List Oper} (C : World → Prop) (fl ix : List Nat) (n : Nat)
    (hB : qtB .any l.toArray fl ix n = true) (hQ : ∀ c a d v w, Q (.panic c) (Act.put a d v) w → Q (.panic c) a w) (hC : C w)
    (h : wpQuiet P l.toArray C (fun a' => ∀ w', C w' → wpList P l.toArray Q (l.drop n) a' w') (ix.filterMap fun i => l[i]?) (floatPut l.toArray fl a)) : wpAny P .any l.toArray Q l.toArray.size (Array.replicate l.toArray.size false) a w := by
  simp only [qtB, Bool.and_eq_true, decide_eq_true_eq] at hB
  obtain ⟨⟨⟨⟨⟨hsel, hn⟩, hlen⟩, hs⟩, hc⟩, hfl⟩ := hB
  have hn' : n < l.length := by simpa using hn
  have hdl : (l.drop n).length = l.toArray.size - n := by simp
  have inv0 : HeadInv .any l.toArray n (Array.replicate l.toArray.size false) :=
    ⟨by simp, fun j oj _ hl => (by rw [getD_replicate_false] at hl; cases hl), fun t _ ht => getD_in (by simpa using ht) (getD_replicate_false _ _)⟩
  have hsz : l.toArray.size = fl.length + (ix.length + (l.toArray.size - n)) := by omega
  have key := floats_first (P := P) (Q := Q) hsel hQ (ix.length + (l.toArray.size - n)) fl [] _ a w inv0 (fun i hi => by cases hi) hfl (fun listed' i1 i2 i3 => by
    have H := head_lex (P := P) (C := C) (md := .any) (g := l.toArray.size - n) hsel hs hc hn ix listed' (floatPut l.toArray fl a) i1 (by simpa using i2) i3 (by simpa using h)
    exact any_of_head (Q' := Q) (g := l.toArray.size - n) (fun listed a' w' hw' hL => by
      have := wpAny_of_seq (md := .any) (Q' := Q) (l.drop n) n listed a' w' (fun j => by simp [List.getElem?_drop]) (by rw [hdl]; exact hL.1) (hL.2 w' hw')
      rwa [hdl] at this) _ _ _ _ hC H)
  rw [← hsz] at key
  exact wpAny_of_held _ _ _ _ key
theorem region_qt {P : Program} {id : Nat} {Q : Exit → Act → World → Prop} {a : Act} {w : World} {l : List Oper} (C : World → Prop) (fl ix : List Nat) (n : Nat) (hm : P.follows .mixedOrders = true)
    (hB : qtB .any l.toArray fl ix n = true) (hQ : ∀ c a d v w, Q (.panic c) (Act.put a d v) w → Q (.panic c) a w) (hC : C w.drew)
    (h : wpQuiet P l.toArray C (fun a' => ∀ w', C w' → wpList P l.toArray Q (l.drop n) a' w') (ix.filterMap fun i => l[i]?) (floatPut l.toArray fl a)) : (Code.region id l.toArray true).wp P Q a w :=
  wp_region_any hm (any_qt C fl ix n hB hQ hC h)
def movesB (ops : Array Oper) (fl : List Nat) : Bool := fl.all fun k => match ops[k]? with | some o => (match o.op with | .move _ => o.guard.isNone | _ => false) | none => false
theorem quiet_float {P : Program} {ops : Array Oper} {K : Act → Prop} : ∀ (fl : List Nat) (a : Act), movesB ops fl = true → wpQuiet P ops (fun _ => True) K (fl.filterMap fun i => ops[i]?) a → K (floatPut ops fl a)
  | [], a, _, h => h
  | k :: ks, a, hm, h => by
    simp only [movesB, List.all_cons, Bool.and_eq_true] at hm
    obtain ⟨hk, hks⟩ := hm
    cases h0 : ops[k]? with
    | none => simp [h0] at hk
    | some o =>
      simp only [h0] at hk
      rw [List.filterMap_cons, h0] at h
      simp only [floatPut, h0]
      cases hop : o.op with
      | move x =>
        simp only [hop] at hk
        have hg : o.guard = none := by simpa using hk
        have hw : Region.wanted o (yielded ops a.tmps) = true := by simp [Region.wanted, hg]
        have h' : (if Region.wanted o (yielded ops a.tmps) = true then o.quiet P a (fun _ => True) (wpQuiet P ops (fun _ => True) K (ks.filterMap fun i => ops[i]?)) else wpQuiet P ops (fun _ => True) K (ks.filterMap fun i => ops[i]?) (a.put o.dst undef)) := h
        rw [if_pos hw] at h'
        obtain ⟨v, h1, h2⟩ := h'
        have h3 := h1 default trivial
        have hr : (execOp a.eval o).run P default = .ok (.value (a.eval x)) default := by simp [execOp, hop, Sem.run_pure]
        unfold Oper.quietAt at h3
        rw [hr] at h3
        obtain ⟨_, he⟩ : (default : World) = default ∧ a.eval x = v := h3
        show K (floatPut ops ks (a.put o.dst (a.eval x)))
        rw [he]
        exact quiet_float ks _ (by simpa [movesB] using hks) h2
      | _ => simp [hop] at hk
theorem any_qf {P : Program} {Q : Exit → Act → World → Prop} {a : Act} {w : World} {l : List Oper} (C : World → Prop) (fl ix : List Nat) (n : Nat)
    (hB : (movesB l.toArray fl && qtB .any l.toArray fl ix n) = true) (hQ : ∀ c a d v w, Q (.panic c) (Act.put a d v) w → Q (.panic c) a w) (hC : C w)
    (h : wpQuiet P l.toArray (fun _ => True) (fun a' => wpQuiet P l.toArray C (fun a' => ∀ w', C w' → wpList P l.toArray Q (l.drop n) a' w') (ix.filterMap fun i => l[i]?) a') (fl.filterMap fun i => l[i]?) a) : wpAny P .any l.toArray Q l.toArray.size (Array.replicate l.toArray.size false) a w := by
  rw [Bool.and_eq_true] at hB
  refine any_qt C fl ix n hB.2 hQ hC ?_
  exact quiet_float (K := fun a' => wpQuiet P l.toArray C (fun a' => ∀ w', C w' → wpList P l.toArray Q (l.drop n) a' w') (ix.filterMap fun i => l[i]?) a') fl a hB.1 (by simpa using h)
theorem pick_range {α : Type} (l : List α) : ∀ (m k : Nat), (List.range' k m).filterMap (fun i => l[i]?) = (l.drop k).take m
  | 0, k => by simp
  | m + 1, k => by
    rw [List.range'_succ, List.filterMap_cons]
    by_cases h : k < l.length
    · rw [List.getElem?_eq_getElem h, List.drop_eq_getElem_cons h, List.take_succ_cons]
      simp only
      rw [pick_range l m (k + 1)]
    · rw [List.getElem?_eq_none (by omega)]
      simp only
      rw [pick_range l m (k + 1), List.drop_eq_nil_of_le (by omega), List.drop_eq_nil_of_le (by omega)]
      simp
/-- THE REGION, its first k operations moves that may come late, the next m the head; the head's class: the world behind some draws. -/
theorem region_qd {P : Program} {id : Nat} {Q : Exit → Act → World → Prop} {a : Act} {w : World} {l : List Oper} (k m : Nat) (hm : P.follows .mixedOrders = true)
    (hB : (movesB l.toArray (List.range' 0 k) && qtB .any l.toArray (List.range' 0 k) (List.range' k m) (k + m)) = true) (hQ : ∀ c a d v w, Q (.panic c) (Act.put a d v) w → Q (.panic c) a w)
    (h : wpQuiet P l.toArray (fun _ => True) (fun a' => wpQuiet P l.toArray (fun w' => ∃ n, w' = w.drewN n) (fun a' => ∀ w', (∃ n, w' = w.drewN n) → wpList P l.toArray Q (l.drop (k + m)) a' w') ((l.drop k).take m) a') (l.take k) a) : (Code.region id l.toArray true).wp P Q a w :=
  wp_region_any hm (any_qf (fun w' => ∃ n, w' = w.drewN n) _ _ (k + m) hB hQ ⟨1, rfl⟩ (by rw [pick_range, pick_range]; exact h))
/-- The same, the head's class: the worlds f x. -/
theorem region_qo {P : Program} {id : Nat} {Q : Exit → Act → World → Prop} {a : Act} {w : World} {l : List Oper} {T : Type} (f : T → World) (k m : Nat) (hm : P.follows .mixedOrders = true)
    (hB : (movesB l.toArray (List.range' 0 k) && qtB .any l.toArray (List.range' 0 k) (List.range' k m) (k + m)) = true) (hQ : ∀ c a d v w, Q (.panic c) (Act.put a d v) w → Q (.panic c) a w) (x0 : T) (h0 : f x0 = { w with drawn := w.drawn + 1 })
    (h : wpQuiet P l.toArray (fun _ => True) (fun a' => wpQuiet P l.toArray (fun w' => ∃ x, w' = f x) (fun a' => ∀ w', (∃ x, w' = f x) → wpList P l.toArray Q (l.drop (k + m)) a' w') ((l.drop k).take m) a') (l.take k) a) : (Code.region id l.toArray true).wp P Q a w :=
  wp_region_any hm (any_qf (fun w' => ∃ x, w' = f x) _ _ (k + m) hB hQ ⟨x0, h0.symm⟩ (by rw [pick_range, pick_range]; exact h))
/-- As region_qd, region_qo, for the bare orders (a region in a round: region_in). -/
theorem any_qd {P : Program} {Q : Exit → Act → World → Prop} {a : Act} {w : World} {l : List Oper} (k m : Nat)
    (hB : (movesB l.toArray (List.range' 0 k) && qtB .any l.toArray (List.range' 0 k) (List.range' k m) (k + m)) = true) (hQ : ∀ c a d v w, Q (.panic c) (Act.put a d v) w → Q (.panic c) a w)
    (h : wpQuiet P l.toArray (fun _ => True) (fun a' => wpQuiet P l.toArray (fun w' => ∃ n, w' = w.drewN n) (fun a' => ∀ w', (∃ n, w' = w.drewN n) → wpList P l.toArray Q (l.drop (k + m)) a' w') ((l.drop k).take m) a') (l.take k) a) : wpAny P .any l.toArray Q l.toArray.size (Array.replicate l.toArray.size false) a w :=
  any_qf (fun w' => ∃ n, w' = w.drewN n) _ _ (k + m) hB hQ ⟨0, rfl⟩ (by rw [pick_range, pick_range]; exact h)
theorem any_qo {P : Program} {Q : Exit → Act → World → Prop} {a : Act} {w : World} {l : List Oper} {T : Type} (f : T → World) (k m : Nat)
    (hB : (movesB l.toArray (List.range' 0 k) && qtB .any l.toArray (List.range' 0 k) (List.range' k m) (k + m)) = true) (hQ : ∀ c a d v w, Q (.panic c) (Act.put a d v) w → Q (.panic c) a w) (x0 : T) (h0 : f x0 = w)
    (h : wpQuiet P l.toArray (fun _ => True) (fun a' => wpQuiet P l.toArray (fun w' => ∃ x, w' = f x) (fun a' => ∀ w', (∃ x, w' = f x) → wpList P l.toArray Q (l.drop (k + m)) a' w') ((l.drop k).take m) a') (l.take k) a) : wpAny P .any l.toArray Q l.toArray.size (Array.replicate l.toArray.size false) a w :=
  any_qf (fun w' => ∃ x, w' = f x) _ _ (k + m) hB hQ ⟨x0, h0.symm⟩ (by rw [pick_range, pick_range]; exact h)
end Go.Proofs.YtibelcmdfkgonaaGreat

namespace Go.Proofs.YtibelcmdfkgonaaGreat
open Go.RowKit Go.BigFrame
/-- A region that draws: n operations that read, and a tail in one order. -/
theorem region_tail {P : Program} {id : Nat} {Q : Exit → Act → World → Prop} {a : Act} {w : World} {l : List Oper} (n : Nat) (hm : P.follows .mixedOrders = true) (hB : Region.lexTailB .any l.toArray n = true)
    (h : wpStill P l.toArray w.drew (fun a' => wpList P l.toArray Q (l.drop n) a' w.drew) (l.take n) a) : (Code.region id l.toArray true).wp P Q a w :=
  wp_region_still_tail n hm hB h
/-- A block's cells, each by its place. -/
theorem cell_row {W : World} {b : Nat} {c : Array Value} {t : TypeId} {f : Nat × Nat} (h : W.heap[b]? = some (.cells c t f)) (k : Nat) (v : Value) (hv : c.toList[k]? = some v) : W.cell? ⟨b, k, none⟩ = some v := by
  rw [cell_of_row _ _ k _ _ _ h]; simpa using hv
theorem free_row {W : World} {b : Nat} {c : Array Value} {t : TypeId} (h : W.heap[b]? = some (.cells c t (0, 0))) (j : Nat) : W.frozen? ⟨b, j, none⟩ = false := by
  unfold World.frozen?; rw [h]; simp
theorem lt_row {W : World} {b : Nat} {o : Obj} (h : W.heap[b]? = some o) : b < W.heap.size := (Array.getElem?_eq_some_iff.1 h).1
theorem row_4 {W : World} {b : Nat} {k0 k1 k2 k3 : Value} {t : TypeId} (h : W.heap[b]? = some (.cells #[k0, k1, k2, k3] t (0, 0))) :
    W.cell? ⟨b, 0, none⟩ = some k0 ∧ W.cell? ⟨b, 1, none⟩ = some k1 ∧ W.cell? ⟨b, 2, none⟩ = some k2 ∧ W.cell? ⟨b, 3, none⟩ = some k3 ∧ ∀ j, W.frozen? ⟨b, j, none⟩ = false :=
  ⟨cell_row h 0 _ rfl, cell_row h 1 _ rfl, cell_row h 2 _ rfl, cell_row h 3 _ rfl, free_row h⟩
theorem row_9 {W : World} {b : Nat} {k0 k1 k2 k3 k4 k5 k6 k7 k8 : Value} {t : TypeId} (h : W.heap[b]? = some (.cells #[k0, k1, k2, k3, k4, k5, k6, k7, k8] t (0, 0))) :
    W.cell? ⟨b, 0, none⟩ = some k0 ∧ W.cell? ⟨b, 1, none⟩ = some k1 ∧ W.cell? ⟨b, 2, none⟩ = some k2 ∧ W.cell? ⟨b, 3, none⟩ = some k3 ∧ W.cell? ⟨b, 4, none⟩ = some k4 ∧ W.cell? ⟨b, 5, none⟩ = some k5 ∧ W.cell? ⟨b, 6, none⟩ = some k6 ∧ W.cell? ⟨b, 7, none⟩ = some k7 ∧ W.cell? ⟨b, 8, none⟩ = some k8 ∧ ∀ j, W.frozen? ⟨b, j, none⟩ = false :=
  ⟨cell_row h 0 _ rfl, cell_row h 1 _ rfl, cell_row h 2 _ rfl, cell_row h 3 _ rfl, cell_row h 4 _ rfl, cell_row h 5 _ rfl, cell_row h 6 _ rfl, cell_row h 7 _ rfl, cell_row h 8 _ rfl, free_row h⟩
end Go.Proofs.YtibelcmdfkgonaaGreat
