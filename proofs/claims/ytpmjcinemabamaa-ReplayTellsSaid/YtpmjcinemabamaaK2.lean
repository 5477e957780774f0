/- A memory as a whole: what lies in it, and what of the heap it owns.
   Layer 7: peek, put and count, over a memory as a whole.
   Layer 7: an access to a word.
   Layer 7: load, store, swap. -/
import Derived.Test.YtpmjcinemabamaaK1
namespace Go.Proofs.Ytpmjcinemabamaa
open Go.RowKit Go.BigFrame
set_option linter.unusedVariables false
set_option linter.unusedSimpArgs false

theorem enters_at {P : Program} {f : FuncId} {fn : Func} {c : Code} (hf : P.funcs[f]? = some fn) (hname : (fn.name == "runtime.NumGoroutine") = false) (hb : fn.body = some c) (args : Array Value) (w : World) :
    (callFunc f args).run P w = .ok (.enter f args) w := by
  have h1 : fn.name ≠ "runtime.NumGoroutine" := by simpa using hname
  simp [callFunc, hf, h1, hb]
/-- A function with one place turned. -/
def upd {α : Type} (f : Nat → α) (j : Nat) (v : α) : Nat → α := fun k => if k = j then v else f k
theorem upd_at {α : Type} (f : Nat → α) (j : Nat) (v : α) : upd f j v j = v := by simp [upd]
theorem upd_ne {α : Type} (f : Nat → α) {j k : Nat} (v : α) (h : k ≠ j) : upd f j v k = f k := by simp [upd, h]
theorem upd_map {α β : Type} (g : α → β) (f : Nat → α) (j : Nat) (v : α) : (fun k => g (upd f j v k)) = upd (fun k => g (f k)) j (g v) := by
  funext k; unfold upd; split <;> rfl
/-- A block whose first n cells are told, none of it frozen. -/
def RowAt (W : World) (b n : Nat) (f : Nat → Value) : Prop := ∃ c t, W.heap[b]? = some (.cells c t (0, 0)) ∧ ∀ k, k < n → c[k]? = some (f k)
theorem RowAt.lt {W : World} {b n : Nat} {f : Nat → Value} (h : RowAt W b n f) : b < W.heap.size := by
  obtain ⟨c, t, h1, _⟩ := h; exact (Array.getElem?_eq_some_iff.1 h1).1
theorem RowAt.cell {W : World} {b n : Nat} {f : Nat → Value} (h : RowAt W b n f) {k : Nat} (hk : k < n) : W.cell? ⟨b, k, none⟩ = some (f k) := by
  obtain ⟨c, t, h1, h2⟩ := h
  rw [cell_of_row _ _ k _ _ _ h1]; exact h2 k hk
theorem RowAt.free {W : World} {b n : Nat} {f : Nat → Value} (h : RowAt W b n f) (j : Nat) : W.frozen? ⟨b, j, none⟩ = false := by
  obtain ⟨c, t, h1, h2⟩ := h
  unfold World.frozen?; rw [h1]; simp
theorem RowAt.keep {W W' : World} {b n : Nat} {f : Nat → Value} (h : RowAt W b n f) (e : W'.heap[b]? = W.heap[b]?) : RowAt W' b n f := by
  obtain ⟨c, t, h1, h2⟩ := h; exact ⟨c, t, e.trans h1, h2⟩
theorem RowAt.set {W : World} {b n : Nat} {f : Nat → Value} (h : RowAt W b n f) (j : Nat) (v : Value) : RowAt (W.setCell ⟨b, j, none⟩ v) b n (upd f j v) := by
  obtain ⟨c, t, h1, h2⟩ := h
  refine ⟨_, t, heap_set v h1, fun k hk => ?_⟩
  rw [Array.getElem?_setIfInBounds]
  have hk' : k < c.size := (Array.getElem?_eq_some_iff.1 (h2 k hk)).1
  by_cases e : k = j
  · subst e; simp [upd, hk']
  · rw [if_neg (Ne.symm e), upd_ne _ _ e]; exact h2 k hk
theorem RowAt.mono {W : World} {b n m : Nat} {f : Nat → Value} (h : RowAt W b n f) (hm : m ≤ n) : RowAt W b m f := by
  obtain ⟨c, t, h1, h2⟩ := h; exact ⟨c, t, h1, fun k hk => h2 k (by omega)⟩
theorem RowAt.congr {W : World} {b n : Nat} {f g : Nat → Value} (h : RowAt W b n f) (e : ∀ k, k < n → f k = g k) : RowAt W b n g := by
  obtain ⟨c, t, h1, h2⟩ := h; exact ⟨c, t, h1, fun k hk => by rw [← e k hk]; exact h2 k hk⟩
/-- Nothing but the blocks of F has turned. -/
structure Turn (F : Nat → Prop) (w w' : World) : Prop where
  os : w'.os = w.os
  tape : w'.tape = w.tape
  output : w'.output = w.output
  size : w.heap.size ≤ w'.heap.size
  block : ∀ k, k < w.heap.size → ¬ F k → w'.heap[k]? = w.heap[k]?
theorem Turn.refl (F : Nat → Prop) (w : World) : Turn F w w := ⟨rfl, rfl, rfl, Nat.le_refl _, fun _ _ _ => rfl⟩
theorem Turn.trans {F G : Nat → Prop} {x y z : World} (h : Turn F x y) (k : Turn G y z) (hs : ∀ i, i < x.heap.size → G i → F i) : Turn F x z :=
  ⟨k.os.trans h.os, k.tape.trans h.tape, k.output.trans h.output, Nat.le_trans h.size k.size, fun i hi h1 => (k.block i (Nat.lt_of_lt_of_le hi h.size) (fun g => h1 (hs i hi g))).trans (h.block i hi h1)⟩
theorem Turn.mono {F G : Nat → Prop} {x y : World} (h : Turn F x y) (hs : ∀ i, i < x.heap.size → F i → G i) : Turn G x y :=
  ⟨h.os, h.tape, h.output, h.size, fun i hi h1 => h.block i hi fun f => h1 (hs i hi f)⟩
theorem Turn.of_below {F : Nat → Prop} {w w' : World} (h : Below w.heap.size w w') : Turn F w w' := ⟨h.os, h.tape, h.output, h.size, fun k hk _ => h.block k hk⟩
theorem Turn.of_but {F : Nat → Prop} {p : Nat} {w w' : World} (h : But p w w') (hp : p < w.heap.size → F p) : Turn F w w' :=
  ⟨h.os, h.tape, h.output, h.size, fun k hk hf => h.block k hk fun e => hf (by rw [e]; rw [e] at hk; exact hp hk)⟩
theorem Turn.alloc {F : Nat → Prop} {a w : World} (h : Turn F a w) (o : Obj) : Turn F a (w.alloc o) :=
  ⟨h.os, h.tape, h.output, Nat.le_trans h.size (by simp), fun k hk hb => by rw [Below.heap_alloc _ _ _ (Nat.lt_of_lt_of_le hk h.size)]; exact h.block k hk hb⟩
theorem Turn.set {F : Nat → Prop} {a w : World} (h : Turn F a w) {b : Nat} (hb : b < a.heap.size → F b) (j : Nat) (v : Value) : Turn F a (w.setCell ⟨b, j, none⟩ v) :=
  ⟨h.os, h.tape, h.output, by simpa [World.setCell] using h.size, fun k hk hf => by rw [heap_set_other (fun e => hf (by rw [e]; rw [e] at hk; exact hb hk))]; exact h.block k hk hf⟩
theorem Turn.below {F : Nat → Prop} {B : Nat} {w w' : World} (h : Turn F w w') (hB : B ≤ w.heap.size) (hf : ∀ k, k < B → ¬ F k) : Below B w w' :=
  ⟨h.os, h.tape, h.output, h.size, fun k hk => h.block k (by omega) (hf k hk)⟩

/-- A slice of whole numbers, its own row of cells behind it, or none. -/
def LstAt (W : World) (v : Value) (l : List Int) : Prop :=
  v = .slice none 0 0 ∧ l = [] ∨
  ∃ g cap c, v = .slice (some ⟨g, 0, none⟩) l.length cap ∧ W.heap[g]? = some (.cells c 3 (0, 0)) ∧ l.length ≤ cap ∧ cap ≤ 9223372036854775807 ∧ cap ≤ c.size ∧ 0 < c.size ∧ ∀ k, k < l.length → c[k]? = some (.int .i64 (l.getD k 0))
theorem LstAt.keep {W W' : World} {v : Value} {l : List Int} (h : LstAt W v l) (e : ∀ g, v.ownBlock = some g → W'.heap[g]? = W.heap[g]?) : LstAt W' v l := by
  rcases h with h | ⟨g, cap, c, rfl, h1, h2⟩
  · exact Or.inl h
  · exact Or.inr ⟨g, cap, c, rfl, (e g rfl).trans h1, h2⟩
theorem LstAt.lt {W : World} {v : Value} {l : List Int} (h : LstAt W v l) {g : Nat} (e : v.ownBlock = some g) : g < W.heap.size := by
  rcases h with ⟨rfl, _⟩ | ⟨g', cap, c, rfl, h1, h2⟩
  · cases e
  · cases e; exact (Array.getElem?_eq_some_iff.1 h1).1

/-- A memory: its blocks, how many lines, threads and passing words it has, what its words are, how often each line was written back, what each thread flushes, the clock, the bad ones, the last access, and a number that no line was written back more often than. -/
structure Mv where
  m : Nat
  d : Nat
  kb : Nat
  sb : Nat
  wb : Nat
  fb : Nat
  pb : Nat
  n : Nat
  nt : Nat
  np : Nat
  c0 : Nat
  c1 : Nat
  c2 : Nat
  c3 : Nat
  c4 : Nat
  kept : Nat → Int
  seen : Nat → Int
  pass : Nat → Int
  wr : Nat → Int
  fl : Nat → List Int
  fv : Nat → Value
  ck : Int
  bd : Int
  la : Acc
  wm : Int
def Mv.blocks (M : Mv) : List Nat := [M.m, M.d, M.kb, M.sb, M.wb, M.fb, M.pb]
/-- The blocks that a memory owns. -/
def Mv.own (M : Mv) (k : Nat) : Prop := k ∈ M.blocks ∨ ∃ t, t < M.nt ∧ (M.fv t).ownBlock = some k
structure MemAt (W : World) (M : Mv) : Prop where
  row : MemRow W M.m (.pointer (some ⟨M.d, 0, none⟩)) (.slice (some ⟨M.pb, 0, none⟩) M.np M.c4) M.ck M.bd M.la
  dev : W.heap[M.d]? = some (.cells #[.slice (some ⟨M.kb, 0, none⟩) M.n M.c0, .slice (some ⟨M.sb, 0, none⟩) M.n M.c1, .slice (some ⟨M.wb, 0, none⟩) M.n M.c2, .slice (some ⟨M.fb, 0, none⟩) M.nt M.c3] 87 (0, 0))
  kept : RowAt W M.kb (8 * M.n) fun k => .int .u64 (M.kept k)
  seen : RowAt W M.sb (8 * M.n) fun k => .int .u64 (M.seen k)
  wr : RowAt W M.wb M.n fun k => .int .i64 (M.wr k)
  fb : RowAt W M.fb M.nt M.fv
  pass : RowAt W M.pb M.np fun k => .int .u64 (M.pass k)
  fl : ∀ t, t < M.nt → LstAt W (M.fv t) (M.fl t)
  apart : M.blocks.Nodup
  alone : ∀ t, t < M.nt → ∀ g, (M.fv t).ownBlock = some g → g ∉ M.blocks
  lone : ∀ t, t < M.nt → ∀ t', t' < M.nt → t ≠ t' → ∀ g, (M.fv t).ownBlock = some g → (M.fv t').ownBlock ≠ some g
  n0 : 0 < M.n
  n1 : M.n ≤ 262144
  t1 : M.nt ≤ 64
  p1 : M.np ≤ 262144
  rise : ∀ t, t < M.nt → (M.fl t).Pairwise (· < ·)
  inn : ∀ t, t < M.nt → ∀ x ∈ M.fl t, 0 ≤ x ∧ x < M.n
  ck0 : 0 ≤ M.ck
  bd0 : 0 ≤ M.bd
  bd1 : M.bd ≤ M.ck
  wr0 : ∀ k, k < M.n → 0 ≤ M.wr k ∧ M.wr k ≤ M.wm
theorem MemAt.lt {W : World} {M : Mv} (h : MemAt W M) {k : Nat} (hk : M.own k) : k < W.heap.size := by
  rcases hk with hk | ⟨t, ht, e⟩
  · simp only [Mv.blocks, List.mem_cons, List.not_mem_nil, or_false] at hk
    rcases hk with rfl | rfl | rfl | rfl | rfl | rfl | rfl
    · exact (Array.getElem?_eq_some_iff.1 h.row).1
    · exact (Array.getElem?_eq_some_iff.1 h.dev).1
    · exact h.kept.lt
    · exact h.seen.lt
    · exact h.wr.lt
    · exact h.fb.lt
    · exact h.pass.lt
  · exact (h.fl t ht).lt e
theorem MemAt.keep {W W' : World} {M : Mv} (h : MemAt W M) (e : ∀ k, M.own k → W'.heap[k]? = W.heap[k]?) : MemAt W' M := by
  have o : ∀ k, k ∈ M.blocks → W'.heap[k]? = W.heap[k]? := fun k hk => e k (Or.inl hk)
  exact { h with
    row := (o _ (by simp [Mv.blocks])).trans h.row
    dev := (o _ (by simp [Mv.blocks])).trans h.dev
    kept := h.kept.keep (o _ (by simp [Mv.blocks]))
    seen := h.seen.keep (o _ (by simp [Mv.blocks]))
    wr := h.wr.keep (o _ (by simp [Mv.blocks]))
    fb := h.fb.keep (o _ (by simp [Mv.blocks]))
    pass := h.pass.keep (o _ (by simp [Mv.blocks]))
    fl := fun t ht => (h.fl t ht).keep fun g hg => e g (Or.inr ⟨t, ht, hg⟩) }
theorem MemAt.turn {W W' : World} {M : Mv} {F : Nat → Prop} (h : MemAt W M) (t : Turn F W W') (hd : ∀ k, M.own k → ¬ F k) : MemAt W' M :=
  h.keep fun k hk => t.block k (h.lt hk) (hd k hk)
theorem MemAt.below {W W' : World} {M : Mv} (h : MemAt W M) (t : Below W.heap.size W W') : MemAt W' M :=
  h.keep fun k hk => t.block k (h.lt hk)
end Go.Proofs.Ytpmjcinemabamaa

namespace Go.Proofs.Ytpmjcinemabamaa
open Go.RowKit Go.BigFrame
set_option linter.unusedVariables false
set_option linter.unusedSimpArgs false

/-- That no two blocks are one. -/
structure Mv.Ne (M : Mv) : Prop where
  md : M.m ≠ M.d
  mkb : M.m ≠ M.kb
  ms : M.m ≠ M.sb
  mw : M.m ≠ M.wb
  mf : M.m ≠ M.fb
  mp : M.m ≠ M.pb
  dk : M.d ≠ M.kb
  ds : M.d ≠ M.sb
  dw : M.d ≠ M.wb
  df : M.d ≠ M.fb
  dp : M.d ≠ M.pb
  ks : M.kb ≠ M.sb
  kw : M.kb ≠ M.wb
  kf : M.kb ≠ M.fb
  kp : M.kb ≠ M.pb
  sw : M.sb ≠ M.wb
  sf : M.sb ≠ M.fb
  sp : M.sb ≠ M.pb
  wf : M.wb ≠ M.fb
  wp : M.wb ≠ M.pb
  fp : M.fb ≠ M.pb
theorem MemAt.ne {W : World} {M : Mv} (h : MemAt W M) : M.Ne := by
  have := h.apart
  simp only [Mv.blocks, List.nodup_cons, List.mem_cons, List.not_mem_nil, or_false, not_or, List.nodup_nil, and_true, not_false_eq_true] at this
  obtain ⟨⟨a1, a2, a3, a4, a5, a6⟩, ⟨b1, b2, b3, b4, b5⟩, ⟨c1, c2, c3, c4⟩, ⟨d1, d2, d3⟩, ⟨e1, e2⟩, f1⟩ := this
  exact ⟨a1, a2, a3, a4, a5, a6, b1, b2, b3, b4, b5, c1, c2, c3, c4, d1, d2, d3, e1, e2, f1⟩
/-- A turned block that is no flush list. -/
theorem MemAt.fl_set {W : World} {M : Mv} (h : MemAt W M) {b : Nat} (hb : b ∈ M.blocks) (j : Nat) (v : Value) (t : Nat) (ht : t < M.nt) : LstAt (W.setCell ⟨b, j, none⟩ v) (M.fv t) (M.fl t) :=
  (h.fl t ht).keep fun g hg => heap_set_other fun e => h.alone t ht g hg (e ▸ hb)
theorem MemAt.set_seen {W : World} {M : Mv} (h : MemAt W M) (k : Nat) (v : Int) : MemAt (W.setCell ⟨M.sb, k, none⟩ (.int .u64 v)) { M with seen := upd M.seen k v } := by
  have n := h.ne
  exact { h with
    row := (heap_set_other n.ms).trans h.row
    dev := (heap_set_other n.ds).trans h.dev
    kept := h.kept.keep (heap_set_other n.ks)
    seen := by
      have := h.seen.set k (.int .u64 v)
      simp only [upd_map]; exact this
    wr := h.wr.keep (heap_set_other (Ne.symm n.sw))
    fb := h.fb.keep (heap_set_other (Ne.symm n.sf))
    pass := h.pass.keep (heap_set_other (Ne.symm n.sp))
    fl := fun t ht => h.fl_set (by simp [Mv.blocks]) _ _ t ht }
theorem MemAt.set_pass {W : World} {M : Mv} (h : MemAt W M) (k : Nat) (v : Int) : MemAt (W.setCell ⟨M.pb, k, none⟩ (.int .u64 v)) { M with pass := upd M.pass k v } := by
  have n := h.ne
  exact { h with
    row := (heap_set_other n.mp).trans h.row
    dev := (heap_set_other n.dp).trans h.dev
    kept := h.kept.keep (heap_set_other n.kp)
    seen := h.seen.keep (heap_set_other n.sp)
    wr := h.wr.keep (heap_set_other n.wp)
    fb := h.fb.keep (heap_set_other n.fp)
    pass := by
      have := h.pass.set k (.int .u64 v)
      simp only [upd_map]; exact this
    fl := fun t ht => h.fl_set (by simp [Mv.blocks]) _ _ t ht }
/-- An access is noted. -/
def Mv.note (M : Mv) (x : Acc) (is : Bool) : Mv := { M with ck := M.ck + 1, bd := if is then M.bd else M.bd + 1, la := x }
theorem MemAt.note {W W' : World} {M : Mv} (h : MemAt W M) (x : Acc) (is : Bool) (hr : MemRow W' M.m (.pointer (some ⟨M.d, 0, none⟩)) (.slice (some ⟨M.pb, 0, none⟩) M.np M.c4) (M.ck + 1) (if is then M.bd else M.bd + 1) x) (hb : But M.m W W') : MemAt W' (M.note x is) := by
  have n := h.ne
  have o : ∀ k, M.own k → k ≠ M.m → W'.heap[k]? = W.heap[k]? := fun k hk e => hb.block k (h.lt hk) e
  have i : ∀ k, k ∈ M.blocks → M.own k := fun k hk => Or.inl hk
  exact { h with
    row := hr
    dev := (o _ (i _ (by simp [Mv.blocks])) (Ne.symm n.md)).trans h.dev
    kept := h.kept.keep (o _ (i _ (by simp [Mv.blocks])) (Ne.symm n.mkb))
    seen := h.seen.keep (o _ (i _ (by simp [Mv.blocks])) (Ne.symm n.ms))
    wr := h.wr.keep (o _ (i _ (by simp [Mv.blocks])) (Ne.symm n.mw))
    fb := h.fb.keep (o _ (i _ (by simp [Mv.blocks])) (Ne.symm n.mf))
    pass := h.pass.keep (o _ (i _ (by simp [Mv.blocks])) (Ne.symm n.mp))
    fl := fun t ht => (h.fl t ht).keep fun g hg => o g (Or.inr ⟨t, ht, hg⟩) fun e => h.alone t ht g hg (by rw [e]; simp [Mv.blocks])
    ck0 := by have := h.ck0; simp only [Mv.note]; omega
    bd0 := by have := h.bd0; simp only [Mv.note]; split <;> omega
    bd1 := by have := h.bd1; simp only [Mv.note]; split <;> omega }
theorem MemAt.words {W : World} {M : Mv} (h : MemAt W M) : WordsAt W M.m M.d M.sb M.n M.c1 (some ⟨M.pb, 0, none⟩) M.np M.c4 M.seen M.pass where
  dv := by have := (row10 h.row).1; exact this
  ps := (row10 h.row).2.1
  sn := by rw [cell_of_row _ _ 1 _ _ _ h.dev]; rfl
  sw := fun k hk => h.seen.cell (by omega)
  pw := fun _ => ⟨M.pb, rfl, fun k hk => h.pass.cell hk⟩
/-- What is at a word, and whether there is one. -/
def Mv.peek (M : Mv) (at_ : Int) : Int × Bool := peekV M.n M.np M.seen M.pass at_
theorem peekM (M : Mv) (at_ : Int) (q0 : -9223372036854775808 ≤ at_) (q1 : at_ ≤ 9223372036854775807) (W : World) (h : MemAt W M) :
    Calls Try.prog 29 #[.pointer (some ⟨M.m, 0, none⟩), .int .i64 at_] W (Tells (.tuple #[.int .u64 (M.peek at_).1, .bool (M.peek at_).2]) W) :=
  peek29 M.m M.d M.sb M.n M.c1 h.n1 _ M.np M.c4 h.p1 M.seen M.pass at_ q0 q1 W h.words
/-- A word put. -/
def Mv.put (M : Mv) (at_ v : Int) : Mv := if 0 ≤ at_ then { M with seen := upd M.seen at_.toNat v } else { M with pass := upd M.pass (-1 - at_).toNat v }
theorem Mv.put_own (M : Mv) (at_ v : Int) : (M.put at_ v).own = M.own := by unfold Mv.put; split <;> rfl
theorem Mv.put_m (M : Mv) (at_ v : Int) : (M.put at_ v).m = M.m := by unfold Mv.put; split <;> rfl
theorem Mv.put_d (M : Mv) (at_ v : Int) : (M.put at_ v).d = M.d := by unfold Mv.put; split <;> rfl
theorem Mv.put_ck (M : Mv) (at_ v : Int) : (M.put at_ v).ck = M.ck := by unfold Mv.put; split <;> rfl
theorem Mv.put_bd (M : Mv) (at_ v : Int) : (M.put at_ v).bd = M.bd := by unfold Mv.put; split <;> rfl
/-- It ends; the memory is as told; nothing else has turned. -/
def Done (M M' : Mv) (W : World) (e : Ending) (W' : World) : Prop := (∃ x, e = .returned x) ∧ MemAt W' M' ∧ Turn M.own W W'
theorem putM (M : Mv) (at_ v : Int) (W : World) (h : MemAt W M) (hp : (M.peek at_).2 = true) :
    Calls Try.prog 72 #[.pointer (some ⟨M.m, 0, none⟩), .int .i64 at_, .int .u64 v] W (Done M (M.put at_ v) W) := by
  unfold Mv.peek peekV at hp
  by_cases h0 : 0 ≤ at_
  · rw [if_pos h0] at hp
    have h1 : at_ / 8 < (M.n : Int) := by by_cases q : at_ / 8 < (M.n : Int) <;> simp [q] at hp ⊢
    have e : ((at_.toNat : Nat) : Int) = at_ := by omega
    have := put72_seen M.m M.d M.sb M.n M.c1 h.n1 _ M.np M.c4 M.seen M.pass at_.toNat (by omega) v W h.words h.seen.free
    rw [e] at this
    refine this.mono ?_
    rintro e' W' ⟨hx, w1, hh, hb, rfl⟩
    have h1' : MemAt w1 M := h.below hb
    refine ⟨hx, ?_, (Turn.of_below hb).set (fun _ => Or.inl (by simp [Mv.blocks])) _ _⟩
    unfold Mv.put; rw [if_pos h0]
    exact h1'.set_seen _ _
  · rw [if_neg h0] at hp
    have h1 : -1 - at_ < (M.np : Int) := by by_cases q : -1 - at_ < (M.np : Int) <;> simp [q] at hp ⊢
    have e : (-1 - ((-1 - at_).toNat : Int)) = at_ := by omega
    have := put72_pass M.m M.d M.sb M.n M.c1 M.pb M.np M.c4 h.p1 M.seen M.pass (-1 - at_).toNat (by omega) v W h.words h.pass.free
    rw [e] at this
    refine this.mono ?_
    rintro e' W' ⟨hx, w1, hh, hb, rfl⟩
    have h1' : MemAt w1 M := h.below hb
    refine ⟨hx, ?_, (Turn.of_below hb).set (fun _ => Or.inl (by simp [Mv.blocks])) _ _⟩
    unfold Mv.put; rw [if_neg h0]
    exact h1'.set_pass _ _
theorem countM (M : Mv) (x : Acc) (is : Bool) (W : World) (h : MemAt W M) (hc : M.ck ≤ 1000000) :
    Calls Try.prog 73 #[.pointer (some ⟨M.m, 0, none⟩), .agg x.cells, .bool is] W (Done M (M.note x is) W) := by
  have := h.bd1
  refine (count73 M.m _ _ M.ck M.bd h.ck0 hc h.bd0 (by omega) M.la x is W h.row).mono ?_
  rintro e W' ⟨hx, hr, hb⟩
  exact ⟨hx, h.note x is hr hb, Turn.of_but hb fun _ => Or.inl (by simp [Mv.blocks])⟩
theorem lineM (M : Mv) (x : Acc) (er : Int) (W : World) (h : MemAt W M) (hc : M.ck ≤ 1000000) :
    Calls Try.prog 56 #[.pointer (some ⟨M.m, 0, none⟩), .agg x.cells, .int .i64 er] W (Done M (M.note ⟨x.ki, x.th, x.pl, x.ol, x.ne, er == 0⟩ (er == 0)) W) := by
  have := h.bd1
  refine (line56 M.m _ _ M.ck M.bd h.ck0 hc h.bd0 (by omega) M.la x er W h.row).mono ?_
  rintro e W' ⟨hx, hr, hb⟩
  exact ⟨hx, h.note _ _ hr hb, Turn.of_but hb fun _ => Or.inl (by simp [Mv.blocks])⟩
end Go.Proofs.Ytpmjcinemabamaa

namespace Go.Proofs.Ytpmjcinemabamaa
open Go.RowKit Go.BigFrame
set_option linter.unusedVariables false
set_option linter.unusedSimpArgs false

/-- What an access to a word answers, and what it leaves. -/
def Mv.res (M : Mv) (x : Acc) (pu : Bool) : Acc := if (M.peek x.pl).2 then ⟨x.ki, x.th, x.pl, (M.peek x.pl).1, x.ne, pu || x.ki == 1⟩ else x
def Mv.did (M : Mv) (x : Acc) (nw : Int) (pu : Bool) : Mv := (if (M.peek x.pl).2 && pu then M.put x.pl nw else M).note (M.res x pu) (M.peek x.pl).2
/-- It answers a struct; the memory is as told; nothing else has turned. -/
def DoneV (M M' : Mv) (v : Value) (W : World) (e : Ending) (W' : World) : Prop := e = .returned v ∧ MemAt W' M' ∧ Turn M.own W W'
theorem row6 {W : World} {b : Nat} {k0 k1 k2 k3 k4 k5 : Value} {t : TypeId} (h : W.heap[b]? = some (.cells #[k0, k1, k2, k3, k4, k5] t (0, 0))) :
    W.cell? ⟨b, 0, none⟩ = some k0 ∧ W.cell? ⟨b, 1, none⟩ = some k1 ∧ W.cell? ⟨b, 2, none⟩ = some k2 ∧ W.cell? ⟨b, 3, none⟩ = some k3 ∧ W.cell? ⟨b, 4, none⟩ = some k4 ∧ W.cell? ⟨b, 5, none⟩ = some k5 ∧ ∀ j, W.frozen? ⟨b, j, none⟩ = false := by
  refine ⟨?_, ?_, ?_, ?_, ?_, ?_, fun j => ?_⟩
  all_goals first | (rw [cell_of_row _ _ _ _ _ _ h]; rfl) | (unfold World.frozen?; rw [h]; simp)
theorem two_new (W : World) (a b : Obj) : ((W.alloc a).alloc b).heap[W.heap.size]? = some a ∧ ((W.alloc a).alloc b).heap[W.heap.size + 1]? = some b := by
  constructor
  · rw [Below.heap_alloc _ _ _ (by simp)]; exact heap_alloc_new W a
  · have := heap_alloc_new (W.alloc a) b; simpa using this
theorem two_news {W w : World} {a b : Obj} (h : w.heap = ((W.alloc a).alloc b).heap) : w.heap[W.heap.size]? = some a ∧ w.heap[W.heap.size + 1]? = some b := by
  rw [h]; exact two_new W a b
theorem cell_set_at {w : World} {b j : Nat} {u : Value} (v : Value) (h : w.cell? ⟨b, j, none⟩ = some u) : (w.setCell ⟨b, j, none⟩ v).cell? ⟨b, j, none⟩ = some v := by
  unfold World.cell? at h
  split at h
  · rename_i c t f e
    simp at h
    have hl : j < c.size := (Array.getElem?_eq_some_iff.1 h).1
    rw [cell_of_row _ _ j _ _ _ (heap_set v e)]
    simp [hl]
  · cases h
theorem six_sets {F : Nat → Prop} {a w : World} (h : Turn F a w) {b : Nat} (hb : a.heap.size ≤ b) (v0 v1 v2 v3 v4 v5 : Value) :
    Turn F a ((((((w.setCell ⟨b, 0, none⟩ v0).setCell ⟨b, 1, none⟩ v1).setCell ⟨b, 2, none⟩ v2).setCell ⟨b, 3, none⟩ v3).setCell ⟨b, 4, none⟩ v4).setCell ⟨b, 5, none⟩ v5) := by
  have e : b < a.heap.size → F b := fun x => by omega
  exact ((((((h.set e _ _).set e _ _).set e _ _).set e _ _).set e _ _).set e _ _)
theorem MemAt.six {w : World} {M : Mv} (h : MemAt w M) {b : Nat} (hb : ¬ M.own b) (v0 v1 v2 v3 v4 v5 : Value) :
    MemAt ((((((w.setCell ⟨b, 0, none⟩ v0).setCell ⟨b, 1, none⟩ v1).setCell ⟨b, 2, none⟩ v2).setCell ⟨b, 3, none⟩ v3).setCell ⟨b, 4, none⟩ v4).setCell ⟨b, 5, none⟩ v5) M := by
  refine h.keep fun k hk => ?_
  have e : k ≠ b := fun e => hb (e ▸ hk)
  rw [heap_set_other e, heap_set_other e, heap_set_other e, heap_set_other e, heap_set_other e, heap_set_other e]
theorem six_row {w : World} {b : Nat} {k0 k1 k2 k3 k4 k5 : Value} {t : TypeId} {f : Nat × Nat} (h : w.heap[b]? = some (.cells #[k0, k1, k2, k3, k4, k5] t f)) (v0 v1 v2 v3 v4 v5 : Value) :
    ((((((w.setCell ⟨b, 0, none⟩ v0).setCell ⟨b, 1, none⟩ v1).setCell ⟨b, 2, none⟩ v2).setCell ⟨b, 3, none⟩ v3).setCell ⟨b, 4, none⟩ v4).setCell ⟨b, 5, none⟩ v5).heap[b]? = some (.cells #[v0, v1, v2, v3, v4, v5] t f) := by
  rw [heap_set v5 (heap_set v4 (heap_set v3 (heap_set v2 (heap_set v1 (heap_set v0 h)))))]
  rfl
/-- A function whose result is an access in memory. -/
theorem results_acc {fn : Func} {s : Nat} (hf : fn.results = #[.cell s 44]) {tmps : Array Value} {b : Nat} (ht : tmps.getD s undef = .pointer (some ⟨b, 0, none⟩)) {w : World} {v0 v1 v2 v3 v4 v5 : Value}
    (h : w.heap[b]? = some (.cells #[v0, v1, v2, v3, v4, v5] 44 (0, 0))) : (results fn tmps).run Try.prog w = .ok (.agg #[v0, v1, v2, v3, v4, v5]) w := by
  obtain ⟨z0, z1, z2, z3, z4, z5, zf⟩ := row6 h
  have ht' : tmps[s]?.getD undef = .pointer (some ⟨b, 0, none⟩) := by simpa using ht
  simp only [results, hf]
  simp [go_sem, ht', z0, z1, z2, z3, z4, z5]
theorem MemAt.not_own {W : World} {M : Mv} (h : MemAt W M) {k : Nat} (hk : W.heap.size ≤ k) : ¬ M.own k := fun e => by have := h.lt e; omega
set_option maxRecDepth 100000 in
theorem word52_no (M : Mv) (x : Acc) (fv : Value) (W : World) (h : MemAt W M) (hc : M.ck ≤ 1000000) (q0 : -9223372036854775808 ≤ x.pl) (q1 : x.pl ≤ 9223372036854775807) (hp : (M.peek x.pl).2 = false) :
    Calls Try.prog 52 #[.pointer (some ⟨M.m, 0, none⟩), .agg x.cells, fv] W (DoneV M (M.note x false) (.agg x.cells) W) := by
  have HM := Lib.hid h
  have HP : Hid (∀ w, MemAt w M → Calls Try.prog 29 #[.pointer (some ⟨M.m, 0, none⟩), .int .i64 x.pl] w (Tells (.tuple #[.int .u64 (M.peek x.pl).1, .bool false]) w)) := Lib.hid fun w hw => by have := peekM M x.pl q0 q1 w hw; rw [hp] at this; exact this
  have HC : Hid (∀ w, MemAt w M → Calls Try.prog 73 #[.pointer (some ⟨M.m, 0, none⟩), .agg x.cells, .bool false] w (Done M (M.note x false) w)) := Lib.hid fun w hw => countM M x false w hw hc
  clear h hp
  generalize (M.peek x.pl).1 = o at *
  obtain ⟨N, hN⟩ : ∃ N, N = M.note x false := ⟨_, rfl⟩
  have HN : Hid (∀ k, N.own k → M.own k) := Lib.hid fun k hk => by rw [hN] at hk; exact hk
  rw [← hN] at HC ⊢
  clear hN
  obtain ⟨ki, th, pl, ol, ne, dn⟩ := x
  simp only [Acc.cells] at *
  go_enter Try.func52, Try.ntmps52
  go_wp2_with fail
  refine (HP.out _ (HM.out.below (((Below.refl _ _).alloc (Nat.le_refl _) _).alloc (by simp) _))).mono ?_
  rintro e w1 ⟨rfl, hb, hh⟩
  have HH := Lib.hid hh
  obtain ⟨ra, rr⟩ := two_news hh
  obtain ⟨a0, a1, a2, a3, a4, a5, af⟩ := row6 ra
  obtain ⟨r0, r1, r2, r3, r4, r5, rf⟩ := row6 rr
  have HB : Hid (Below W.heap.size W w1) := Lib.hid ((((Below.refl _ _).alloc (Nat.le_refl _) _).alloc (by simp) _).trans (hb.mono (by simp; omega)))
  have HS : Hid (W.heap.size + 1 < w1.heap.size) := Lib.hid (by rw [hh]; simp)
  have HA := Lib.hid ra
  have HR := Lib.hid rr
  clear hb hh ra rr
  go_wp2_with fail
  refine (HC.out _ (HM.out.below HB.out)).mono ?_
  rintro e w2 ⟨⟨x, rfl⟩, hm, ht⟩
  have HT := Lib.hid ((Turn.of_below (F := M.own) HB.out).trans ht (fun _ _ h => h))
  have ra := (ht.block W.heap.size (by have := HS.out; omega) (HM.out.not_own (by omega))).trans HA.out
  have rr := (ht.block (W.heap.size + 1) (by have := HS.out; omega) (HM.out.not_own (by omega))).trans HR.out
  have HM2 := Lib.hid hm
  clear hm ht a0 a1 a2 a3 a4 a5 af r0 r1 r2 r3 r4 r5 rf
  obtain ⟨a0, a1, a2, a3, a4, a5, af⟩ := row6 ra
  obtain ⟨r0, r1, r2, r3, r4, r5, rf⟩ := row6 rr
  have HA2 := Lib.hid ra
  have HR2 := Lib.hid rr
  clear ra rr
  go_wp2_with fail
  refine bodyPost_ret (v := .agg #[.int .i64 ki, .int .i64 th, .int .i64 pl, .int .u64 ol, .int .u64 ne, .bool dn]) ?_ rfl ?_
  · exact results_acc rfl rfl (six_row HR2.out _ _ _ _ _ _)
  · exact ⟨rfl, HM2.out.six (fun e => HM.out.not_own (by omega) (HN.out _ e)) _ _ _ _ _ _, six_sets HT.out (by omega) _ _ _ _ _ _⟩
set_option maxRecDepth 100000 in
theorem word52_puts (M : Mv) (x : Acc) (f : Nat) (lb : Array Value) (nw : Int) (ef : ∀ args w, (callFunc f args).run Try.prog w = .ok (.enter f args) w) (W : World) (h : MemAt W M) (hc : M.ck ≤ 1000000) (q0 : -9223372036854775808 ≤ x.pl) (q1 : x.pl ≤ 9223372036854775807) (hp : (M.peek x.pl).2 = true)
    (hf : ∀ w1, Below W.heap.size W w1 → Calls Try.prog f (#[.int .u64 (M.peek x.pl).1] ++ lb) w1 (Tells (.tuple #[.int .u64 nw, .bool true]) w1)) :
    Calls Try.prog 52 #[.pointer (some ⟨M.m, 0, none⟩), .agg x.cells, .func (.func f) #[] lb] W (DoneV M ((M.put x.pl nw).note ⟨x.ki, x.th, x.pl, (M.peek x.pl).1, x.ne, true || x.ki == 1⟩ true) (.agg (Acc.cells ⟨x.ki, x.th, x.pl, (M.peek x.pl).1, x.ne, true || x.ki == 1⟩)) W) := by
  have HM := Lib.hid h
  have HP : Hid (∀ w, MemAt w M → Calls Try.prog 29 #[.pointer (some ⟨M.m, 0, none⟩), .int .i64 x.pl] w (Tells (.tuple #[.int .u64 (M.peek x.pl).1, .bool true]) w)) := Lib.hid fun w hw => by have := peekM M x.pl q0 q1 w hw; rw [hp] at this; exact this
  have HQ : Hid (∀ w, MemAt w M → Calls Try.prog 72 #[.pointer (some ⟨M.m, 0, none⟩), .int .i64 x.pl, .int .u64 nw] w (Done M (M.put x.pl nw) w)) := Lib.hid fun w hw => putM M x.pl nw w hw hp
  have HO : Hid (∀ k, (M.put x.pl nw).own k → M.own k) := Lib.hid fun k hk => by rw [Mv.put_own] at hk; exact hk
  have hck : (M.put x.pl nw).ck ≤ 1000000 := by rw [Mv.put_ck]; exact hc
  have hem : (M.put x.pl nw).m = M.m := Mv.put_m _ _ _
  have HF := Lib.hid hf
  clear h hp hf
  generalize (M.peek x.pl).1 = o at *
  obtain ⟨y, hy⟩ : ∃ y, y = (true || x.ki == 1) := ⟨_, rfl⟩
  rw [← hy]
  obtain ⟨N0, hN0⟩ : ∃ N0, N0 = M.put x.pl nw := ⟨_, rfl⟩
  rw [← hN0] at HQ HO hck hem ⊢
  clear hN0
  have HC : Hid (∀ w, MemAt w N0 → Calls Try.prog 73 #[.pointer (some ⟨M.m, 0, none⟩), .agg (Acc.cells ⟨x.ki, x.th, x.pl, o, x.ne, y⟩), .bool true] w (Done N0 (N0.note ⟨x.ki, x.th, x.pl, o, x.ne, y⟩ true) w)) := Lib.hid fun w hw => by have := countM N0 ⟨x.ki, x.th, x.pl, o, x.ne, y⟩ true w hw hck; rw [hem] at this; exact this
  obtain ⟨N, hN⟩ : ∃ N, N = N0.note ⟨x.ki, x.th, x.pl, o, x.ne, y⟩ true := ⟨_, rfl⟩
  have HN : Hid (∀ k, N.own k → M.own k) := Lib.hid fun k hk => HO.out k (by rw [hN] at hk; exact hk)
  rw [← hN] at HC ⊢
  clear hN hck hem
  obtain ⟨ki, th, pl, ol, ne, dn⟩ := x
  simp only [Acc.cells] at *
  have HY := Lib.hid hy
  clear hy
  go_enter Try.func52, Try.ntmps52
  go_wp2_with fail
  refine (HP.out _ (HM.out.below (((Below.refl _ _).alloc (Nat.le_refl _) _).alloc (by simp) _))).mono ?_
  rintro e w1 ⟨rfl, hb, hh⟩
  obtain ⟨ra, rr⟩ := two_news hh
  obtain ⟨a0, a1, a2, a3, a4, a5, af⟩ := row6 ra
  have HB : Hid (Below W.heap.size W w1) := Lib.hid ((((Below.refl _ _).alloc (Nat.le_refl _) _).alloc (by simp) _).trans (hb.mono (by simp; omega)))
  have HS : Hid (W.heap.size + 1 < w1.heap.size) := Lib.hid (by rw [hh]; simp)
  have HA := Lib.hid ra
  have HR := Lib.hid rr
  clear hb hh ra rr
  go_wp2_with fail
  with_reducible refine (HF.out _ (HB.out.setCell (Nat.le_refl _) _)).mono ?_
  rintro e w2 ⟨rfl, hb, hh⟩
  have ra := heap_set (j := 3) (.int .u64 o) HA.out
  have rr := (heap_set_other (j := 3) (v := .int .u64 o) (show W.heap.size + 1 ≠ W.heap.size by omega)).trans HR.out
  rw [← hh] at ra rr
  have HB2 : Hid (Below W.heap.size W w2) := Lib.hid ((HB.out.setCell (Nat.le_refl _) _).trans (hb.mono (by have := HS.out; simp [World.setCell]; omega)))
  have HS2 : Hid (W.heap.size + 1 < w2.heap.size) := Lib.hid (by rw [hh]; have := HS.out; simpa [World.setCell] using this)
  simp only [List.setIfInBounds_toArray, List.set_cons_succ, List.set_cons_zero] at ra
  have HA2 := Lib.hid ra
  have HR2 := Lib.hid rr
  clear a0 a1 a2 a3 a4 a5 af hb hh
  obtain ⟨a0, a1, a2, a3, a4, a5, af⟩ := row6 ra
  clear ra rr
  go_wp2_with fail
  refine (HQ.out _ (HM.out.below HB2.out)).mono ?_
  rintro e w3 ⟨⟨u, rfl⟩, hm, ht⟩
  have HT3 := Lib.hid ((Turn.of_below (F := M.own) HB2.out).trans ht (fun _ _ h => h))
  have ra := (ht.block W.heap.size (by have := HS2.out; omega) (HM.out.not_own (by omega))).trans HA2.out
  have rr := (ht.block (W.heap.size + 1) (by have := HS2.out; omega) (HM.out.not_own (by omega))).trans HR2.out
  have HS3 : Hid (W.heap.size + 1 < w3.heap.size) := Lib.hid (Nat.lt_of_lt_of_le HS2.out ht.size)
  have HM3 := Lib.hid hm
  have HA3 := Lib.hid ra
  have HR3 := Lib.hid rr
  clear hm ht a0 a1 a2 a3 a4 a5 af
  obtain ⟨a0, a1, a2, a3, a4, a5, af⟩ := row6 ra
  clear ra rr
  go_wp2_with fail
  obtain rfl : y = true := by rw [HY.out]; simp
  have hmA : MemAt (w3.setCell ⟨W.heap.size, 5, none⟩ (.bool true)) N0 := HM3.out.keep fun k hk => heap_set_other fun e => HM.out.not_own (Nat.le_refl _) (e ▸ HO.out k hk)
  refine (HC.out _ hmA).mono ?_
  rintro e w4 ⟨⟨u', rfl⟩, hm, ht⟩
  have HT4 : Hid (Turn M.own W w4) := Lib.hid ((HT3.out.set (fun e => absurd e (by omega)) _ _).trans ht (fun k _ hk => HO.out k hk))
  have ra := (ht.block W.heap.size (by have := HS3.out; simp [World.setCell]; omega) (fun e => HM.out.not_own (Nat.le_refl _) (HO.out _ e))).trans (heap_set (j := 5) (.bool true) HA3.out)
  have rr := (ht.block (W.heap.size + 1) (by have := HS3.out; simp [World.setCell]; omega) (fun e => HM.out.not_own (by omega) (HO.out _ e))).trans ((heap_set_other (j := 5) (v := .bool true) (show W.heap.size + 1 ≠ W.heap.size by omega)).trans HR3.out)
  simp only [List.setIfInBounds_toArray, List.set_cons_succ, List.set_cons_zero] at ra
  have HM4 := Lib.hid hm
  have HR4 := Lib.hid rr
  clear hm ht a0 a1 a2 a3 a4 a5 af hmA
  obtain ⟨a0, a1, a2, a3, a4, a5, af⟩ := row6 ra
  obtain ⟨r0, r1, r2, r3, r4, r5, rf⟩ := row6 rr
  clear ra rr
  go_wp2_with fail
  refine bodyPost_ret (v := .agg #[.int .i64 ki, .int .i64 th, .int .i64 pl, .int .u64 o, .int .u64 ne, .bool true]) ?_ rfl ?_
  · exact results_acc rfl rfl (six_row HR4.out _ _ _ _ _ _)
  · exact ⟨rfl, HM4.out.six (fun e => HM.out.not_own (by omega) (HN.out _ e)) _ _ _ _ _ _, six_sets HT4.out (by omega) _ _ _ _ _ _⟩
set_option maxRecDepth 100000 in
theorem word52_looks (M : Mv) (x : Acc) (f : Nat) (lb : Array Value) (nw : Int) (ef : ∀ args w, (callFunc f args).run Try.prog w = .ok (.enter f args) w) (W : World) (h : MemAt W M) (hc : M.ck ≤ 1000000) (q0 : -9223372036854775808 ≤ x.pl) (q1 : x.pl ≤ 9223372036854775807) (hp : (M.peek x.pl).2 = true)
    (hf : ∀ w1, Below W.heap.size W w1 → Calls Try.prog f (#[.int .u64 (M.peek x.pl).1] ++ lb) w1 (Tells (.tuple #[.int .u64 nw, .bool false]) w1)) :
    Calls Try.prog 52 #[.pointer (some ⟨M.m, 0, none⟩), .agg x.cells, .func (.func f) #[] lb] W (DoneV M (M.note ⟨x.ki, x.th, x.pl, (M.peek x.pl).1, x.ne, false || x.ki == 1⟩ true) (.agg (Acc.cells ⟨x.ki, x.th, x.pl, (M.peek x.pl).1, x.ne, false || x.ki == 1⟩)) W) := by
  have HM := Lib.hid h
  have HP : Hid (∀ w, MemAt w M → Calls Try.prog 29 #[.pointer (some ⟨M.m, 0, none⟩), .int .i64 x.pl] w (Tells (.tuple #[.int .u64 (M.peek x.pl).1, .bool true]) w)) := Lib.hid fun w hw => by have := peekM M x.pl q0 q1 w hw; rw [hp] at this; exact this
  have HF := Lib.hid hf
  clear h hp hf
  generalize (M.peek x.pl).1 = o at *
  obtain ⟨y, hy⟩ : ∃ y, y = (false || x.ki == 1) := ⟨_, rfl⟩
  rw [← hy]
  obtain ⟨N0, hN0⟩ : ∃ N0, N0 = M := ⟨_, rfl⟩
  have hck : N0.ck ≤ 1000000 := by rw [hN0]; exact hc
  have hem : N0.m = M.m := by rw [hN0]
  have HO : Hid (∀ k, N0.own k → M.own k) := Lib.hid fun k hk => by rw [hN0] at hk; exact hk
  have HE := Lib.hid hN0
  rw [show M.note ⟨x.ki, x.th, x.pl, o, x.ne, y⟩ true = N0.note ⟨x.ki, x.th, x.pl, o, x.ne, y⟩ true by rw [hN0]]
  clear hN0
  have HC : Hid (∀ w, MemAt w N0 → Calls Try.prog 73 #[.pointer (some ⟨M.m, 0, none⟩), .agg (Acc.cells ⟨x.ki, x.th, x.pl, o, x.ne, y⟩), .bool true] w (Done N0 (N0.note ⟨x.ki, x.th, x.pl, o, x.ne, y⟩ true) w)) := Lib.hid fun w hw => by have := countM N0 ⟨x.ki, x.th, x.pl, o, x.ne, y⟩ true w hw hck; rw [hem] at this; exact this
  obtain ⟨N, hN⟩ : ∃ N, N = N0.note ⟨x.ki, x.th, x.pl, o, x.ne, y⟩ true := ⟨_, rfl⟩
  have HN : Hid (∀ k, N.own k → M.own k) := Lib.hid fun k hk => HO.out k (by rw [hN] at hk; exact hk)
  rw [← hN] at HC ⊢
  clear hN hck hem
  obtain ⟨ki, th, pl, ol, ne, dn⟩ := x
  simp only [Acc.cells] at *
  have HY := Lib.hid hy
  clear hy
  go_enter Try.func52, Try.ntmps52
  go_wp2_with fail
  refine (HP.out _ (HM.out.below (((Below.refl _ _).alloc (Nat.le_refl _) _).alloc (by simp) _))).mono ?_
  rintro e w1 ⟨rfl, hb, hh⟩
  obtain ⟨ra, rr⟩ := two_news hh
  obtain ⟨a0, a1, a2, a3, a4, a5, af⟩ := row6 ra
  have HB : Hid (Below W.heap.size W w1) := Lib.hid ((((Below.refl _ _).alloc (Nat.le_refl _) _).alloc (by simp) _).trans (hb.mono (by simp; omega)))
  have HS : Hid (W.heap.size + 1 < w1.heap.size) := Lib.hid (by rw [hh]; simp)
  have HA := Lib.hid ra
  have HR := Lib.hid rr
  clear hb hh ra rr
  go_wp2_with fail
  with_reducible refine (HF.out _ (HB.out.setCell (Nat.le_refl _) _)).mono ?_
  rintro e w2 ⟨rfl, hb, hh⟩
  have ra := heap_set (j := 3) (.int .u64 o) HA.out
  have rr := (heap_set_other (j := 3) (v := .int .u64 o) (show W.heap.size + 1 ≠ W.heap.size by omega)).trans HR.out
  rw [← hh] at ra rr
  have HB2 : Hid (Below W.heap.size W w2) := Lib.hid ((HB.out.setCell (Nat.le_refl _) _).trans (hb.mono (by have := HS.out; simp [World.setCell]; omega)))
  have HS2 : Hid (W.heap.size + 1 < w2.heap.size) := Lib.hid (by rw [hh]; have := HS.out; simpa [World.setCell] using this)
  simp only [List.setIfInBounds_toArray, List.set_cons_succ, List.set_cons_zero] at ra
  have HA2 := Lib.hid ra
  have HR2 := Lib.hid rr
  clear a0 a1 a2 a3 a4 a5 af hb hh
  obtain ⟨a0, a1, a2, a3, a4, a5, af⟩ := row6 ra
  clear ra rr
  have HT3 : Hid (Turn M.own W w2) := Lib.hid (Turn.of_below HB2.out)
  have HM3 : Hid (MemAt w2 N0) := Lib.hid (by rw [HE.out]; exact HM.out.below HB2.out)
  have HA3 := HA2
  have HR3 := HR2
  have HS3 := HS2
  go_wp2_with fail
  have ky : (ki == 1) = y := by rw [HY.out]; simp
  rw [ky]
  have hmA : MemAt (w2.setCell ⟨W.heap.size, 5, none⟩ (.bool y)) N0 := HM3.out.keep fun k hk => heap_set_other fun e => HM.out.not_own (Nat.le_refl _) (e ▸ HO.out k hk)
  refine (HC.out _ hmA).mono ?_
  rintro e w4 ⟨⟨u', rfl⟩, hm, ht⟩
  have HT4 : Hid (Turn M.own W w4) := Lib.hid ((HT3.out.set (fun e => absurd e (by omega)) _ _).trans ht (fun k _ hk => HO.out k hk))
  have ra := (ht.block W.heap.size (by have := HS3.out; simp [World.setCell]; omega) (fun e => HM.out.not_own (Nat.le_refl _) (HO.out _ e))).trans (heap_set (j := 5) (.bool y) HA3.out)
  have rr := (ht.block (W.heap.size + 1) (by have := HS3.out; simp [World.setCell]; omega) (fun e => HM.out.not_own (by omega) (HO.out _ e))).trans ((heap_set_other (j := 5) (v := .bool y) (show W.heap.size + 1 ≠ W.heap.size by omega)).trans HR3.out)
  simp only [List.setIfInBounds_toArray, List.set_cons_succ, List.set_cons_zero] at ra
  have HM4 := Lib.hid hm
  have HR4 := Lib.hid rr
  clear hm ht a0 a1 a2 a3 a4 a5 af hmA
  obtain ⟨a0, a1, a2, a3, a4, a5, af⟩ := row6 ra
  obtain ⟨r0, r1, r2, r3, r4, r5, rf⟩ := row6 rr
  clear ra rr
  go_wp2_with fail
  refine bodyPost_ret (v := .agg #[.int .i64 ki, .int .i64 th, .int .i64 pl, .int .u64 o, .int .u64 ne, .bool y]) ?_ rfl ?_
  · exact results_acc rfl rfl (six_row HR4.out _ _ _ _ _ _)
  · exact ⟨rfl, HM4.out.six (fun e => HM.out.not_own (by omega) (HN.out _ e)) _ _ _ _ _ _, six_sets HT4.out (by omega) _ _ _ _ _ _⟩
end Go.Proofs.Ytpmjcinemabamaa

namespace Go.Proofs.Ytpmjcinemabamaa
open Go.RowKit Go.BigFrame
set_option linter.unusedVariables false
set_option linter.unusedSimpArgs false

theorem word52M (M : Mv) (x : Acc) (f : Nat) (lb : Array Value) (nw : Int) (pu : Bool) (ef : ∀ args w, (callFunc f args).run Try.prog w = .ok (.enter f args) w) (W : World) (h : MemAt W M) (hc : M.ck ≤ 1000000) (q0 : -9223372036854775808 ≤ x.pl) (q1 : x.pl ≤ 9223372036854775807)
    (hf : ∀ w1, Below W.heap.size W w1 → Calls Try.prog f (#[.int .u64 (M.peek x.pl).1] ++ lb) w1 (Tells (.tuple #[.int .u64 nw, .bool pu]) w1)) :
    Calls Try.prog 52 #[.pointer (some ⟨M.m, 0, none⟩), .agg x.cells, .func (.func f) #[] lb] W (DoneV M (M.did x nw pu) (.agg (M.res x pu).cells) W) := by
  unfold Mv.did Mv.res
  by_cases hp : (M.peek x.pl).2 = true
  · rw [if_pos hp, hp]
    cases pu
    · exact word52_looks M x f lb nw ef W h hc q0 q1 hp hf
    · exact word52_puts M x f lb nw ef W h hc q0 q1 hp hf
  · have hp' : (M.peek x.pl).2 = false := by simpa using hp
    rw [if_neg hp, hp']
    exact word52_no M x _ W h hc q0 q1 hp'
def Mv.load (M : Mv) (t at_ : Int) : Mv := M.did ⟨1, t, at_, 0, 0, false⟩ 0 false
def Mv.store (M : Mv) (t at_ w : Int) : Mv := M.did ⟨2, t, at_, 0, w, false⟩ w true
def Mv.swap (M : Mv) (t at_ old w : Int) : Mv := M.did ⟨3, t, at_, 0, w, false⟩ w ((M.peek at_).1 == old)
theorem Mv.did_own (M : Mv) (x : Acc) (nw : Int) (pu : Bool) : (M.did x nw pu).own = M.own := by
  unfold Mv.did; split
  · exact Mv.put_own M _ _
  · rfl
theorem peek_no {M : Mv} {at_ : Int} (h : (M.peek at_).2 = false) : (M.peek at_).1 = 0 := by
  unfold Mv.peek peekV at *
  by_cases h0 : 0 ≤ at_ <;> by_cases h1 : at_ / 8 < (M.n : Int) <;> by_cases h2 : -1 - at_ < (M.np : Int) <;> simp [h0, h1, h2] at h ⊢
theorem res_ol (M : Mv) (x : Acc) (h : x.ol = 0) (pu : Bool) : (M.res x pu).ol = (M.peek x.pl).1 := by
  unfold Mv.res
  by_cases hp : (M.peek x.pl).2 = true
  · rw [if_pos hp]
  · rw [if_neg hp, h, peek_no (by simpa using hp)]
set_option maxRecDepth 100000 in
theorem load37 (M : Mv) (t at_ : Int) (q0 : -9223372036854775808 ≤ at_) (q1 : at_ ≤ 9223372036854775807) (W : World) (h : MemAt W M) (hc : M.ck ≤ 1000000) :
    Calls Try.prog 37 #[.pointer (some ⟨M.m, 0, none⟩), .int .i64 t, .int .i64 at_] W (DoneV M (M.load t at_) (.int .u64 (M.peek at_).1) W) := by
  have H := Lib.hid (word52M M ⟨1, t, at_, 0, 0, false⟩ 53 #[] 0 false (enters_at Try.func53 (by kernel_rfl) rfl) W h hc q0 q1 (fun w1 _ => loads53 _ w1))
  have HO := Lib.hid (res_ol M ⟨1, t, at_, 0, 0, false⟩ rfl false)
  have hO : ∀ k, (M.load t at_).own k → M.own k := fun k hk => by unfold Mv.load at hk; rw [Mv.did_own] at hk; exact hk
  unfold Mv.load at *
  generalize M.did ⟨1, t, at_, 0, 0, false⟩ 0 false = N at *
  generalize M.res ⟨1, t, at_, 0, 0, false⟩ false = r at *
  obtain ⟨o, ho⟩ : ∃ o, o = (M.peek at_).1 := ⟨_, rfl⟩
  have HO2 : Hid (r.ol = o) := Lib.hid (by rw [ho]; exact HO.out)
  rw [← ho]
  obtain ⟨ki, th, pl, ol, ne, dn⟩ := r
  simp only [Acc.cells] at *
  have HO3 : Hid (ol = o) := HO2
  have HH := Lib.hid h
  have HL := Lib.hid hO
  clear HO HO2 ho h hO
  go_enter Try.func37, Try.ntmps37
  go_wp2_with fail
  refine H.out.mono ?_
  rintro e w1 ⟨rfl, hm, ht⟩
  have HM := Lib.hid hm
  have HT := Lib.hid ht
  clear hm ht
  go_wp2_with fail
  go_ret
  exact ⟨ret_eq (by rw [HO3.out]; rfl), HM.out.below ((Below.refl _ _).alloc (Nat.le_refl _) _), HT.out.alloc _⟩
set_option maxRecDepth 100000 in
theorem store38 (M : Mv) (t at_ v : Int) (q0 : -9223372036854775808 ≤ at_) (q1 : at_ ≤ 9223372036854775807) (W : World) (h : MemAt W M) (hc : M.ck ≤ 1000000) :
    Calls Try.prog 38 #[.pointer (some ⟨M.m, 0, none⟩), .int .i64 t, .int .i64 at_, .int .u64 v] W (Done M (M.store t at_ v) W) := by
  have H : Hid (∀ o, Calls Try.prog 52 #[.pointer (some ⟨M.m, 0, none⟩), .agg (Acc.cells ⟨2, t, at_, 0, v, false⟩), .func (.func 54) #[] #[.pointer (some ⟨W.heap.size, 0, none⟩)]] (W.alloc (.cells #[.int .u64 v] o)) (DoneV M (M.store t at_ v) (.agg (M.res ⟨2, t, at_, 0, v, false⟩ true).cells) (W.alloc (.cells #[.int .u64 v] o)))) := Lib.hid fun o => by
    refine word52M M ⟨2, t, at_, 0, v, false⟩ 54 _ v true (enters_at Try.func54 (by kernel_rfl) rfl) _ (h.below ((Below.refl _ _).alloc (Nat.le_refl _) _)) hc q0 q1 (fun w1 hb => ?_)
    exact stores54 _ v W.heap.size w1 ((hb.cell (p := ⟨W.heap.size, 0, none⟩) (by simp)).trans (cell_of_row _ _ 0 _ _ _ (heap_alloc_new W _)))
  generalize M.store t at_ v = N at *
  generalize M.res ⟨2, t, at_, 0, v, false⟩ true = r at *
  simp only [Acc.cells] at *
  clear h
  go_enter Try.func38, Try.ntmps38
  go_wp2_with fail
  refine (H.out _).mono ?_
  rintro e w1 ⟨rfl, hm, ht⟩
  have HM := Lib.hid hm
  have HT := Lib.hid ht
  clear hm ht
  go_wp2_with fail
  go_end0
  exact ⟨⟨_, rfl⟩, HM.out, ((Turn.refl _ _).alloc _).trans HT.out (fun _ _ h => h)⟩
set_option maxRecDepth 100000 in
theorem swap39 (M : Mv) (t at_ old v : Int) (q0 : -9223372036854775808 ≤ at_) (q1 : at_ ≤ 9223372036854775807) (W : World) (h : MemAt W M) (hc : M.ck ≤ 1000000) :
    Calls Try.prog 39 #[.pointer (some ⟨M.m, 0, none⟩), .int .i64 t, .int .i64 at_, .int .u64 old, .int .u64 v] W (DoneV M (M.swap t at_ old v) (.bool (M.swap t at_ old v).la.dn) W) := by
  have H : Hid (∀ o o', Calls Try.prog 52 #[.pointer (some ⟨M.m, 0, none⟩), .agg (Acc.cells ⟨3, t, at_, 0, v, false⟩), .func (.func 55) #[] #[.pointer (some ⟨W.heap.size + 1, 0, none⟩), .pointer (some ⟨W.heap.size, 0, none⟩)]] ((W.alloc (.cells #[.int .u64 old] o)).alloc (.cells #[.int .u64 v] o')) (DoneV M (M.swap t at_ old v) (.agg (M.res ⟨3, t, at_, 0, v, false⟩ ((M.peek at_).1 == old)).cells) ((W.alloc (.cells #[.int .u64 old] o)).alloc (.cells #[.int .u64 v] o')))) := Lib.hid fun o o' => by
    refine word52M M ⟨3, t, at_, 0, v, false⟩ 55 _ v _ (enters_at Try.func55 (by kernel_rfl) rfl) _ (h.below (((Below.refl _ _).alloc (Nat.le_refl _) _).alloc (by simp) _)) hc q0 q1 (fun w1 hb => ?_)
    have e := two_new W (.cells #[.int .u64 old] o) (.cells #[.int .u64 v] o')
    exact swaps55 _ v old (W.heap.size + 1) W.heap.size w1 ((hb.cell (p := ⟨W.heap.size + 1, 0, none⟩) (by simp)).trans (cell_of_row _ _ 0 _ _ _ e.2)) ((hb.cell (p := ⟨W.heap.size, 0, none⟩) (by simp; omega)).trans (cell_of_row _ _ 0 _ _ _ e.1))
  have HO : Hid ((M.swap t at_ old v).la = M.res ⟨3, t, at_, 0, v, false⟩ ((M.peek at_).1 == old)) := Lib.hid rfl
  generalize M.swap t at_ old v = N at *
  generalize M.res ⟨3, t, at_, 0, v, false⟩ ((M.peek at_).1 == old) = r at *
  obtain ⟨y, hy⟩ : ∃ y, y = N.la.dn := ⟨_, rfl⟩
  have HY : Hid (r.dn = y) := Lib.hid (by rw [hy, HO.out])
  rw [← hy]
  obtain ⟨ki, th, pl, ol, ne, dn⟩ := r
  simp only [Acc.cells] at *
  have HY2 : Hid (dn = y) := HY
  clear h HO HY hy
  go_enter Try.func39, Try.ntmps39
  go_wp2_with fail
  refine (H.out _ _).mono ?_
  rintro e w1 ⟨rfl, hm, ht⟩
  have HM := Lib.hid hm
  have HT := Lib.hid ht
  clear hm ht
  go_wp2_with fail
  go_ret
  exact ⟨ret_eq (by rw [HY2.out]; rfl), HM.out.below ((Below.refl _ _).alloc (Nat.le_refl _) _), ((((Turn.refl _ _).alloc _).alloc _).trans HT.out (fun _ _ h => h)).alloc _⟩
end Go.Proofs.Ytpmjcinemabamaa
