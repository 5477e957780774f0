/- Layers 3, 4: the words of lines; what is seen and kept.
   The document's memory: what lies in it; what is at a word.
   The document's device: flush, and what may not be.
   The document's device: fence.
   The document's device: fence, walked. -/
import Derived.Test.YtpmjcinemabamaaK3
import Derived.IntWalk
namespace Go.Proofs.Ytpmjcinemabamaa
open Go.RowKit Go.BigFrame
set_option linter.unusedVariables false
set_option linter.unusedSimpArgs false

theorem cell_alloc' (w : World) (cs : Array Value) (e : TypeId) (j : Nat) (u : Value) (h : cs.toList[j]? = some u) : (w.alloc (.cells cs e)).cell? ((⟨w.heap.size, 0, none⟩ : Addr).add j) = some u := cell_alloc w cs e j u h
/-- 'append(s, x...)' of elements that lie in the block just made, of whatever type. -/
theorem wpList_push' {P : Program} {ops : Array Oper} {rest : List Oper} {o : Oper} {a : Act} {Q : Exit → Act → World → Prop} (hgd : o.guard = none) (s x : Operand) (t : TypeId)
    (ho : o.op = .call { callee := .builtin .append, args := #[s, x], argTypes := #[t, t] })
    (base : Nat) (e e' : TypeId) (i : TypeInfo) (z : Value) (size bytes : Nat) (ht : P.underlying t = some (.slice e)) (hi : P.info? e = some i) (hz : i.zero = some z)
    (hsize : i.size = size) (hby : i.bytes = bytes) (hzs : z.cells.size = size) (hsz : 0 < size)
    (wr : World) (hbase : base ≤ wr.heap.size) (v : Value) (n : Nat) (xs : List Value) (hs : a.eval s = v) (hown : wr.ownsRow base e size v n xs)
    (cs : Array Value) (m c : Nat) (hx : a.eval x = .slice (some ⟨wr.heap.size, 0, none⟩) m c) (hl : cs.size = m * size) (h1 : ∀ u ∈ cs.toList, u.oneCell' = true)
    (h63 : n + m ≤ maxLen) (hbytes : (n + m) * bytes ≤ 140737488355328)
    (h : ∀ v' w', w'.ownsRow base e size v' (n + m) (xs ++ cs.toList) → wr.grownBy w' v.ownBlock → (∀ B W, Below B W wr → B ≤ base → Below B W w') → (v' = .slice none 0 0 ↔ v = .slice none 0 0 ∧ m = 0) → wpList P ops Q rest (a.put o.dst v') w') :
    wpList P ops Q (o :: rest) a (wr.alloc (.cells cs e')) := by
  refine wpList_append_own _ hgd s x t ho base e i z size bytes ht hi hz hsize hby hzs hsz v n xs hs (hown.alloc _) ⟨wr.heap.size, 0, none⟩ m c cs.toList hx (by simpa using hl) (fun j u hj => cell_alloc wr cs e' j u hj) h1 h63 hbytes (by simp; omega) ?_
  intro v' w' ho' hg' hn'
  refine h v' w' ho' (grownBy_trans (World.grownBy_alloc wr _ _) hg') (fun B W hb hB => ?_) hn'
  refine (hb.alloc (by omega) _).grown hg' (by simp; omega) (fun k hk => ?_)
  have := hown.lt k hk
  omega
theorem info42 : (Try.prog.info? 42).map (fun i => (i.zero, i.size, i.bytes)) = some (some (.int .u64 0), 1, 8) := by kernel_rfl
/-- Words as values. -/
def wordsL (f : Nat → Int) (n : Nat) : List Value := (List.range n).map fun k => .int .u64 (f k)
theorem wordsL_len (f : Nat → Int) (n : Nat) : (wordsL f n).length = n := by simp [wordsL]
theorem wordsL_get (f : Nat → Int) (n k : Nat) (h : k < n) : (wordsL f n)[k]? = some (.int .u64 (f k)) := by
  unfold wordsL; rw [List.getElem?_map, List.getElem?_range h]; rfl
theorem wordsL_8 (f : Nat → Int) (k : Nat) : wordsL f (8 * (k + 1)) = wordsL f (8 * k) ++ [.int .u64 (f (k * 8)), .int .u64 (f (k * 8 + 1)), .int .u64 (f (k * 8 + 2)), .int .u64 (f (k * 8 + 3)), .int .u64 (f (k * 8 + 4)), .int .u64 (f (k * 8 + 5)), .int .u64 (f (k * 8 + 6)), .int .u64 (f (k * 8 + 7))] := by
  unfold wordsL
  rw [show 8 * (k + 1) = 8 * k + 8 by omega, List.range_add, List.map_append, List.map_map]
  congr 1
  simp only [List.range_succ_eq_map, List.range_zero, List.map_cons, List.map_nil, Function.comp, List.map_map]
  rw [show 8 * k = k * 8 by omega]
  rfl
/-- New words. -/
def NewWords (f : Nat → Int) (n : Nat) (W : World) (e : Ending) (W' : World) : Prop := ∃ v, e = .returned v ∧ Below W.heap.size W W' ∧ W'.ownsRow W.heap.size 42 1 v n (wordsL f n)
set_option maxRecDepth 100000 in
set_option maxHeartbeats 1000000 in
theorem words42 (b n cap : Nat) (hn : n ≤ 262144) (f : Nat → Int) (W : World) (h : RowAt W b (8 * n) fun k => .int .u64 (f k)) :
    Calls Try.prog 42 #[.slice (some ⟨b, 0, none⟩) n cap] W (NewWords f (8 * n) W) := by
  obtain ⟨i42, hi, hz0, hz1, hz2⟩ := info_parts info42
  have HR := Lib.hid h
  have hb := h.lt
  clear h
  obtain ⟨B, hB⟩ : ∃ B, B = W.heap.size := ⟨_, rfl⟩
  unfold NewWords
  rw [← hB] at hb ⊢
  have HBB := Lib.hid hb; clear hb
  have HB := Lib.hid hB; clear hB
  go_enter Try.func42, Try.ntmps42
  go_wp2_with fail
  go_loopw [3, 8] (fun v i wr => ∃ k : Nat, k ≤ n ∧ i = .int .i64 k ∧ Hid (wr.ownsRow B 42 1 v (8 * k) (wordsL f (8 * k))) ∧ Hid (Below B W wr)) (fun _ i _ => n - (intOf i).toNat)
  case atStart => exact ⟨0, Nat.zero_le _, rfl, World.ownsRow_nil _ _ _ _, Below.refl _ _⟩
  case round =>
    obtain ⟨k, hk, rfl, HO, HBE⟩ := hrel
    have HBw : Hid (B ≤ wr.heap.size) := Lib.hid (by rw [HB.out]; exact HBE.out.size)
    by_cases hlt : k < n
    · have hr : RowAt wr b (8 * n) fun k => .int .u64 (f k) := HR.out.keep (HBE.out.block b HBB.out)
      have h8 : Eight wr b (k * 8) (fun r => f (k * 8 + r)) := fun r hr' => hr.cell (by omega)
      obtain ⟨c0, c1, c2, c3, c4, c5, c6, c7⟩ := h8.cells
      have hw8 := wordsL_8 f k
      have i0 : (0 : Int) ≤ (k : Int) := by omega
      have i1 : (k : Int) < (n : Int) := by omega
      have i2 : decide ((k : Int) < (n : Int)) = true := bool_yes i1
      rw [Nat.add_zero] at c0
      have HW8 := Lib.hid hw8
      clear hr h8 hw8
      generalize f (k * 8) = v0 at *
      generalize f (k * 8 + 1) = v1 at *
      generalize f (k * 8 + 2) = v2 at *
      generalize f (k * 8 + 3) = v3 at *
      generalize f (k * 8 + 4) = v4 at *
      generalize f (k * 8 + 5) = v5 at *
      generalize f (k * 8 + 6) = v6 at *
      generalize f (k * 8 + 7) = v7 at *
      go_wp2_with (at_builtin; refine wpList_push' rfl _ _ 22 rfl B 42 102 i42 (.int .u64 0) 1 8 Try.underlying22 hi hz0 hz1 hz2 rfl (by decide) wr HBw.out u3 (8 * k) (wordsL f (8 * k)) rfl HO.out #[.int .u64 v0, .int .u64 v1, .int .u64 v2, .int .u64 v3, .int .u64 v4, .int .u64 v5, .int .u64 v6, .int .u64 v7] 8 8 rfl rfl (by simp [Value.oneCell']) (by unfold maxLen; omega) (by omega) ?_; intro v' w' hown hgr hbel hne; have HO' := Lib.hid hown; have HB' := Lib.hid (hbel B W HBE.out (Nat.le_refl _)); clear hown hgr hbel hne)
      go_wp2_with fail
      go_roundw
      case rel => exact ⟨k + 1, by omega, by go_num, Lib.hid (by rw [HW8.out]; exact HO'.out), HB'⟩
      case measure => simp [intOf]; omega
    · obtain rfl : k = n := by omega
      have i2 : decide ((k : Int) < (k : Int)) = false := by simp
      go_wp2_with fail
      go_ret
      exact ⟨_, rfl, HBE.out, HO.out⟩
end Go.Proofs.Ytpmjcinemabamaa

namespace Go.Proofs.Ytpmjcinemabamaa
open Go.RowKit Go.BigFrame
set_option linter.unusedVariables false
set_option linter.unusedSimpArgs false

/-- The document's memory. -/
structure Rv where
  m : Nat
  d : Nat
  kb : Nat
  sb : Nat
  wb : Nat
  fb : Nat
  pb : Nat
  n : Nat
  nt : Nat
  np : Nat
  c0 : Nat
  c1 : Nat
  c2 : Nat
  c3 : Nat
  c4 : Nat
  fg : Nat → Nat
  fc : Nat → Nat
  kept : Nat → Int
  seen : Nat → Int
  pass : Nat → Int
  wr : Nat → Int
  fl : Nat → Nat → Bool
  ck : Int
  bd : Int
  la : Acc
  wm : Int
def Rv.blocks (M : Rv) : List Nat := [M.m, M.d, M.kb, M.sb, M.wb, M.fb, M.pb]
def Rv.own (M : Rv) (k : Nat) : Prop := k ∈ M.blocks ∨ ∃ t, t < M.nt ∧ M.fg t = k
structure RefAt (W : World) (M : Rv) : Prop where
  row : W.heap[M.m]? = some (.cells #[.pointer (some ⟨M.d, 0, none⟩), .slice (some ⟨M.pb, 0, none⟩) M.np M.c4, .int .i64 M.ck, .int .i64 M.bd, .int .i64 M.la.ki, .int .i64 M.la.th, .int .i64 M.la.pl, .int .u64 M.la.ol, .int .u64 M.la.ne, .bool M.la.dn] 46 (0, 0))
  dev : W.heap[M.d]? = some (.cells #[.slice (some ⟨M.kb, 0, none⟩) (8 * M.n) M.c0, .slice (some ⟨M.sb, 0, none⟩) (8 * M.n) M.c1, .slice (some ⟨M.wb, 0, none⟩) M.n M.c2, .slice (some ⟨M.fb, 0, none⟩) M.nt M.c3] 40 (0, 0))
  kept : RowAt W M.kb (8 * M.n) fun k => .int .u64 (M.kept k)
  seen : RowAt W M.sb (8 * M.n) fun k => .int .u64 (M.seen k)
  wr : RowAt W M.wb M.n fun k => .int .i64 (M.wr k)
  fb : RowAt W M.fb M.nt fun t => .slice (some ⟨M.fg t, 0, none⟩) M.n (M.fc t)
  pass : RowAt W M.pb M.np fun k => .int .u64 (M.pass k)
  fl : ∀ t, t < M.nt → RowAt W (M.fg t) M.n fun k => .bool (M.fl t k)
  apart : M.blocks.Nodup
  alone : ∀ t, t < M.nt → M.fg t ∉ M.blocks
  lone : ∀ t, t < M.nt → ∀ t', t' < M.nt → t ≠ t' → M.fg t ≠ M.fg t'
  n0 : 0 < M.n
  n1 : M.n ≤ 262144
  t1 : M.nt ≤ 64
  p1 : M.np ≤ 262144
  ck0 : 0 ≤ M.ck
  bd0 : 0 ≤ M.bd
  bd1 : M.bd ≤ M.ck
  wr0 : ∀ k, k < M.n → 0 ≤ M.wr k ∧ M.wr k ≤ M.wm
structure Rv.Ne (M : Rv) : Prop where
  md : M.m ≠ M.d
  mkb : M.m ≠ M.kb
  ms : M.m ≠ M.sb
  mw : M.m ≠ M.wb
  mf : M.m ≠ M.fb
  mp : M.m ≠ M.pb
  dk : M.d ≠ M.kb
  ds : M.d ≠ M.sb
  dw : M.d ≠ M.wb
  df : M.d ≠ M.fb
  dp : M.d ≠ M.pb
  ks : M.kb ≠ M.sb
  kw : M.kb ≠ M.wb
  kf : M.kb ≠ M.fb
  kp : M.kb ≠ M.pb
  sw : M.sb ≠ M.wb
  sf : M.sb ≠ M.fb
  sp : M.sb ≠ M.pb
  wf : M.wb ≠ M.fb
  wp : M.wb ≠ M.pb
  fp : M.fb ≠ M.pb
theorem RefAt.ne {W : World} {M : Rv} (h : RefAt W M) : M.Ne := by
  have := h.apart
  simp only [Rv.blocks, List.nodup_cons, List.mem_cons, List.not_mem_nil, or_false, not_or, List.nodup_nil, and_true, not_false_eq_true] at this
  obtain ⟨⟨a1, a2, a3, a4, a5, a6⟩, ⟨b1, b2, b3, b4, b5⟩, ⟨c1, c2, c3, c4⟩, ⟨d1, d2, d3⟩, ⟨e1, e2⟩, f1⟩ := this
  exact ⟨a1, a2, a3, a4, a5, a6, b1, b2, b3, b4, b5, c1, c2, c3, c4, d1, d2, d3, e1, e2, f1⟩
theorem RefAt.lt {W : World} {M : Rv} (h : RefAt W M) {k : Nat} (hk : M.own k) : k < W.heap.size := by
  rcases hk with hk | ⟨t, ht, e⟩
  · simp only [Rv.blocks, List.mem_cons, List.not_mem_nil, or_false] at hk
    rcases hk with rfl | rfl | rfl | rfl | rfl | rfl | rfl
    · exact (Array.getElem?_eq_some_iff.1 h.row).1
    · exact (Array.getElem?_eq_some_iff.1 h.dev).1
    · exact h.kept.lt
    · exact h.seen.lt
    · exact h.wr.lt
    · exact h.fb.lt
    · exact h.pass.lt
  · rw [← e]; exact (h.fl t ht).lt
theorem RefAt.keep {W W' : World} {M : Rv} (h : RefAt W M) (e : ∀ k, M.own k → W'.heap[k]? = W.heap[k]?) : RefAt W' M := by
  have o : ∀ k, k ∈ M.blocks → W'.heap[k]? = W.heap[k]? := fun k hk => e k (Or.inl hk)
  exact { h with
    row := (o _ (by simp [Rv.blocks])).trans h.row
    dev := (o _ (by simp [Rv.blocks])).trans h.dev
    kept := h.kept.keep (o _ (by simp [Rv.blocks]))
    seen := h.seen.keep (o _ (by simp [Rv.blocks]))
    wr := h.wr.keep (o _ (by simp [Rv.blocks]))
    fb := h.fb.keep (o _ (by simp [Rv.blocks]))
    pass := h.pass.keep (o _ (by simp [Rv.blocks]))
    fl := fun t ht => (h.fl t ht).keep (e _ (Or.inr ⟨t, ht, rfl⟩)) }
theorem RefAt.turn {W W' : World} {M : Rv} {F : Nat → Prop} (h : RefAt W M) (t : Turn F W W') (hd : ∀ k, M.own k → ¬ F k) : RefAt W' M :=
  h.keep fun k hk => t.block k (h.lt hk) (hd k hk)
theorem RefAt.below {W W' : World} {M : Rv} (h : RefAt W M) (t : Below W.heap.size W W') : RefAt W' M :=
  h.keep fun k hk => t.block k (h.lt hk)
theorem RefAt.not_own {W : World} {M : Rv} (h : RefAt W M) {k : Nat} (hk : W.heap.size ≤ k) : ¬ M.own k := fun e => by have := h.lt e; omega
def Rv.peek (M : Rv) (at_ : Int) : Int × Bool := peekV M.n M.np M.seen M.pass at_
set_option maxRecDepth 100000 in
theorem refPeek43 (M : Rv) (at_ : Int) (q0 : -9223372036854775808 ≤ at_) (q1 : at_ ≤ 9223372036854775807) (W : World) (h : RefAt W M) :
    Calls Try.prog 43 #[.pointer (some ⟨M.m, 0, none⟩), .int .i64 at_] W (Tells (.tuple #[.int .u64 (M.peek at_).1, .bool (M.peek at_).2]) W) := by
  obtain ⟨x0, x1, -⟩ := row10 h.row
  have y1 : W.cell? ⟨M.d, 1, none⟩ = some (.slice (some ⟨M.sb, 0, none⟩) (8 * M.n) M.c1) := by rw [cell_in h.dev]; rfl
  have hn := h.n1
  have hp := h.p1
  have HH := Lib.hid h
  clear h
  unfold Rv.peek
  by_cases h0 : 0 ≤ at_
  · have d0 : decide (0 ≤ at_) = true := bool_yes h0
    have d2 : decide (at_ < 0) = false := bool_no (by omega)
    by_cases h1 : at_ / 8 < (M.n : Int)
    · rw [show peekV M.n M.np M.seen M.pass at_ = (M.seen at_.toNat, true) by rw [peekV, if_pos h0, if_pos h1]]
      obtain ⟨k, rfl⟩ := Int.eq_ofNat_of_zero_le h0
      have hc := HH.out.seen.cell (k := k) (by omega)
      rw [Int.toNat_natCast]
      generalize M.seen k = v at *
      have d1 : decide ((k : Int) < ((8 * M.n : Nat) : Int)) = true := bool_yes (by omega)
      have f2 : (k : Int) < ((8 * M.n : Nat) : Int) := by omega
      obtain ⟨N, hN⟩ : ∃ N, N = 8 * M.n := ⟨_, rfl⟩
      rw [← hN] at y1 d1 f2
      have hN2 : N ≤ 2097152 := by omega
      clear hN h1
      go_enter Try.func43, Try.ntmps43
      go_wp2_with fail
      go_ret2
      exact ⟨rfl, Below.refl _ _, rfl⟩
    · rw [show peekV M.n M.np M.seen M.pass at_ = (0, false) by rw [peekV, if_pos h0, if_neg h1]]
      have d1 : decide (at_ < ((8 * M.n : Nat) : Int)) = false := bool_no (by omega)
      obtain ⟨N, hN⟩ : ∃ N, N = 8 * M.n := ⟨_, rfl⟩
      rw [← hN] at y1 d1
      have hN2 : N ≤ 2097152 := by omega
      clear hN h1
      go_enter Try.func43, Try.ntmps43
      go_wp2_with fail
      go_ret2
      exact ⟨rfl, Below.refl _ _, rfl⟩
  · have d0 : decide (0 ≤ at_) = false := bool_no h0
    have d2 : decide (at_ < 0) = true := bool_yes (by omega)
    by_cases h1 : -1 - at_ < (M.np : Int)
    · rw [show peekV M.n M.np M.seen M.pass at_ = (M.pass (-1 - at_).toNat, true) by rw [peekV, if_neg h0, if_pos h1]]
      have hc := HH.out.pass.cell (k := (-1 - at_).toNat) (by omega)
      generalize M.pass (-1 - at_).toNat = v at *
      obtain ⟨k, hk⟩ := Int.eq_ofNat_of_zero_le (show 0 ≤ -1 - at_ by omega)
      rw [hk] at hc
      have hc2 : W.cell? ⟨M.pb, k, none⟩ = some (.int .u64 v) := hc
      obtain rfl : at_ = -1 - (k : Int) := by omega
      have f2 : (k : Int) < (M.np : Int) := by omega
      have d3 : decide (-(M.np : Int) ≤ -1 - (k : Int)) = true := bool_yes (by omega)
      have e3 : (-1 - (-1 - (k : Int)) : Int) = (k : Int) := by omega
      clear hc hk h1
      go_enter Try.func43, Try.ntmps43
      go_wp2_with fail
      go_ret2
      exact ⟨rfl, Below.refl _ _, rfl⟩
    · rw [show peekV M.n M.np M.seen M.pass at_ = (0, false) by rw [peekV, if_neg h0, if_neg h1]]
      have d3 : decide (-(M.np : Int) ≤ at_) = false := bool_no (by omega)
      clear h1
      go_enter Try.func43, Try.ntmps43
      go_wp2_with fail
      go_ret2
      exact ⟨rfl, Below.refl _ _, rfl⟩
end Go.Proofs.Ytpmjcinemabamaa

namespace Go.Proofs.Ytpmjcinemabamaa
open Go.RowKit Go.BigFrame
set_option linter.unusedVariables false
set_option linter.unusedSimpArgs false

def Rv.flushE (M : Rv) (t l : Int) : Int := if threadE M.nt t = 0 then lineE M.n l else 1
def Rv.flushed (M : Rv) (t l : Int) : Rv := { M with fl := upd M.fl t.toNat (upd (M.fl t.toNat) l.toNat true) }
/-- It answers; the document's memory is as told; nothing else has turned. -/
def RDone (M M' : Rv) (v : Value) (W : World) (e : Ending) (W' : World) : Prop := e = .returned v ∧ RefAt W' M' ∧ Turn M.own W W'
theorem RefAt.set_fl {W : World} {M : Rv} (h : RefAt W M) {t : Nat} (ht : t < M.nt) (j : Nat) (v : Bool) :
    RefAt (W.setCell ⟨M.fg t, j, none⟩ (.bool v)) { M with fl := upd M.fl t (upd (M.fl t) j v) } := by
  have o : ∀ k, k ∈ M.blocks → (W.setCell ⟨M.fg t, j, none⟩ (.bool v)).heap[k]? = W.heap[k]? := fun k hk => heap_set_other fun e => h.alone t ht (e ▸ hk)
  exact { h with
    row := (o _ (by simp [Rv.blocks])).trans h.row
    dev := (o _ (by simp [Rv.blocks])).trans h.dev
    kept := h.kept.keep (o _ (by simp [Rv.blocks]))
    seen := h.seen.keep (o _ (by simp [Rv.blocks]))
    wr := h.wr.keep (o _ (by simp [Rv.blocks]))
    fb := h.fb.keep (o _ (by simp [Rv.blocks]))
    pass := h.pass.keep (o _ (by simp [Rv.blocks]))
    fl := fun t' ht' => by
      show RowAt _ (M.fg t') M.n fun k => .bool (upd M.fl t (upd (M.fl t) j v) t' k)
      by_cases e : t' = t
      · subst e
        rw [upd_at]
        have := (h.fl _ ht).set j (.bool v)
        simp only [upd_map]
        exact this
      · rw [upd_ne _ _ e]
        exact (h.fl t' ht').keep (heap_set_other (h.lone t' ht' t ht e)) }
theorem dev_cells {W : World} {b : Nat} {k0 k1 k2 k3 : Value} {t : TypeId} (h : W.heap[b]? = some (.cells #[k0, k1, k2, k3] t (0, 0))) :
    W.cell? ⟨b, 0, none⟩ = some k0 ∧ W.cell? ⟨b, 1, none⟩ = some k1 ∧ W.cell? ⟨b, 2, none⟩ = some k2 ∧ W.cell? ⟨b, 3, none⟩ = some k3 := by
  refine ⟨?_, ?_, ?_, ?_⟩ <;> (rw [cell_of_row _ _ _ _ _ _ h]; rfl)
set_option maxRecDepth 100000 in
theorem refDo44_flush (M : Rv) (t l : Int) (W : World) (h : RefAt W M) :
    Calls Try.prog 44 #[.pointer (some ⟨M.d, 0, none⟩), .int .i64 0, .int .i64 t, .int .i64 l] W (RDone M (if M.flushE t l = 0 then M.flushed t l else M) (.int .i64 (M.flushE t l)) W) := by
  obtain ⟨y0, y1, y2, y3⟩ := dev_cells h.dev
  have hn := h.n1
  have ht1 := h.t1
  have HH := Lib.hid h
  clear h
  unfold Rv.flushE threadE lineE
  by_cases h0 : t < 0
  · have d0 : decide (t < 0) = true := bool_yes h0
    rw [if_pos (show t < 0 ∨ (M.nt : Int) ≤ t from Or.inl h0), if_neg (by omega : ¬ ((1 : Int) = 0)), if_neg (by omega : ¬ ((1 : Int) = 0))]
    clear h0
    go_enter Try.func44, Try.ntmps44
    go_wp2_with fail
    go_ret
    exact ⟨rfl, HH.out, Turn.refl _ _⟩
  · have d0 : decide (t < 0) = false := bool_no h0
    by_cases h1 : (M.nt : Int) ≤ t
    · have d1 : decide ((M.nt : Int) ≤ t) = true := bool_yes h1
      rw [if_pos (show t < 0 ∨ (M.nt : Int) ≤ t from Or.inr h1), if_neg (by omega : ¬ ((1 : Int) = 0)), if_neg (by omega : ¬ ((1 : Int) = 0))]
      clear h0 h1
      go_enter Try.func44, Try.ntmps44
      go_wp2_with fail
      go_ret
      exact ⟨rfl, HH.out, Turn.refl _ _⟩
    · have d1 : decide ((M.nt : Int) ≤ t) = false := bool_no h1
      rw [if_neg (show ¬ (t < 0 ∨ (M.nt : Int) ≤ t) by omega)]
      simp only [if_true]
      by_cases h2 : l < 0
      · have d2 : decide (l < 0) = true := bool_yes h2
        rw [if_pos (show l < 0 ∨ (M.n : Int) ≤ l from Or.inl h2), if_neg (by omega : ¬ ((5 : Int) = 0))]
        clear h0 h1 h2
        go_enter Try.func44, Try.ntmps44
        go_wp2_with fail
        go_ret
        exact ⟨rfl, HH.out, Turn.refl _ _⟩
      · have d2 : decide (l < 0) = false := bool_no h2
        by_cases h3 : (M.n : Int) ≤ l
        · have d3 : decide ((M.n : Int) ≤ l) = true := bool_yes h3
          rw [if_pos (show l < 0 ∨ (M.n : Int) ≤ l from Or.inr h3), if_neg (by omega : ¬ ((5 : Int) = 0))]
          clear h0 h1 h2 h3
          go_enter Try.func44, Try.ntmps44
          go_wp2_with fail
          go_ret
          exact ⟨rfl, HH.out, Turn.refl _ _⟩
        · have d3 : decide ((M.n : Int) ≤ l) = false := bool_no h3
          rw [if_neg (show ¬ (l < 0 ∨ (M.n : Int) ≤ l) by omega)]
          simp only [if_true]
          obtain ⟨a, rfl⟩ := Int.eq_ofNat_of_zero_le (show 0 ≤ t by omega)
          obtain ⟨b, rfl⟩ := Int.eq_ofNat_of_zero_le (show 0 ≤ l by omega)
          have ha : a < M.nt := by omega
          have hb : b < M.n := by omega
          have HS := Lib.hid (HH.out.set_fl ha b true)
          have HO : Hid (M.own (M.fg a)) := Lib.hid (Or.inr ⟨a, ha, rfl⟩)
          have g1 := HH.out.fb.cell ha
          have g2 := (HH.out.fl a ha).cell hb
          have g3 := (HH.out.fl a ha).free b
          have i0 : (0 : Int) ≤ (a : Int) := by omega
          have i1 : (a : Int) < (M.nt : Int) := by omega
          have i2 : (0 : Int) ≤ (b : Int) := by omega
          have i3 : (b : Int) < (M.n : Int) := by omega
          have HE : Hid (M.flushed (a : Int) (b : Int) = { M with fl := upd M.fl a (upd (M.fl a) b true) }) := Lib.hid rfl
          generalize M.fl a b = u at *
          generalize M.fg a = g at *
          generalize M.fc a = c at *
          obtain ⟨N, hN⟩ : ∃ N, N = M.flushed (a : Int) (b : Int) := ⟨_, rfl⟩
          rw [← hN] at HE ⊢
          have HS2 : Hid (RefAt (W.setCell ⟨g, b, none⟩ (.bool true)) N) := Lib.hid (by rw [HE.out]; exact HS.out)
          clear ha hb h0 h1 h2 h3
          go_enter Try.func44, Try.ntmps44
          go_wp2_with fail
          go_ret
          exact ⟨rfl, HS2.out, (Turn.refl _ _).set (fun _ => HO.out) _ _⟩
set_option maxRecDepth 100000 in
theorem refDo44_fence_no (M : Rv) (t l : Int) (W : World) (h : RefAt W M) (hn : threadE M.nt t ≠ 0) :
    Calls Try.prog 44 #[.pointer (some ⟨M.d, 0, none⟩), .int .i64 1, .int .i64 t, .int .i64 l] W (RDone M M (.int .i64 1) W) := by
  obtain ⟨y0, y1, y2, y3⟩ := dev_cells h.dev
  have ht1 := h.t1
  have HH := Lib.hid h
  clear h
  unfold threadE at hn
  by_cases h0 : t < 0
  · have d0 : decide (t < 0) = true := bool_yes h0
    clear h0 hn
    go_enter Try.func44, Try.ntmps44
    go_wp2_with fail
    go_ret
    exact ⟨rfl, HH.out, Turn.refl _ _⟩
  · have d0 : decide (t < 0) = false := bool_no h0
    have h1 : (M.nt : Int) ≤ t := by
      rcases Int.lt_or_le t (M.nt : Int) with h | h
      · rw [if_neg (by omega)] at hn; exact absurd rfl hn
      · exact h
    have d1 : decide ((M.nt : Int) ≤ t) = true := bool_yes h1
    clear h0 h1 hn
    go_enter Try.func44, Try.ntmps44
    go_wp2_with fail
    go_ret
    exact ⟨rfl, HH.out, Turn.refl _ _⟩
end Go.Proofs.Ytpmjcinemabamaa

namespace Go.Proofs.Ytpmjcinemabamaa
open Go.RowKit Go.BigFrame
set_option linter.unusedVariables false
set_option linter.unusedSimpArgs false

theorem RefAt.set_kept {W : World} {M : Rv} (h : RefAt W M) (k : Nat) (v : Int) : RefAt (W.setCell ⟨M.kb, k, none⟩ (.int .u64 v)) { M with kept := upd M.kept k v } := by
  have n := h.ne
  exact { h with
    row := (heap_set_other n.mkb).trans h.row
    dev := (heap_set_other n.dk).trans h.dev
    kept := by
      have := h.kept.set k (.int .u64 v)
      simp only [upd_map]; exact this
    seen := h.seen.keep (heap_set_other (Ne.symm n.ks))
    wr := h.wr.keep (heap_set_other (Ne.symm n.kw))
    fb := h.fb.keep (heap_set_other (Ne.symm n.kf))
    pass := h.pass.keep (heap_set_other (Ne.symm n.kp))
    fl := fun t ht => (h.fl t ht).keep (heap_set_other fun e => h.alone t ht (by rw [e]; simp [Rv.blocks])) }
theorem RefAt.set_wr {W : World} {M : Rv} (h : RefAt W M) (k : Nat) (v : Int) (h0 : 0 ≤ v) (h1 : v ≤ M.wm) : RefAt (W.setCell ⟨M.wb, k, none⟩ (.int .i64 v)) { M with wr := upd M.wr k v } := by
  have n := h.ne
  exact { h with
    row := (heap_set_other n.mw).trans h.row
    dev := (heap_set_other n.dw).trans h.dev
    kept := h.kept.keep (heap_set_other n.kw)
    seen := h.seen.keep (heap_set_other n.sw)
    wr := by
      have := h.wr.set k (.int .i64 v)
      simp only [upd_map]; exact this
    fb := h.fb.keep (heap_set_other (Ne.symm n.wf))
    pass := h.pass.keep (heap_set_other (Ne.symm n.wp))
    fl := fun t ht => (h.fl t ht).keep (heap_set_other fun e => h.alone t ht (by rw [e]; simp [Rv.blocks]))
    wr0 := fun j hj => by
      show 0 ≤ upd M.wr k v j ∧ upd M.wr k v j ≤ M.wm
      by_cases e : j = k
      · rw [e, upd_at]; exact ⟨h0, h1⟩
      · rw [upd_ne _ _ e]; exact h.wr0 j hj }
/-- The first k lines that a thread flushes are written back. -/
def Rv.upto (M : Rv) (t k : Nat) : Rv := { M with kept := fun i => if i / 8 < k ∧ M.fl t (i / 8) = true then M.seen i else M.kept i, wr := fun j => if j < k ∧ M.fl t j = true then M.wr j + 1 else M.wr j, wm := M.wm + 1 }
/-- .. and j words of the next one. -/
def Rv.upto2 (M : Rv) (t k j : Nat) : Rv := { M.upto t k with kept := fun i => if i / 8 = k ∧ i % 8 < j then M.seen i else (M.upto t k).kept i }
theorem upto_0 {W : World} {M : Rv} (h : RefAt W M) (t : Nat) : RefAt W (M.upto t 0) := by
  exact { h with
    kept := h.kept.congr fun k _ => by simp [Rv.upto]
    wr := h.wr.congr fun k _ => by simp [Rv.upto]
    wr0 := fun k hk => by have := h.wr0 k hk; simp [Rv.upto]; omega }
theorem upto2_0 (M : Rv) (t k : Nat) : M.upto2 t k 0 = M.upto t k := by
  unfold Rv.upto2
  have : (fun i => if i / 8 = k ∧ i % 8 < 0 then M.seen i else (M.upto t k).kept i) = (M.upto t k).kept := by funext i; rw [if_neg (by omega)]
  rw [this]
theorem upto2_step (M : Rv) (t k j : Nat) (hj : j < 8) : { M.upto2 t k j with kept := upd (M.upto2 t k j).kept (8 * k + j) (M.seen (8 * k + j)) } = M.upto2 t k (j + 1) := by
  have : upd (M.upto2 t k j).kept (8 * k + j) (M.seen (8 * k + j)) = (M.upto2 t k (j + 1)).kept := by
    funext i
    show upd (fun i => if i / 8 = k ∧ i % 8 < j then M.seen i else (M.upto t k).kept i) (8 * k + j) (M.seen (8 * k + j)) i = if i / 8 = k ∧ i % 8 < j + 1 then M.seen i else (M.upto t k).kept i
    by_cases e : i = 8 * k + j
    · rw [e, upd_at, if_pos (by omega)]
    · rw [upd_ne _ _ e]
      by_cases c : i / 8 = k ∧ i % 8 < j
      · rw [if_pos c, if_pos (by omega)]
      · rw [if_neg c, if_neg (by omega)]
  rw [this]; rfl
theorem upto_yes (M : Rv) (t k : Nat) (h : M.fl t k = true) : { M.upto2 t k 8 with wr := upd (M.upto2 t k 8).wr k (M.wr k + 1) } = M.upto t (k + 1) := by
  have e1 : upd (M.upto2 t k 8).wr k (M.wr k + 1) = (M.upto t (k + 1)).wr := by
    funext i
    show upd (fun j => if j < k ∧ M.fl t j = true then M.wr j + 1 else M.wr j) k (M.wr k + 1) i = if i < k + 1 ∧ M.fl t i = true then M.wr i + 1 else M.wr i
    by_cases e : i = k
    · rw [e, upd_at, if_pos ⟨by omega, h⟩]
    · rw [upd_ne _ _ e]
      by_cases c : i < k ∧ M.fl t i = true
      · rw [if_pos c, if_pos ⟨by omega, c.2⟩]
      · rw [if_neg c, if_neg (fun c' => c ⟨by omega, c'.2⟩)]
  have e2 : (M.upto2 t k 8).kept = (M.upto t (k + 1)).kept := by
    funext i
    show (if i / 8 = k ∧ i % 8 < 8 then M.seen i else if i / 8 < k ∧ M.fl t (i / 8) = true then M.seen i else M.kept i) = if i / 8 < k + 1 ∧ M.fl t (i / 8) = true then M.seen i else M.kept i
    by_cases e : i / 8 = k
    · rw [if_pos ⟨e, by omega⟩, if_pos ⟨by omega, by rw [e]; exact h⟩]
    · rw [if_neg (fun c => e c.1)]
      by_cases c : i / 8 < k ∧ M.fl t (i / 8) = true
      · rw [if_pos c, if_pos ⟨by omega, c.2⟩]
      · rw [if_neg c, if_neg (fun c' => c ⟨by omega, c'.2⟩)]
  rw [e1]
  show ({ M.upto t k with kept := (M.upto2 t k 8).kept, wr := (M.upto t (k + 1)).wr } : Rv) = _
  rw [e2]; rfl
theorem upto_no (M : Rv) (t k : Nat) (h : M.fl t k = false) : M.upto t (k + 1) = M.upto t k := by
  have e1 : (M.upto t (k + 1)).wr = (M.upto t k).wr := by
    funext i
    show (if i < k + 1 ∧ M.fl t i = true then M.wr i + 1 else M.wr i) = if i < k ∧ M.fl t i = true then M.wr i + 1 else M.wr i
    by_cases e : i = k
    · rw [e, h]; simp
    · by_cases c : i < k ∧ M.fl t i = true
      · rw [if_pos c, if_pos ⟨by omega, c.2⟩]
      · rw [if_neg c, if_neg (fun c' => c ⟨by omega, c'.2⟩)]
  have e2 : (M.upto t (k + 1)).kept = (M.upto t k).kept := by
    funext i
    show (if i / 8 < k + 1 ∧ M.fl t (i / 8) = true then M.seen i else M.kept i) = if i / 8 < k ∧ M.fl t (i / 8) = true then M.seen i else M.kept i
    by_cases e : i / 8 = k
    · rw [e, h]; simp
    · by_cases c : i / 8 < k ∧ M.fl t (i / 8) = true
      · rw [if_pos c, if_pos ⟨by omega, c.2⟩]
      · rw [if_neg c, if_neg (fun c' => c ⟨by omega, c'.2⟩)]
  show ({ M with kept := (M.upto t (k + 1)).kept, wr := (M.upto t (k + 1)).wr, wm := M.wm + 1 } : Rv) = _
  rw [e1, e2]; rfl
/-- Of the first threads, and of the next one's first lines, what a thread flushed is none now. -/
def Rv.clears (M : Rv) (t a b : Nat) : Rv := { M with fl := fun x y => if x = t ∧ y < M.n ∧ (x < a ∨ x = a ∧ y < b) then false else M.fl x y }
theorem clears_0 (M : Rv) (t : Nat) : M.clears t 0 0 = M := by
  unfold Rv.clears
  have : (fun x y => if x = t ∧ y < M.n ∧ (x < 0 ∨ x = 0 ∧ y < 0) then false else M.fl x y) = M.fl := by funext x y; rw [if_neg (by omega)]
  rw [this]
theorem clears_next (M : Rv) (t a : Nat) : M.clears t a M.n = M.clears t (a + 1) 0 := by
  unfold Rv.clears
  have : (fun x y => if x = t ∧ y < M.n ∧ (x < a ∨ x = a ∧ y < M.n) then false else M.fl x y) = fun x y => if x = t ∧ y < M.n ∧ (x < a + 1 ∨ x = a + 1 ∧ y < 0) then false else M.fl x y := by
    funext x y
    by_cases c : x = t ∧ y < M.n ∧ (x < a ∨ x = a ∧ y < M.n)
    · rw [if_pos c, if_pos (by omega)]
    · rw [if_neg c, if_neg (by omega)]
  rw [this]
theorem clears_other (M : Rv) (t a b : Nat) (h : a ≠ t) : M.clears t a (b + 1) = M.clears t a b := by
  unfold Rv.clears
  have : (fun x y => if x = t ∧ y < M.n ∧ (x < a ∨ x = a ∧ y < b + 1) then false else M.fl x y) = fun x y => if x = t ∧ y < M.n ∧ (x < a ∨ x = a ∧ y < b) then false else M.fl x y := by
    funext x y
    by_cases c : x = t ∧ y < M.n ∧ (x < a ∨ x = a ∧ y < b + 1)
    · rw [if_pos c, if_pos (by omega)]
    · rw [if_neg c, if_neg (by omega)]
  rw [this]
theorem clears_one (M : Rv) (t b : Nat) (h : b < M.n) : { M.clears t t b with fl := upd (M.clears t t b).fl t (upd ((M.clears t t b).fl t) b false) } = M.clears t t (b + 1) := by
  have : upd (M.clears t t b).fl t (upd ((M.clears t t b).fl t) b false) = (M.clears t t (b + 1)).fl := by
    funext x y
    show upd (M.clears t t b).fl t (upd ((M.clears t t b).fl t) b false) x y = if x = t ∧ y < M.n ∧ (x < t ∨ x = t ∧ y < b + 1) then false else M.fl x y
    by_cases e : x = t
    · rw [e, upd_at]
      by_cases e' : y = b
      · rw [e', upd_at, if_pos (by omega)]
      · rw [upd_ne _ _ e']
        show (if t = t ∧ y < M.n ∧ (t < t ∨ t = t ∧ y < b) then false else M.fl t y) = _
        by_cases c : y < M.n ∧ y < b
        · rw [if_pos (by omega), if_pos (by omega)]
        · rw [if_neg (by omega), if_neg (by omega)]
    · rw [upd_ne _ _ e]
      show (if x = t ∧ y < M.n ∧ (x < t ∨ x = t ∧ y < b) then false else M.fl x y) = _
      rw [if_neg (by omega), if_neg (by omega)]
  rw [this]; rfl
/-- What a fence leaves. -/
def Rv.fenced (M : Rv) (t : Nat) : Rv := (M.upto t M.n).clears t M.nt 0
end Go.Proofs.Ytpmjcinemabamaa

namespace Go.Proofs.Ytpmjcinemabamaa
open Go.RowKit Go.BigFrame
set_option linter.unusedVariables false
set_option linter.unusedSimpArgs false

theorem Turn.drawn {F : Nat → Prop} {a w : World} (h : Turn F a w) (n : Nat) : Turn F a { w with drawn := n } := ⟨h.os, h.tape, h.output, h.size, h.block⟩
theorem RefAt.drew {w : World} {M : Rv} (h : RefAt w M) : RefAt w.drew M := h.keep fun _ _ => rfl
set_option maxRecDepth 100000 in
set_option maxHeartbeats 4000000 in
theorem refDo44_fence (M : Rv) (t : Nat) (ht : t < M.nt) (W : World) (h : RefAt W M) (hw : M.wm ≤ 999999) :
    Calls Try.prog 44 #[.pointer (some ⟨M.d, 0, none⟩), .int .i64 1, .int .i64 t, .int .i64 0] W (RDone M (M.fenced t) (.int .i64 0) W) := by
  obtain ⟨y0, y1, y2, y3⟩ := dev_cells h.dev
  have hn1 := h.n1
  have ht1 := h.t1
  have HH := Lib.hid h
  have HT := Lib.hid ht
  have i0 : (0 : Int) ≤ (t : Int) := by omega
  have i1 : (t : Int) < (M.nt : Int) := by omega
  have d0 : decide ((t : Int) < 0) = false := bool_no (by omega)
  have d1 : decide (M.nt ≤ t) = false := bool_no (by omega)
  have HWM := Lib.hid hw
  clear h ht hw
  go_enter Try.func44, Try.ntmps44
  go_wp2_with fail
  go_loopw [9] (fun i wr => ∃ k : Nat, k ≤ M.n ∧ i = .int .i64 k ∧ Hid (RefAt wr (M.upto t k) ∧ Turn M.own W wr)) (fun i _ => M.n - (intOf i).toNat)
  case atStart => exact ⟨0, Nat.zero_le _, rfl, Lib.hid ⟨upto_0 HH.out t, Turn.refl _ _⟩⟩
  case round =>
    obtain ⟨k, hk, rfl, HB⟩ := hrel
    obtain ⟨wo, rfl⟩ : ∃ wo : World, wo = wr := ⟨_, rfl⟩
    clear y0 y1 y2 y3
    obtain ⟨w0, w1, w2, w3⟩ := dev_cells HB.out.1.dev
    have y0 : wo.cell? ⟨M.d, 0, none⟩ = some (.slice (some ⟨M.kb, 0, none⟩) (8 * M.n) M.c0) := w0
    have y1 : wo.cell? ⟨M.d, 1, none⟩ = some (.slice (some ⟨M.sb, 0, none⟩) (8 * M.n) M.c1) := w1
    have y2 : wo.cell? ⟨M.d, 2, none⟩ = some (.slice (some ⟨M.wb, 0, none⟩) M.n M.c2) := w2
    have y3 : wo.cell? ⟨M.d, 3, none⟩ = some (.slice (some ⟨M.fb, 0, none⟩) M.nt M.c3) := w3
    clear w0 w1 w2 w3
    have j0 : (0 : Int) ≤ (k : Int) := by omega
    by_cases hlt : k < M.n
    · have j1 : (k : Int) < (M.n : Int) := by omega
      have j2 : decide ((k : Int) < (M.n : Int)) = true := bool_yes j1
      have g1 : wo.cell? ⟨M.fb, t, none⟩ = some (.slice (some ⟨M.fg t, 0, none⟩) M.n (M.fc t)) := HB.out.1.fb.cell HT.out
      have g2 : wo.cell? ⟨M.fg t, k, none⟩ = some (.bool (M.fl t k)) := (HB.out.1.fl t HT.out).cell hlt
      cases hf : M.fl t k with
      | false =>
        rw [hf] at g2
        have HE := Lib.hid (upto_no M t k hf)
        clear hf
        go_wp2_with fail
        go_roundw
        case rel => exact ⟨k + 1, by omega, by go_num, Lib.hid (by rw [HE.out]; exact HB.out)⟩
        case measure => simp [intOf]; omega
      | true =>
        rw [hf] at g2
        have HE := Lib.hid (upto_yes M t k hf)
        clear hf
        go_wp2_with fail
        go_loopw [10] (fun i wr => ∃ j : Nat, j ≤ 8 ∧ i = .int .i64 j ∧ Hid (RefAt wr (M.upto2 t k j) ∧ Turn M.own W wr)) (fun i _ => 8 - (intOf i).toNat)
        case atStart => exact ⟨0, Nat.zero_le _, rfl, Lib.hid ⟨by rw [upto2_0]; exact HB.out.1, HB.out.2⟩⟩
        case round =>
          obtain ⟨j, hj, rfl, HC⟩ := hrel
          clear y0 y1 y2 y3 g1 g2
          obtain ⟨w0, w1, w2, w3⟩ := dev_cells HC.out.1.dev
          have y0 : wr.cell? ⟨M.d, 0, none⟩ = some (.slice (some ⟨M.kb, 0, none⟩) (8 * M.n) M.c0) := w0
          have y1 : wr.cell? ⟨M.d, 1, none⟩ = some (.slice (some ⟨M.sb, 0, none⟩) (8 * M.n) M.c1) := w1
          have y2 : wr.cell? ⟨M.d, 2, none⟩ = some (.slice (some ⟨M.wb, 0, none⟩) M.n M.c2) := w2
          clear w0 w1 w2 w3
          by_cases hj8 : j < 8
          · have e2 : decide ((j : Int) < 8) = true := bool_yes (by omega)
            have z1 : wr.cell? ⟨M.sb, 8 * k + j, none⟩ = some (.int .u64 (M.seen (8 * k + j))) := HC.out.1.seen.cell (by show _ < 8 * M.n; omega)
            have z2 := HC.out.1.kept.cell (k := 8 * k + j) (by show _ < 8 * M.n; omega)
            have z2 : wr.cell? ⟨M.kb, 8 * k + j, none⟩ = some (.int .u64 ((M.upto2 t k j).kept (8 * k + j))) := z2
            have z3 : wr.frozen? ⟨M.kb, 8 * k + j, none⟩ = false := HC.out.1.kept.free _
            have HS := Lib.hid (HC.out.1.set_kept (8 * k + j) (M.seen (8 * k + j)))
            rw [upto2_step M t k j hj8] at HS
            generalize (M.upto2 t k j).kept (8 * k + j) = u at *
            generalize M.seen (8 * k + j) = v at *
            obtain ⟨q, hq⟩ : ∃ q, q = 8 * k + j := ⟨_, rfl⟩
            obtain ⟨N, hN⟩ : ∃ N, N = 8 * M.n := ⟨_, rfl⟩
            rw [← hq] at z1 z2 z3 HS
            rw [← hN] at y0 y1
            have m1 : IntKind.i64.wrap (8 * (k : Int)) = 8 * (k : Int) := IntWalk.i64_in _ (by omega)
            have m2 : IntKind.i64.wrap (8 * (k : Int) + (j : Int)) = (q : Int) := by rw [IntWalk.i64_in _ (by omega)]; omega
            have m3 : (0 : Int) ≤ (q : Int) := by omega
            have m4 : (q : Int) < (N : Int) := by omega
            have m5 : q < N := by omega
            clear hq hN
            go_wp2_with fail
            go_region
            go_wp2_with fail
            go_roundw
            case rel => exact ⟨j + 1, by omega, by go_num, Lib.hid ⟨HS.out.drew, ((HC.out.2.set (fun _ => Or.inl (by simp [Rv.blocks])) _ _).drawn _)⟩⟩
            case measure => simp [intOf]; omega
          · obtain rfl : j = 8 := by omega
            have e2 : decide (((8 : Nat) : Int) < 8) = false := by simp
            have z1 : wr.cell? ⟨M.wb, k, none⟩ = some (.int .i64 ((M.upto2 t k 8).wr k)) := HC.out.1.wr.cell hlt
            have z3 : wr.frozen? ⟨M.wb, k, none⟩ = false := HC.out.1.wr.free _
            have z4 : (M.upto2 t k 8).wr k = M.wr k := by show (if k < k ∧ M.fl t k = true then M.wr k + 1 else M.wr k) = M.wr k; rw [if_neg (by omega)]
            rw [z4] at z1
            have z5 := HH.out.wr0 k hlt
            have z6 := HWM.out
            have HS := Lib.hid (HC.out.1.set_wr k (M.wr k + 1) (by omega) (by show M.wr k + 1 ≤ M.wm + 1; omega))
            rw [HE.out] at HS
            generalize M.wr k = v at *
            have m1 : IntKind.i64.wrap (v + 1) = v + 1 := IntWalk.i64_in _ (by omega)
            go_wp2_with fail
            go_region
            go_wp2_with fail
            go_roundw
            case rel => exact ⟨k + 1, by omega, by go_num, Lib.hid ⟨HS.out.drew, ((HC.out.2.set (fun _ => Or.inl (by simp [Rv.blocks])) _ _).drawn _)⟩⟩
            case measure => simp [intOf]; omega
    · obtain rfl : k = M.n := by omega
      have j2 : decide ((M.n : Int) < (M.n : Int)) = false := by simp
      have HB1 : Hid (RefAt wo (M.upto t M.n) ∧ Turn M.own W wo) := HB
      clear HB
      obtain ⟨R, hR⟩ : ∃ R, R = M.upto t M.n := ⟨_, rfl⟩
      have HRn : Hid (R.n = M.n ∧ R.nt = M.nt ∧ R.d = M.d ∧ R.fb = M.fb ∧ R.fg = M.fg ∧ R.fc = M.fc ∧ R.own = M.own ∧ R.c2 = M.c2 ∧ R.wb = M.wb ∧ R.c3 = M.c3) := Lib.hid (by rw [hR]; exact ⟨rfl, rfl, rfl, rfl, rfl, rfl, rfl, rfl, rfl, rfl⟩)
      have HF : Hid (M.fenced t = R.clears t R.nt 0) := Lib.hid (by rw [hR]; rfl)
      rw [← hR] at HB1
      clear hR
      go_wp2_with fail
      go_loopw [11] (fun i wr => ∃ k : Nat, k ≤ M.nt ∧ i = .int .i64 k ∧ Hid (RefAt wr (R.clears t k 0) ∧ Turn M.own W wr)) (fun i _ => M.nt - (intOf i).toNat)
      case atStart => exact ⟨0, Nat.zero_le _, rfl, Lib.hid ⟨by rw [clears_0]; exact HB1.out.1, HB1.out.2⟩⟩
      case round =>
        obtain ⟨a, ha, rfl, HC⟩ := hrel
        obtain ⟨wb, rfl⟩ : ∃ wb : World, wb = wr := ⟨_, rfl⟩
        clear y0 y1 y2 y3
        obtain ⟨w0, w1, w2, w3⟩ := dev_cells HC.out.1.dev
        obtain ⟨r1, r2, r3, r4, r5, r6, r7, r8, r9, r10⟩ := HRn.out
        have y1 : wb.cell? ⟨M.d, 1, none⟩ = some (.slice (some ⟨R.sb, 0, none⟩) (8 * M.n) R.c1) := by rw [← r3, ← r1]; exact w1
        have y2 : wb.cell? ⟨M.d, 2, none⟩ = some (.slice (some ⟨M.wb, 0, none⟩) M.n M.c2) := by rw [← r3, ← r1, ← r8, ← r9]; exact w2
        have y3 : wb.cell? ⟨M.d, 3, none⟩ = some (.slice (some ⟨M.fb, 0, none⟩) M.nt M.c3) := by rw [← r3, ← r2, ← r4, ← r10]; exact w3
        clear w0 w1 w2 w3 r1 r2 r3 r4 r5 r6 r7 r8 r9 r10
        by_cases hlt2 : a < M.nt
        · have e2 : decide ((a : Int) < (M.nt : Int)) = true := bool_yes (by omega)
          go_wp2_with fail
          go_loopw [12] (fun i wr => ∃ b : Nat, b ≤ M.n ∧ i = .int .i64 b ∧ Hid (RefAt wr (R.clears t a b) ∧ Turn M.own W wr)) (fun i _ => M.n - (intOf i).toNat)
          case atStart => exact ⟨0, Nat.zero_le _, rfl, HC⟩
          case round =>
            obtain ⟨b, hb, rfl, HD⟩ := hrel
            clear y1 y2 y3
            obtain ⟨w0, w1, w2, w3⟩ := dev_cells HD.out.1.dev
            obtain ⟨r1, r2, r3, r4, r5, r6, r7, r8, r9, r10⟩ := HRn.out
            have y2 : wr.cell? ⟨M.d, 2, none⟩ = some (.slice (some ⟨M.wb, 0, none⟩) M.n M.c2) := by rw [← r3, ← r1, ← r8, ← r9]; exact w2
            have y3 : wr.cell? ⟨M.d, 3, none⟩ = some (.slice (some ⟨M.fb, 0, none⟩) M.nt M.c3) := by rw [← r3, ← r2, ← r4, ← r10]; exact w3
            by_cases hbn : b < M.n
            · have e3 : decide ((b : Int) < (M.n : Int)) = true := bool_yes (by omega)
              by_cases hat : a = t
              · subst hat
                have g1 : wr.cell? ⟨M.fb, a, none⟩ = some (.slice (some ⟨M.fg a, 0, none⟩) M.n (M.fc a)) := by
                  have := HD.out.1.fb.cell (k := a) (by show a < R.nt; rw [r2]; exact hlt2)
                  rw [← r4, ← r5, ← r1, ← r6]; exact this
                have g2 : wr.cell? ⟨M.fg a, b, none⟩ = some (.bool ((R.clears a a b).fl a b)) := by
                  have := (HD.out.1.fl a (by show a < R.nt; rw [r2]; exact hlt2)).cell (k := b) (by show b < R.n; rw [r1]; exact hbn)
                  rw [← r5]; exact this
                have g3 : wr.frozen? ⟨M.fg a, b, none⟩ = false := by
                  have := (HD.out.1.fl a (by show a < R.nt; rw [r2]; exact hlt2)).free b
                  rw [← r5]; exact this
                have HS := Lib.hid (HD.out.1.set_fl (t := a) (by show a < R.nt; rw [r2]; exact hlt2) b false)
                have HO : Hid (M.own (M.fg a)) := Lib.hid (Or.inr ⟨a, hlt2, rfl⟩)
                rw [clears_one R a b (by rw [r1]; exact hbn)] at HS
                have HS2 : Hid (RefAt (wr.setCell ⟨M.fg a, b, none⟩ (.bool false)) (R.clears a a (b + 1))) := Lib.hid (by rw [← r5]; exact HS.out)
                generalize (R.clears a a b).fl a b = u at *
                generalize M.fg a = g at *
                have f1 : ((a : Int) == (a : Int)) = true := by simp
                clear w0 w1 w2 w3 r1 r2 r3 r4 r5 r6 r7 r8 r9 r10 HS
                go_wp2_with fail
                go_roundw
                case rel => exact ⟨b + 1, by omega, by go_num, Lib.hid ⟨HS2.out, HD.out.2.set (fun _ => HO.out) _ _⟩⟩
                case measure => simp [intOf]; omega
              · have f1 : ((a : Int) == (t : Int)) = false := by simp; omega
                have HE := Lib.hid (clears_other R t a b hat)
                clear w0 w1 w2 w3 r1 r2 r3 r4 r5 r6 r7 r8 r9 r10
                go_wp2_with fail
                go_roundw
                case rel => exact ⟨b + 1, by omega, by go_num, Lib.hid (by rw [HE.out]; exact HD.out)⟩
                case measure => simp [intOf]; omega
            · obtain rfl : b = M.n := by omega
              have e3 : decide ((M.n : Int) < (M.n : Int)) = false := by simp
              have HE := Lib.hid (clears_next R t a)
              rw [r1] at HE
              clear w0 w1 w2 w3 r1 r2 r3 r4 r5 r6 r7 r8 r9 r10
              go_wp2_with fail
              go_roundw
              case rel => exact ⟨a + 1, by omega, by go_num, Lib.hid (by rw [← HE.out]; exact HD.out)⟩
              case measure => simp [intOf]; omega
        · obtain rfl : a = M.nt := by omega
          have e2 : decide ((M.nt : Int) < (M.nt : Int)) = false := by simp
          have HZ : Hid (RefAt wb (M.fenced t)) := Lib.hid (by rw [HF.out, HRn.out.2.1]; exact HC.out.1)
          go_wp2_with fail
          go_loop [13] (fun i => ∃ q : Nat, q ≤ 8 * M.n ∧ i = .int .i64 q) (fun i => 8 * M.n - (intOf i).toNat)
          case atStart => exact ⟨0, Nat.zero_le _, rfl⟩
          case round =>
            obtain ⟨q, hq, rfl⟩ := hrel
            obtain ⟨N, hN⟩ : ∃ N, N = 8 * M.n := ⟨_, rfl⟩
            rw [← hN] at y1 hq ⊢
            have hN2 : N ≤ 2097152 := by omega
            clear hN
            by_cases hqn : q < N
            · have e3 : decide ((q : Int) < (N : Int)) = true := bool_yes (by omega)
              go_wp2_with fail
              go_round
              case rel => exact ⟨q + 1, by omega, by go_num⟩
              case measure => simp [intOf]; omega
            · obtain rfl : q = N := by omega
              have e3 : decide ((q : Int) < (q : Int)) = false := by simp
              go_wp2_with fail
              go_ret
              exact ⟨rfl, HZ.out, HC.out.2⟩
end Go.Proofs.Ytpmjcinemabamaa
