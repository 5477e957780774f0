/- Layer 6 (layout): where everything lies.
   Layer 7: peek, put and count, over a memory as a whole.
   Layer 7: an access to a word. -/
import Derived.Test.YtibelcmdfkgonaaGreatK2
import Derived.Test.YtibelcmdfkgonaaGreatK3
import Derived.Test.YtibelcmdfkgonaaGreatK4
namespace Go.Proofs.YtibelcmdfkgonaaGreat
open Go.RowKit Go.BigFrame
set_option linter.unusedVariables false
set_option linter.unusedSimpArgs false
/-- A layout's numbers. -/
structure Lv where
  th : Int
  sl : Int
  lo : Int
  bu : Int
  pt : Int
  pl : Int
  ls : Int
  ps : Int
  ln : Int
structure Lv.Ok (v : Lv) : Prop where
  th0 : 0 ≤ v.th
  th1 : v.th ≤ 64
  sl0 : 0 ≤ v.sl
  sl1 : v.sl ≤ 65536
  lo0 : 0 ≤ v.lo
  lo1 : v.lo ≤ 64
  bu0 : 0 ≤ v.bu
  bu1 : v.bu ≤ 64
  pt0 : 0 ≤ v.pt
  pt1 : v.pt ≤ 100
  pl0 : 0 ≤ v.pl
  pl1 : v.pl ≤ 200
  ls0 : 0 ≤ v.ls
  ls1 : v.ls ≤ 8
  ps0 : 0 ≤ v.ps
  ps1 : v.ps ≤ 1000
  ln0 : 0 ≤ v.ln
  ln1 : v.ln ≤ 100000
/-- A layout in memory. -/
structure LayAt (W : World) (l : Nat) (v : Lv) : Prop where
  row : W.heap[l]? = some (.cells #[.int .i64 v.th, .int .i64 v.sl, .int .i64 v.lo, .int .i64 v.bu, .int .i64 v.pt, .int .i64 v.pl, .int .i64 v.ls, .int .i64 v.ps, .int .i64 v.ln] 207 (0, 0))
  ok : v.Ok
theorem LayAt.lt {W : World} {l : Nat} {v : Lv} (h : LayAt W l v) : l < W.heap.size := (Array.getElem?_eq_some_iff.1 h.row).1
theorem LayAt.keep {W W' : World} {l : Nat} {v : Lv} (h : LayAt W l v) (e : W'.heap[l]? = W.heap[l]?) : LayAt W' l v := ⟨e.trans h.row, h.ok⟩
theorem LayAt.below {W W' : World} {l B : Nat} {v : Lv} (h : LayAt W l v) (hb : Below B W W') (hB : l < B) : LayAt W' l v := h.keep (hb.block l hB)

theorem config70 (l : Nat) (v : Lv) (w : World) (h : LayAt w l v) : Calls Tryz.prog 70 #[.pointer (some ⟨l, 0, none⟩)] w (Gives (.agg #[.int .i64 v.th, .int .i64 v.sl, .int .i64 v.lo, .int .i64 v.bu]) w) := by
  have hl := h.lt
  have hne : l ≠ w.heap.size := by omega
  have hne2 : w.heap.size ≠ l := by omega
  obtain ⟨l0, l1, l2, l3, l4, l5, l6, l7, l8, lf⟩ := row_9 h.row
  obtain ⟨th, sl, lo, bu, pt, pl, ls, ps, ln⟩ := v
  obtain ⟨th0, th1, sl0, sl1, lo0, lo1, bu0, bu1, pt0, pt1, pl0, pl1, ls0, ls1, ps0, ps1, ln0, ln1⟩ := h.ok
  simp only at *
  clear h
  go_enter Tryz.func70, Tryz.ntmps70
  go_wp2_with fail
  have hh := heap_alloc_new w (.cells #[.int .i64 th, .int .i64 sl, .int .i64 lo, .int .i64 bu] 23)
  have z0 := cell_of_row _ _ 0 _ _ _ hh
  have z1 := cell_of_row _ _ 1 _ _ _ hh
  have z2 := cell_of_row _ _ 2 _ _ _ hh
  have z3 := cell_of_row _ _ 3 _ _ _ hh
  refine bodyPost_ret (v := .agg #[.int .i64 th, .int .i64 sl, .int .i64 lo, .int .i64 bu]) (by simp [results, Tryz.results70, go_sem, z0, z1, z2, z3]) rfl ⟨rfl, (Below.refl _ _).alloc (Nat.le_refl _) _⟩
theorem lines80 (l : Nat) (v : Lv) (w : World) (h : LayAt w l v) : Calls Tryz.prog 80 #[.pointer (some ⟨l, 0, none⟩)] w (Says (.int .i64 v.ln) w) := by
  have hl := h.lt
  have hne : l ≠ w.heap.size := by omega
  have hne2 : w.heap.size ≠ l := by omega
  obtain ⟨l0, l1, l2, l3, l4, l5, l6, l7, l8, lf⟩ := row_9 h.row
  obtain ⟨th, sl, lo, bu, pt, pl, ls, ps, ln⟩ := v
  obtain ⟨th0, th1, sl0, sl1, lo0, lo1, bu0, bu1, pt0, pt1, pl0, pl1, ls0, ls1, ps0, ps1, ln0, ln1⟩ := h.ok
  simp only at *
  clear h
  go_enter Tryz.func80, Tryz.ntmps80
  go_wp2_with fail
  go_ret
  exact ⟨rfl, rfl⟩
theorem line131 (l : Nat) (n : Int) (h0 : 0 ≤ n) (h1 : n ≤ 1000000) (w : World) : Calls Tryz.prog 131 #[.pointer (some ⟨l, 0, none⟩), .int .i64 n] w (Says (.int .i64 (n * 8)) w) := by
  go_enter Tryz.func131, Tryz.ntmps131
  go_wp2_with fail
  go_ret
  exact ⟨rfl, rfl⟩

theorem head69 (l : Nat) (w : World) : Calls Tryz.prog 69 #[.pointer (some ⟨l, 0, none⟩)] w (Says (.int .i64 16) w) := by
  have HL := Lib.hid fun w => line131 l 2 (by omega) (by omega) w
  go_enter Tryz.func69, Tryz.ntmps69
  go_wp2_with fail
  refine (HL.out _).mono ?_
  rintro e w1 ⟨rfl, rfl⟩
  go_wp2_with fail
  go_ret
  exact ⟨rfl, rfl⟩
theorem set133 (l : Nat) (w : World) : Calls Tryz.prog 133 #[.pointer (some ⟨l, 0, none⟩)] w (Says (.int .i64 32) w) := by
  have HL := Lib.hid fun w => line131 l 4 (by omega) (by omega) w
  go_enter Tryz.func133, Tryz.ntmps133
  go_wp2_with fail
  refine (HL.out _).mono ?_
  rintro e w1 ⟨rfl, rfl⟩
  go_wp2_with fail
  go_ret
  exact ⟨rfl, rfl⟩
theorem tail160 (l : Nat) (w : World) : Calls Tryz.prog 160 #[.pointer (some ⟨l, 0, none⟩)] w (Says (.int .i64 24) w) := by
  have HL := Lib.hid fun w => line131 l 3 (by omega) (by omega) w
  go_enter Tryz.func160, Tryz.ntmps160
  go_wp2_with fail
  refine (HL.out _).mono ?_
  rintro e w1 ⟨rfl, rfl⟩
  go_wp2_with fail
  go_ret
  exact ⟨rfl, rfl⟩
def hasB (n m : Int) : Bool := decide (0 ≤ n ∧ n < m)
theorem has223 (n m : Int) (w : World) : Calls Tryz.prog 223 #[.int .i64 n, .int .i64 m] w (Says (.bool (hasB n m)) w) := by
  by_cases h : 0 ≤ n
  · have d1 : decide (0 ≤ n) = true := bool_yes h
    have e : hasB n m = decide (n < m) := by simp [hasB, h]
    rw [e]
    go_enter Tryz.func223, Tryz.ntmps223
    go_wp2_with fail
    go_ret
    exact ⟨rfl, rfl⟩
  · have d1 : decide (0 ≤ n) = false := bool_no h
    have e : hasB n m = false := by simp [hasB, h]
    rw [e]
    go_enter Tryz.func223, Tryz.ntmps223
    go_wp2_with fail
    go_ret
    exact ⟨rfl, rfl⟩
/-- A line's word, or that behind all. -/
def Lv.word (v : Lv) (n many first size at_ : Int) : Int := if hasB n many then (first + size * n) * 8 + at_ else v.ln * 8
theorem word229_yes (l : Nat) (v : Lv) (n many first size at_ : Int) (hh : hasB n many = true) (hm : many ≤ 100000) (f0 : 0 ≤ first) (f1 : first ≤ 100000) (s0 : 0 ≤ size) (s1 : size ≤ 8) (a0 : 0 ≤ at_) (a1 : at_ ≤ 100) (w : World) (h : LayAt w l v) :
    Calls Tryz.prog 229 #[.pointer (some ⟨l, 0, none⟩), .int .i64 n, .int .i64 many, .int .i64 first, .int .i64 size, .int .i64 at_] w (Says (.int .i64 ((first + size * n) * 8 + at_)) w) := by
  have HH : Hid (∀ w, Calls Tryz.prog 223 #[.int .i64 n, .int .i64 many] w (Says (.bool true) w)) := Lib.hid fun w => by rw [← hh]; exact has223 n many w
  have hn : 0 ≤ n ∧ n < many := by simpa [hasB] using hh
  obtain ⟨n0, n1⟩ := hn
  have m0 : 0 ≤ size * n := Int.mul_nonneg s0 n0
  have m1 : size * n ≤ 800000 := by
    have := Int.mul_le_mul s1 (show n ≤ 100000 by omega) n0 (by omega)
    omega
  clear hh h
  go_enter Tryz.func229, Tryz.ntmps229
  go_wp2_with fail
  refine (HH.out _).mono ?_
  rintro e w1 ⟨rfl, rfl⟩
  go_wp2_with fail
  go_ret
  exact ⟨rfl, rfl⟩
theorem word229_no (l : Nat) (v : Lv) (n many first size at_ : Int) (hh : hasB n many = false) (w : World) (h : LayAt w l v) :
    Calls Tryz.prog 229 #[.pointer (some ⟨l, 0, none⟩), .int .i64 n, .int .i64 many, .int .i64 first, .int .i64 size, .int .i64 at_] w (Says (.int .i64 (v.ln * 8)) w) := by
  have HH : Hid (∀ w, Calls Tryz.prog 223 #[.int .i64 n, .int .i64 many] w (Says (.bool false) w)) := Lib.hid fun w => by rw [← hh]; exact has223 n many w
  have HL := Lib.hid (lines80 l v w h)
  obtain ⟨n0, n1⟩ := (show 0 ≤ v.ln ∧ v.ln ≤ 100000 from ⟨h.ok.ln0, h.ok.ln1⟩)
  clear hh h
  generalize v.ln = ln at *
  go_enter Tryz.func229, Tryz.ntmps229
  go_wp2_with fail
  refine (HH.out _).mono ?_
  rintro e w1 ⟨rfl, rfl⟩
  go_wp2_with fail
  refine (HL.out).mono ?_
  rintro e w1 ⟨rfl, rfl⟩
  go_wp2_with fail
  go_ret
  exact ⟨rfl, rfl⟩
theorem word229 (l : Nat) (v : Lv) (n many first size at_ : Int) (hm : many ≤ 100000) (f0 : 0 ≤ first) (f1 : first ≤ 100000) (s0 : 0 ≤ size) (s1 : size ≤ 8) (a0 : 0 ≤ at_) (a1 : at_ ≤ 100) (w : World) (h : LayAt w l v) :
    Calls Tryz.prog 229 #[.pointer (some ⟨l, 0, none⟩), .int .i64 n, .int .i64 many, .int .i64 first, .int .i64 size, .int .i64 at_] w (Says (.int .i64 (v.word n many first size at_)) w) := by
  unfold Lv.word
  cases hh : hasB n many with
  | true => exact word229_yes l v n many first size at_ hh hm f0 f1 s0 s1 a0 a1 w h
  | false => exact word229_no l v n many first size at_ hh w h
def Lv.slot (v : Lv) (s at_ : Int) : Int := v.word s v.sl v.ps 1 at_
theorem slot141 (l : Nat) (v : Lv) (s at_ : Int) (a0 : 0 ≤ at_) (a1 : at_ ≤ 100) (w : World) (h : LayAt w l v) :
    Calls Tryz.prog 141 #[.pointer (some ⟨l, 0, none⟩), .int .i64 s, .int .i64 at_] w (Drew (.int .i64 (v.slot s at_)) w) := by
  have HW : Hid (∀ w, LayAt w l v → Calls Tryz.prog 229 #[.pointer (some ⟨l, 0, none⟩), .int .i64 s, .int .i64 v.sl, .int .i64 v.ps, .int .i64 1, .int .i64 at_] w (Says (.int .i64 (v.slot s at_)) w)) := Lib.hid fun w h =>
    word229 l v s v.sl v.ps 1 at_ (by have := h.ok.sl1; omega) h.ok.ps0 (by have := h.ok.ps1; omega) (by omega) (by omega) a0 a1 w h
  have HL := Lib.hid h
  obtain ⟨l0, l1, l2, l3, l4, l5, l6, l7, l8, lf⟩ := row_9 h.row
  clear h
  generalize v.slot s at_ = r at *
  generalize v.sl = sl at *
  generalize v.ps = ps at *
  go_enter Tryz.func141, Tryz.ntmps141
  go_wp2_with fail
  go_quiet ((go_at_call 229; exact Calls.quiet_of_same (HW.out _ (HL.out.keep rfl))))
  go_wp2_with fail
  go_ret
  exact ⟨rfl, _, rfl⟩

theorem key75 (l : Nat) (v : Lv) (s : Int) (w : World) (h : LayAt w l v) : Calls Tryz.prog 75 #[.pointer (some ⟨l, 0, none⟩), .int .i64 s] w (Drew (.int .i64 (v.slot s 1)) w) := by
  have HS := Lib.hid (slot141 l v s 1 (by omega) (by omega) w h)
  clear h
  go_enter Tryz.func75, Tryz.ntmps75
  go_wp2_with fail
  refine HS.out.mono ?_
  rintro e w1 ⟨rfl, n, rfl⟩
  go_wp2_with fail
  go_ret
  exact ⟨rfl, n, rfl⟩
theorem val77 (l : Nat) (v : Lv) (s : Int) (w : World) (h : LayAt w l v) : Calls Tryz.prog 77 #[.pointer (some ⟨l, 0, none⟩), .int .i64 s] w (Drew (.int .i64 (v.slot s 2)) w) := by
  have HS := Lib.hid (slot141 l v s 2 (by omega) (by omega) w h)
  clear h
  go_enter Tryz.func77, Tryz.ntmps77
  go_wp2_with fail
  refine HS.out.mono ?_
  rintro e w1 ⟨rfl, n, rfl⟩
  go_wp2_with fail
  go_ret
  exact ⟨rfl, n, rfl⟩
theorem next79 (l : Nat) (v : Lv) (s : Int) (w : World) (h : LayAt w l v) : Calls Tryz.prog 79 #[.pointer (some ⟨l, 0, none⟩), .int .i64 s] w (Drew (.int .i64 (v.slot s 3)) w) := by
  have HS := Lib.hid (slot141 l v s 3 (by omega) (by omega) w h)
  clear h
  go_enter Tryz.func79, Tryz.ntmps79
  go_wp2_with fail
  refine HS.out.mono ?_
  rintro e w1 ⟨rfl, n, rfl⟩
  go_wp2_with fail
  go_ret
  exact ⟨rfl, n, rfl⟩
theorem tag245 (l : Nat) (v : Lv) (s : Int) (w : World) (h : LayAt w l v) : Calls Tryz.prog 245 #[.pointer (some ⟨l, 0, none⟩), .int .i64 s] w (Drew (.int .i64 (v.slot s 4)) w) := by
  have HS := Lib.hid (slot141 l v s 4 (by omega) (by omega) w h)
  clear h
  go_enter Tryz.func245, Tryz.ntmps245
  go_wp2_with fail
  refine HS.out.mono ?_
  rintro e w1 ⟨rfl, n, rfl⟩
  go_wp2_with fail
  go_ret
  exact ⟨rfl, n, rfl⟩
theorem gen370 (l : Nat) (v : Lv) (s : Int) (w : World) (h : LayAt w l v) : Calls Tryz.prog 370 #[.pointer (some ⟨l, 0, none⟩), .int .i64 s] w (Drew (.int .i64 (v.slot s 0)) w) := by
  have HS := Lib.hid (slot141 l v s 0 (by omega) (by omega) w h)
  clear h
  go_enter Tryz.func370, Tryz.ntmps370
  go_wp2_with fail
  refine HS.out.mono ?_
  rintro e w1 ⟨rfl, n, rfl⟩
  go_wp2_with fail
  go_ret
  exact ⟨rfl, n, rfl⟩
end Go.Proofs.YtibelcmdfkgonaaGreat

namespace Go.Proofs.YtibelcmdfkgonaaGreat
open Go.RowKit Go.BigFrame
set_option linter.unusedVariables false
set_option linter.unusedSimpArgs false
/-- That no two blocks are one. -/
structure Mv.Ne (M : Mv) : Prop where
  md : M.m ≠ M.d
  mkb : M.m ≠ M.kb
  ms : M.m ≠ M.sb
  mw : M.m ≠ M.wb
  mf : M.m ≠ M.fb
  mp : M.m ≠ M.pb
  dk : M.d ≠ M.kb
  ds : M.d ≠ M.sb
  dw : M.d ≠ M.wb
  df : M.d ≠ M.fb
  dp : M.d ≠ M.pb
  ks : M.kb ≠ M.sb
  kw : M.kb ≠ M.wb
  kf : M.kb ≠ M.fb
  kp : M.kb ≠ M.pb
  sw : M.sb ≠ M.wb
  sf : M.sb ≠ M.fb
  sp : M.sb ≠ M.pb
  wf : M.wb ≠ M.fb
  wp : M.wb ≠ M.pb
  fp : M.fb ≠ M.pb
theorem MemAt.ne {W : World} {M : Mv} (h : MemAt W M) : M.Ne := by
  have := h.apart
  simp only [Mv.blocks, List.nodup_cons, List.mem_cons, List.not_mem_nil, or_false, not_or, List.nodup_nil, and_true, not_false_eq_true] at this
  obtain ⟨⟨a1, a2, a3, a4, a5, a6⟩, ⟨b1, b2, b3, b4, b5⟩, ⟨c1, c2, c3, c4⟩, ⟨d1, d2, d3⟩, ⟨e1, e2⟩, f1⟩ := this
  exact ⟨a1, a2, a3, a4, a5, a6, b1, b2, b3, b4, b5, c1, c2, c3, c4, d1, d2, d3, e1, e2, f1⟩
/-- A turned block that is no flush list. -/
theorem MemAt.fl_set {W : World} {M : Mv} (h : MemAt W M) {b : Nat} (hb : b ∈ M.blocks) (j : Nat) (v : Value) (t : Nat) (ht : t < M.nt) : LstAt (W.setCell ⟨b, j, none⟩ v) (M.fv t) (M.fl t) :=
  (h.fl t ht).keep fun g hg => heap_set_other fun e => h.alone t ht g hg (e ▸ hb)
theorem MemAt.set_seen {W : World} {M : Mv} (h : MemAt W M) (k : Nat) (v : Int) : MemAt (W.setCell ⟨M.sb, k, none⟩ (.int .u64 v)) { M with seen := upd M.seen k v } := by
  have n := h.ne
  exact { h with
    row := (heap_set_other n.ms).trans h.row
    dev := (heap_set_other n.ds).trans h.dev
    kept := h.kept.keep (heap_set_other n.ks)
    seen := by
      have := h.seen.set k (.int .u64 v)
      simp only [upd_map]; exact this
    wr := h.wr.keep (heap_set_other (Ne.symm n.sw))
    fb := h.fb.keep (heap_set_other (Ne.symm n.sf))
    pass := h.pass.keep (heap_set_other (Ne.symm n.sp))
    fl := fun t ht => h.fl_set (by simp [Mv.blocks]) _ _ t ht }
theorem MemAt.set_pass {W : World} {M : Mv} (h : MemAt W M) (k : Nat) (v : Int) : MemAt (W.setCell ⟨M.pb, k, none⟩ (.int .u64 v)) { M with pass := upd M.pass k v } := by
  have n := h.ne
  exact { h with
    row := (heap_set_other n.mp).trans h.row
    dev := (heap_set_other n.dp).trans h.dev
    kept := h.kept.keep (heap_set_other n.kp)
    seen := h.seen.keep (heap_set_other n.sp)
    wr := h.wr.keep (heap_set_other n.wp)
    fb := h.fb.keep (heap_set_other n.fp)
    pass := by
      have := h.pass.set k (.int .u64 v)
      simp only [upd_map]; exact this
    fl := fun t ht => h.fl_set (by simp [Mv.blocks]) _ _ t ht }
/-- An access is noted. -/
def Mv.note (M : Mv) (x : Acc) (is : Bool) : Mv := { M with ck := M.ck + 1, bd := if is then M.bd else M.bd + 1, la := x }
theorem MemAt.note {W W' : World} {M : Mv} (h : MemAt W M) (x : Acc) (is : Bool) (hr : MemRow W' M.m (.pointer (some ⟨M.d, 0, none⟩)) (.slice (some ⟨M.pb, 0, none⟩) M.np M.c4) (M.ck + 1) (if is then M.bd else M.bd + 1) x) (hb : But M.m W W') : MemAt W' (M.note x is) := by
  have n := h.ne
  have o : ∀ k, M.own k → k ≠ M.m → W'.heap[k]? = W.heap[k]? := fun k hk e => hb.block k (h.lt hk) e
  have i : ∀ k, k ∈ M.blocks → M.own k := fun k hk => Or.inl hk
  exact { h with
    row := hr
    dev := (o _ (i _ (by simp [Mv.blocks])) (Ne.symm n.md)).trans h.dev
    kept := h.kept.keep (o _ (i _ (by simp [Mv.blocks])) (Ne.symm n.mkb))
    seen := h.seen.keep (o _ (i _ (by simp [Mv.blocks])) (Ne.symm n.ms))
    wr := h.wr.keep (o _ (i _ (by simp [Mv.blocks])) (Ne.symm n.mw))
    fb := h.fb.keep (o _ (i _ (by simp [Mv.blocks])) (Ne.symm n.mf))
    pass := h.pass.keep (o _ (i _ (by simp [Mv.blocks])) (Ne.symm n.mp))
    fl := fun t ht => (h.fl t ht).keep fun g hg => o g (Or.inr ⟨t, ht, hg⟩) fun e => h.alone t ht g hg (by rw [e]; simp [Mv.blocks])
    ck0 := by have := h.ck0; simp only [Mv.note]; omega
    bd0 := by have := h.bd0; simp only [Mv.note]; split <;> omega
    bd1 := by have := h.bd1; simp only [Mv.note]; split <;> omega }
theorem MemAt.words {W : World} {M : Mv} (h : MemAt W M) : WordsAt W M.m M.d M.sb M.n M.c1 (some ⟨M.pb, 0, none⟩) M.np M.c4 M.seen M.pass where
  dv := by have := (row10 h.row).1; exact this
  ps := (row10 h.row).2.1
  sn := by rw [cell_of_row _ _ 1 _ _ _ h.dev]; rfl
  sw := fun k hk => h.seen.cell (by omega)
  pw := fun _ => ⟨M.pb, rfl, fun k hk => h.pass.cell hk⟩
/-- What is at a word, and whether there is one. -/
def Mv.peek (M : Mv) (at_ : Int) : Int × Bool := peekV M.n M.np M.seen M.pass at_
theorem peekM (M : Mv) (at_ : Int) (q0 : -9223372036854775808 ≤ at_) (q1 : at_ ≤ 9223372036854775807) (W : World) (h : MemAt W M) :
    Calls Tryz.prog 94 #[.pointer (some ⟨M.m, 0, none⟩), .int .i64 at_] W (Tells (.tuple #[.int .u64 (M.peek at_).1, .bool (M.peek at_).2]) W) :=
  peek29 M.m M.d M.sb M.n M.c1 h.n1 _ M.np M.c4 h.p1 M.seen M.pass at_ q0 q1 W h.words
/-- A word put. -/
def Mv.put (M : Mv) (at_ v : Int) : Mv := if 0 ≤ at_ then { M with seen := upd M.seen at_.toNat v } else { M with pass := upd M.pass (-1 - at_).toNat v }
theorem Mv.put_own (M : Mv) (at_ v : Int) : (M.put at_ v).own = M.own := by unfold Mv.put; split <;> rfl
theorem Mv.put_m (M : Mv) (at_ v : Int) : (M.put at_ v).m = M.m := by unfold Mv.put; split <;> rfl
theorem Mv.put_d (M : Mv) (at_ v : Int) : (M.put at_ v).d = M.d := by unfold Mv.put; split <;> rfl
theorem Mv.put_ck (M : Mv) (at_ v : Int) : (M.put at_ v).ck = M.ck := by unfold Mv.put; split <;> rfl
theorem Mv.put_bd (M : Mv) (at_ v : Int) : (M.put at_ v).bd = M.bd := by unfold Mv.put; split <;> rfl
/-- It ends; the memory is as told; nothing else has turned. -/
def Done (M M' : Mv) (W : World) (e : Ending) (W' : World) : Prop := (∃ x, e = .returned x) ∧ MemAt W' M' ∧ Turn M.own W W'
theorem putM (M : Mv) (at_ v : Int) (W : World) (h : MemAt W M) (hp : (M.peek at_).2 = true) :
    Calls Tryz.prog 221 #[.pointer (some ⟨M.m, 0, none⟩), .int .i64 at_, .int .u64 v] W (Done M (M.put at_ v) W) := by
  unfold Mv.peek peekV at hp
  by_cases h0 : 0 ≤ at_
  · rw [if_pos h0] at hp
    have h1 : at_ / 8 < (M.n : Int) := by by_cases q : at_ / 8 < (M.n : Int) <;> simp [q] at hp ⊢
    have e : ((at_.toNat : Nat) : Int) = at_ := by omega
    have := put72_seen M.m M.d M.sb M.n M.c1 h.n1 _ M.np M.c4 M.seen M.pass at_.toNat (by omega) v W h.words h.seen.free
    rw [e] at this
    refine this.mono ?_
    rintro e' W' ⟨hx, w1, hh, hb, rfl⟩
    have h1' : MemAt w1 M := h.below hb
    refine ⟨hx, ?_, (Turn.of_below hb).set (fun _ => Or.inl (by simp [Mv.blocks])) _ _⟩
    unfold Mv.put; rw [if_pos h0]
    exact h1'.set_seen _ _
  · rw [if_neg h0] at hp
    have h1 : -1 - at_ < (M.np : Int) := by by_cases q : -1 - at_ < (M.np : Int) <;> simp [q] at hp ⊢
    have e : (-1 - ((-1 - at_).toNat : Int)) = at_ := by omega
    have := put72_pass M.m M.d M.sb M.n M.c1 M.pb M.np M.c4 h.p1 M.seen M.pass (-1 - at_).toNat (by omega) v W h.words h.pass.free
    rw [e] at this
    refine this.mono ?_
    rintro e' W' ⟨hx, w1, hh, hb, rfl⟩
    have h1' : MemAt w1 M := h.below hb
    refine ⟨hx, ?_, (Turn.of_below hb).set (fun _ => Or.inl (by simp [Mv.blocks])) _ _⟩
    unfold Mv.put; rw [if_neg h0]
    exact h1'.set_pass _ _
theorem countM (M : Mv) (x : Acc) (is : Bool) (W : World) (h : MemAt W M) (hc : M.ck ≤ 1000000) :
    Calls Tryz.prog 222 #[.pointer (some ⟨M.m, 0, none⟩), .agg x.cells, .bool is] W (Done M (M.note x is) W) := by
  have := h.bd1
  refine (count73 M.m _ _ M.ck M.bd h.ck0 hc h.bd0 (by omega) M.la x is W h.row).mono ?_
  rintro e W' ⟨hx, hr, hb⟩
  exact ⟨hx, h.note x is hr hb, Turn.of_but hb fun _ => Or.inl (by simp [Mv.blocks])⟩
theorem lineM (M : Mv) (x : Acc) (er : Int) (W : World) (h : MemAt W M) (hc : M.ck ≤ 1000000) :
    Calls Tryz.prog 213 #[.pointer (some ⟨M.m, 0, none⟩), .agg x.cells, .int .i64 er] W (Done M (M.note ⟨x.ki, x.th, x.pl, x.ol, x.ne, er == 0⟩ (er == 0)) W) := by
  have := h.bd1
  refine (line56 M.m _ _ M.ck M.bd h.ck0 hc h.bd0 (by omega) M.la x er W h.row).mono ?_
  rintro e W' ⟨hx, hr, hb⟩
  exact ⟨hx, h.note _ _ hr hb, Turn.of_but hb fun _ => Or.inl (by simp [Mv.blocks])⟩
end Go.Proofs.YtibelcmdfkgonaaGreat

namespace Go.Proofs.YtibelcmdfkgonaaGreat
open Go.RowKit Go.BigFrame
set_option linter.unusedVariables false
set_option linter.unusedSimpArgs false
/-- What an access to a word answers, and what it leaves. -/
def Mv.res (M : Mv) (x : Acc) (pu : Bool) : Acc := if (M.peek x.pl).2 then ⟨x.ki, x.th, x.pl, (M.peek x.pl).1, x.ne, pu || x.ki == 1⟩ else x
def Mv.did (M : Mv) (x : Acc) (nw : Int) (pu : Bool) : Mv := (if (M.peek x.pl).2 && pu then M.put x.pl nw else M).note (M.res x pu) (M.peek x.pl).2
/-- It answers a struct; the memory is as told; nothing else has turned. -/
def DoneV (M M' : Mv) (v : Value) (W : World) (e : Ending) (W' : World) : Prop := e = .returned v ∧ MemAt W' M' ∧ Turn M.own W W'
theorem row6 {W : World} {b : Nat} {k0 k1 k2 k3 k4 k5 : Value} {t : TypeId} (h : W.heap[b]? = some (.cells #[k0, k1, k2, k3, k4, k5] t (0, 0))) :
    W.cell? ⟨b, 0, none⟩ = some k0 ∧ W.cell? ⟨b, 1, none⟩ = some k1 ∧ W.cell? ⟨b, 2, none⟩ = some k2 ∧ W.cell? ⟨b, 3, none⟩ = some k3 ∧ W.cell? ⟨b, 4, none⟩ = some k4 ∧ W.cell? ⟨b, 5, none⟩ = some k5 ∧ ∀ j, W.frozen? ⟨b, j, none⟩ = false := by
  refine ⟨?_, ?_, ?_, ?_, ?_, ?_, fun j => ?_⟩
  all_goals first | (rw [cell_of_row _ _ _ _ _ _ h]; rfl) | (unfold World.frozen?; rw [h]; simp)
theorem two_new (W : World) (a b : Obj) : ((W.alloc a).alloc b).heap[W.heap.size]? = some a ∧ ((W.alloc a).alloc b).heap[W.heap.size + 1]? = some b := by
  constructor
  · rw [Below.heap_alloc _ _ _ (by simp)]; exact heap_alloc_new W a
  · have := heap_alloc_new (W.alloc a) b; simpa using this
theorem two_news {W w : World} {a b : Obj} (h : w.heap = ((W.alloc a).alloc b).heap) : w.heap[W.heap.size]? = some a ∧ w.heap[W.heap.size + 1]? = some b := by
  rw [h]; exact two_new W a b
theorem cell_set_at {w : World} {b j : Nat} {u : Value} (v : Value) (h : w.cell? ⟨b, j, none⟩ = some u) : (w.setCell ⟨b, j, none⟩ v).cell? ⟨b, j, none⟩ = some v := by
  unfold World.cell? at h
  split at h
  · rename_i c t f e
    simp at h
    have hl : j < c.size := (Array.getElem?_eq_some_iff.1 h).1
    rw [cell_of_row _ _ j _ _ _ (heap_set v e)]
    simp [hl]
  · cases h
theorem six_sets {F : Nat → Prop} {a w : World} (h : Turn F a w) {b : Nat} (hb : a.heap.size ≤ b) (v0 v1 v2 v3 v4 v5 : Value) :
    Turn F a ((((((w.setCell ⟨b, 0, none⟩ v0).setCell ⟨b, 1, none⟩ v1).setCell ⟨b, 2, none⟩ v2).setCell ⟨b, 3, none⟩ v3).setCell ⟨b, 4, none⟩ v4).setCell ⟨b, 5, none⟩ v5) := by
  have e : b < a.heap.size → F b := fun x => by omega
  exact ((((((h.set e _ _).set e _ _).set e _ _).set e _ _).set e _ _).set e _ _)
theorem MemAt.six {w : World} {M : Mv} (h : MemAt w M) {b : Nat} (hb : ¬ M.own b) (v0 v1 v2 v3 v4 v5 : Value) :
    MemAt ((((((w.setCell ⟨b, 0, none⟩ v0).setCell ⟨b, 1, none⟩ v1).setCell ⟨b, 2, none⟩ v2).setCell ⟨b, 3, none⟩ v3).setCell ⟨b, 4, none⟩ v4).setCell ⟨b, 5, none⟩ v5) M := by
  refine h.keep fun k hk => ?_
  have e : k ≠ b := fun e => hb (e ▸ hk)
  rw [heap_set_other e, heap_set_other e, heap_set_other e, heap_set_other e, heap_set_other e, heap_set_other e]
theorem six_row {w : World} {b : Nat} {k0 k1 k2 k3 k4 k5 : Value} {t : TypeId} {f : Nat × Nat} (h : w.heap[b]? = some (.cells #[k0, k1, k2, k3, k4, k5] t f)) (v0 v1 v2 v3 v4 v5 : Value) :
    ((((((w.setCell ⟨b, 0, none⟩ v0).setCell ⟨b, 1, none⟩ v1).setCell ⟨b, 2, none⟩ v2).setCell ⟨b, 3, none⟩ v3).setCell ⟨b, 4, none⟩ v4).setCell ⟨b, 5, none⟩ v5).heap[b]? = some (.cells #[v0, v1, v2, v3, v4, v5] t f) := by
  rw [heap_set v5 (heap_set v4 (heap_set v3 (heap_set v2 (heap_set v1 (heap_set v0 h)))))]
  rfl
/-- A function whose result is an access in memory. -/
theorem results_acc {fn : Func} {s : Nat} (hf : fn.results = #[.cell s 134]) {tmps : Array Value} {b : Nat} (ht : tmps.getD s undef = .pointer (some ⟨b, 0, none⟩)) {w : World} {v0 v1 v2 v3 v4 v5 : Value}
    (h : w.heap[b]? = some (.cells #[v0, v1, v2, v3, v4, v5] 134 (0, 0))) : (results fn tmps).run Tryz.prog w = .ok (.agg #[v0, v1, v2, v3, v4, v5]) w := by
  obtain ⟨z0, z1, z2, z3, z4, z5, zf⟩ := row6 h
  have ht' : tmps[s]?.getD undef = .pointer (some ⟨b, 0, none⟩) := by simpa using ht
  simp only [results, hf]
  simp [go_sem, ht', z0, z1, z2, z3, z4, z5]
theorem MemAt.not_own {W : World} {M : Mv} (h : MemAt W M) {k : Nat} (hk : W.heap.size ≤ k) : ¬ M.own k := fun e => by have := h.lt e; omega
set_option maxRecDepth 100000 in
theorem word52_no (M : Mv) (x : Acc) (fv : Value) (W : World) (h : MemAt W M) (hc : M.ck ≤ 1000000) (q0 : -9223372036854775808 ≤ x.pl) (q1 : x.pl ≤ 9223372036854775807) (hp : (M.peek x.pl).2 = false) :
    Calls Tryz.prog 127 #[.pointer (some ⟨M.m, 0, none⟩), .agg x.cells, fv] W (DoneV M (M.note x false) (.agg x.cells) W) := by
  have HM := Lib.hid h
  have HP : Hid (∀ w, MemAt w M → Calls Tryz.prog 94 #[.pointer (some ⟨M.m, 0, none⟩), .int .i64 x.pl] w (Tells (.tuple #[.int .u64 (M.peek x.pl).1, .bool false]) w)) := Lib.hid fun w hw => by have := peekM M x.pl q0 q1 w hw; rw [hp] at this; exact this
  have HC : Hid (∀ w, MemAt w M → Calls Tryz.prog 222 #[.pointer (some ⟨M.m, 0, none⟩), .agg x.cells, .bool false] w (Done M (M.note x false) w)) := Lib.hid fun w hw => countM M x false w hw hc
  clear h hp
  generalize (M.peek x.pl).1 = o at *
  obtain ⟨N, hN⟩ : ∃ N, N = M.note x false := ⟨_, rfl⟩
  have HN : Hid (∀ k, N.own k → M.own k) := Lib.hid fun k hk => by rw [hN] at hk; exact hk
  rw [← hN] at HC ⊢
  clear hN
  obtain ⟨ki, th, pl, ol, ne, dn⟩ := x
  simp only [Acc.cells] at *
  go_enter Tryz.func127, Tryz.ntmps127
  go_wp2_with fail
  refine (HP.out _ (HM.out.below (((Below.refl _ _).alloc (Nat.le_refl _) _).alloc (by simp) _))).mono ?_
  rintro e w1 ⟨rfl, hb, hh⟩
  have HH := Lib.hid hh
  obtain ⟨ra, rr⟩ := two_news hh
  obtain ⟨a0, a1, a2, a3, a4, a5, af⟩ := row6 ra
  obtain ⟨r0, r1, r2, r3, r4, r5, rf⟩ := row6 rr
  have HB : Hid (Below W.heap.size W w1) := Lib.hid ((((Below.refl _ _).alloc (Nat.le_refl _) _).alloc (by simp) _).trans (hb.mono (by simp; omega)))
  have HS : Hid (W.heap.size + 1 < w1.heap.size) := Lib.hid (by rw [hh]; simp)
  have HA := Lib.hid ra
  have HR := Lib.hid rr
  clear hb hh ra rr
  go_wp2_with fail
  refine (HC.out _ (HM.out.below HB.out)).mono ?_
  rintro e w2 ⟨⟨x, rfl⟩, hm, ht⟩
  have HT := Lib.hid ((Turn.of_below (F := M.own) HB.out).trans ht (fun _ _ h => h))
  have ra := (ht.block W.heap.size (by have := HS.out; omega) (HM.out.not_own (by omega))).trans HA.out
  have rr := (ht.block (W.heap.size + 1) (by have := HS.out; omega) (HM.out.not_own (by omega))).trans HR.out
  have HM2 := Lib.hid hm
  clear hm ht a0 a1 a2 a3 a4 a5 af r0 r1 r2 r3 r4 r5 rf
  obtain ⟨a0, a1, a2, a3, a4, a5, af⟩ := row6 ra
  obtain ⟨r0, r1, r2, r3, r4, r5, rf⟩ := row6 rr
  have HA2 := Lib.hid ra
  have HR2 := Lib.hid rr
  clear ra rr
  go_wp2_with fail
  refine bodyPost_ret (v := .agg #[.int .i64 ki, .int .i64 th, .int .i64 pl, .int .u64 ol, .int .u64 ne, .bool dn]) ?_ rfl ?_
  · exact results_acc rfl rfl (six_row HR2.out _ _ _ _ _ _)
  · exact ⟨rfl, HM2.out.six (fun e => HM.out.not_own (by omega) (HN.out _ e)) _ _ _ _ _ _, six_sets HT.out (by omega) _ _ _ _ _ _⟩
set_option maxRecDepth 100000 in
theorem word52_puts (M : Mv) (x : Acc) (f : Nat) (lb : Array Value) (nw : Int) (ef : ∀ args w, (callFunc f args).run Tryz.prog w = .ok (.enter f args) w) (W : World) (h : MemAt W M) (hc : M.ck ≤ 1000000) (q0 : -9223372036854775808 ≤ x.pl) (q1 : x.pl ≤ 9223372036854775807) (hp : (M.peek x.pl).2 = true)
    (hf : ∀ w1, Below W.heap.size W w1 → Calls Tryz.prog f (#[.int .u64 (M.peek x.pl).1] ++ lb) w1 (Tells (.tuple #[.int .u64 nw, .bool true]) w1)) :
    Calls Tryz.prog 127 #[.pointer (some ⟨M.m, 0, none⟩), .agg x.cells, .func (.func f) #[] lb] W (DoneV M ((M.put x.pl nw).note ⟨x.ki, x.th, x.pl, (M.peek x.pl).1, x.ne, true || x.ki == 1⟩ true) (.agg (Acc.cells ⟨x.ki, x.th, x.pl, (M.peek x.pl).1, x.ne, true || x.ki == 1⟩)) W) := by
  have HM := Lib.hid h
  have HP : Hid (∀ w, MemAt w M → Calls Tryz.prog 94 #[.pointer (some ⟨M.m, 0, none⟩), .int .i64 x.pl] w (Tells (.tuple #[.int .u64 (M.peek x.pl).1, .bool true]) w)) := Lib.hid fun w hw => by have := peekM M x.pl q0 q1 w hw; rw [hp] at this; exact this
  have HQ : Hid (∀ w, MemAt w M → Calls Tryz.prog 221 #[.pointer (some ⟨M.m, 0, none⟩), .int .i64 x.pl, .int .u64 nw] w (Done M (M.put x.pl nw) w)) := Lib.hid fun w hw => putM M x.pl nw w hw hp
  have HO : Hid (∀ k, (M.put x.pl nw).own k → M.own k) := Lib.hid fun k hk => by rw [Mv.put_own] at hk; exact hk
  have hck : (M.put x.pl nw).ck ≤ 1000000 := by rw [Mv.put_ck]; exact hc
  have hem : (M.put x.pl nw).m = M.m := Mv.put_m _ _ _
  have HF := Lib.hid hf
  clear h hp hf
  generalize (M.peek x.pl).1 = o at *
  obtain ⟨y, hy⟩ : ∃ y, y = (true || x.ki == 1) := ⟨_, rfl⟩
  rw [← hy]
  obtain ⟨N0, hN0⟩ : ∃ N0, N0 = M.put x.pl nw := ⟨_, rfl⟩
  rw [← hN0] at HQ HO hck hem ⊢
  clear hN0
  have HC : Hid (∀ w, MemAt w N0 → Calls Tryz.prog 222 #[.pointer (some ⟨M.m, 0, none⟩), .agg (Acc.cells ⟨x.ki, x.th, x.pl, o, x.ne, y⟩), .bool true] w (Done N0 (N0.note ⟨x.ki, x.th, x.pl, o, x.ne, y⟩ true) w)) := Lib.hid fun w hw => by have := countM N0 ⟨x.ki, x.th, x.pl, o, x.ne, y⟩ true w hw hck; rw [hem] at this; exact this
  obtain ⟨N, hN⟩ : ∃ N, N = N0.note ⟨x.ki, x.th, x.pl, o, x.ne, y⟩ true := ⟨_, rfl⟩
  have HN : Hid (∀ k, N.own k → M.own k) := Lib.hid fun k hk => HO.out k (by rw [hN] at hk; exact hk)
  rw [← hN] at HC ⊢
  clear hN hck hem
  obtain ⟨ki, th, pl, ol, ne, dn⟩ := x
  simp only [Acc.cells] at *
  have HY := Lib.hid hy
  clear hy
  go_enter Tryz.func127, Tryz.ntmps127
  go_wp2_with fail
  refine (HP.out _ (HM.out.below (((Below.refl _ _).alloc (Nat.le_refl _) _).alloc (by simp) _))).mono ?_
  rintro e w1 ⟨rfl, hb, hh⟩
  obtain ⟨ra, rr⟩ := two_news hh
  obtain ⟨a0, a1, a2, a3, a4, a5, af⟩ := row6 ra
  have HB : Hid (Below W.heap.size W w1) := Lib.hid ((((Below.refl _ _).alloc (Nat.le_refl _) _).alloc (by simp) _).trans (hb.mono (by simp; omega)))
  have HS : Hid (W.heap.size + 1 < w1.heap.size) := Lib.hid (by rw [hh]; simp)
  have HA := Lib.hid ra
  have HR := Lib.hid rr
  clear hb hh ra rr
  go_wp2_with fail
  with_reducible refine (HF.out _ (HB.out.setCell (Nat.le_refl _) _)).mono ?_
  rintro e w2 ⟨rfl, hb, hh⟩
  have ra := heap_set (j := 3) (.int .u64 o) HA.out
  have rr := (heap_set_other (j := 3) (v := .int .u64 o) (show W.heap.size + 1 ≠ W.heap.size by omega)).trans HR.out
  rw [← hh] at ra rr
  have HB2 : Hid (Below W.heap.size W w2) := Lib.hid ((HB.out.setCell (Nat.le_refl _) _).trans (hb.mono (by have := HS.out; simp [World.setCell]; omega)))
  have HS2 : Hid (W.heap.size + 1 < w2.heap.size) := Lib.hid (by rw [hh]; have := HS.out; simpa [World.setCell] using this)
  simp only [List.setIfInBounds_toArray, List.set_cons_succ, List.set_cons_zero] at ra
  have HA2 := Lib.hid ra
  have HR2 := Lib.hid rr
  clear a0 a1 a2 a3 a4 a5 af hb hh
  obtain ⟨a0, a1, a2, a3, a4, a5, af⟩ := row6 ra
  clear ra rr
  go_wp2_with fail
  refine (HQ.out _ (HM.out.below HB2.out)).mono ?_
  rintro e w3 ⟨⟨u, rfl⟩, hm, ht⟩
  have HT3 := Lib.hid ((Turn.of_below (F := M.own) HB2.out).trans ht (fun _ _ h => h))
  have ra := (ht.block W.heap.size (by have := HS2.out; omega) (HM.out.not_own (by omega))).trans HA2.out
  have rr := (ht.block (W.heap.size + 1) (by have := HS2.out; omega) (HM.out.not_own (by omega))).trans HR2.out
  have HS3 : Hid (W.heap.size + 1 < w3.heap.size) := Lib.hid (Nat.lt_of_lt_of_le HS2.out ht.size)
  have HM3 := Lib.hid hm
  have HA3 := Lib.hid ra
  have HR3 := Lib.hid rr
  clear hm ht a0 a1 a2 a3 a4 a5 af
  obtain ⟨a0, a1, a2, a3, a4, a5, af⟩ := row6 ra
  clear ra rr
  go_wp2_with fail
  obtain rfl : y = true := by rw [HY.out]; simp
  have hmA : MemAt (w3.setCell ⟨W.heap.size, 5, none⟩ (.bool true)) N0 := HM3.out.keep fun k hk => heap_set_other fun e => HM.out.not_own (Nat.le_refl _) (e ▸ HO.out k hk)
  refine (HC.out _ hmA).mono ?_
  rintro e w4 ⟨⟨u', rfl⟩, hm, ht⟩
  have HT4 : Hid (Turn M.own W w4) := Lib.hid ((HT3.out.set (fun e => absurd e (by omega)) _ _).trans ht (fun k _ hk => HO.out k hk))
  have ra := (ht.block W.heap.size (by have := HS3.out; simp [World.setCell]; omega) (fun e => HM.out.not_own (Nat.le_refl _) (HO.out _ e))).trans (heap_set (j := 5) (.bool true) HA3.out)
  have rr := (ht.block (W.heap.size + 1) (by have := HS3.out; simp [World.setCell]; omega) (fun e => HM.out.not_own (by omega) (HO.out _ e))).trans ((heap_set_other (j := 5) (v := .bool true) (show W.heap.size + 1 ≠ W.heap.size by omega)).trans HR3.out)
  simp only [List.setIfInBounds_toArray, List.set_cons_succ, List.set_cons_zero] at ra
  have HM4 := Lib.hid hm
  have HR4 := Lib.hid rr
  clear hm ht a0 a1 a2 a3 a4 a5 af hmA
  obtain ⟨a0, a1, a2, a3, a4, a5, af⟩ := row6 ra
  obtain ⟨r0, r1, r2, r3, r4, r5, rf⟩ := row6 rr
  clear ra rr
  go_wp2_with fail
  refine bodyPost_ret (v := .agg #[.int .i64 ki, .int .i64 th, .int .i64 pl, .int .u64 o, .int .u64 ne, .bool true]) ?_ rfl ?_
  · exact results_acc rfl rfl (six_row HR4.out _ _ _ _ _ _)
  · exact ⟨rfl, HM4.out.six (fun e => HM.out.not_own (by omega) (HN.out _ e)) _ _ _ _ _ _, six_sets HT4.out (by omega) _ _ _ _ _ _⟩
set_option maxRecDepth 100000 in
theorem word52_looks (M : Mv) (x : Acc) (f : Nat) (lb : Array Value) (nw : Int) (ef : ∀ args w, (callFunc f args).run Tryz.prog w = .ok (.enter f args) w) (W : World) (h : MemAt W M) (hc : M.ck ≤ 1000000) (q0 : -9223372036854775808 ≤ x.pl) (q1 : x.pl ≤ 9223372036854775807) (hp : (M.peek x.pl).2 = true)
    (hf : ∀ w1, Below W.heap.size W w1 → Calls Tryz.prog f (#[.int .u64 (M.peek x.pl).1] ++ lb) w1 (Tells (.tuple #[.int .u64 nw, .bool false]) w1)) :
    Calls Tryz.prog 127 #[.pointer (some ⟨M.m, 0, none⟩), .agg x.cells, .func (.func f) #[] lb] W (DoneV M (M.note ⟨x.ki, x.th, x.pl, (M.peek x.pl).1, x.ne, false || x.ki == 1⟩ true) (.agg (Acc.cells ⟨x.ki, x.th, x.pl, (M.peek x.pl).1, x.ne, false || x.ki == 1⟩)) W) := by
  have HM := Lib.hid h
  have HP : Hid (∀ w, MemAt w M → Calls Tryz.prog 94 #[.pointer (some ⟨M.m, 0, none⟩), .int .i64 x.pl] w (Tells (.tuple #[.int .u64 (M.peek x.pl).1, .bool true]) w)) := Lib.hid fun w hw => by have := peekM M x.pl q0 q1 w hw; rw [hp] at this; exact this
  have HF := Lib.hid hf
  clear h hp hf
  generalize (M.peek x.pl).1 = o at *
  obtain ⟨y, hy⟩ : ∃ y, y = (false || x.ki == 1) := ⟨_, rfl⟩
  rw [← hy]
  obtain ⟨N0, hN0⟩ : ∃ N0, N0 = M := ⟨_, rfl⟩
  have hck : N0.ck ≤ 1000000 := by rw [hN0]; exact hc
  have hem : N0.m = M.m := by rw [hN0]
  have HO : Hid (∀ k, N0.own k → M.own k) := Lib.hid fun k hk => by rw [hN0] at hk; exact hk
  have HE := Lib.hid hN0
  rw [show M.note ⟨x.ki, x.th, x.pl, o, x.ne, y⟩ true = N0.note ⟨x.ki, x.th, x.pl, o, x.ne, y⟩ true by rw [hN0]]
  clear hN0
  have HC : Hid (∀ w, MemAt w N0 → Calls Tryz.prog 222 #[.pointer (some ⟨M.m, 0, none⟩), .agg (Acc.cells ⟨x.ki, x.th, x.pl, o, x.ne, y⟩), .bool true] w (Done N0 (N0.note ⟨x.ki, x.th, x.pl, o, x.ne, y⟩ true) w)) := Lib.hid fun w hw => by have := countM N0 ⟨x.ki, x.th, x.pl, o, x.ne, y⟩ true w hw hck; rw [hem] at this; exact this
  obtain ⟨N, hN⟩ : ∃ N, N = N0.note ⟨x.ki, x.th, x.pl, o, x.ne, y⟩ true := ⟨_, rfl⟩
  have HN : Hid (∀ k, N.own k → M.own k) := Lib.hid fun k hk => HO.out k (by rw [hN] at hk; exact hk)
  rw [← hN] at HC ⊢
  clear hN hck hem
  obtain ⟨ki, th, pl, ol, ne, dn⟩ := x
  simp only [Acc.cells] at *
  have HY := Lib.hid hy
  clear hy
  go_enter Tryz.func127, Tryz.ntmps127
  go_wp2_with fail
  refine (HP.out _ (HM.out.below (((Below.refl _ _).alloc (Nat.le_refl _) _).alloc (by simp) _))).mono ?_
  rintro e w1 ⟨rfl, hb, hh⟩
  obtain ⟨ra, rr⟩ := two_news hh
  obtain ⟨a0, a1, a2, a3, a4, a5, af⟩ := row6 ra
  have HB : Hid (Below W.heap.size W w1) := Lib.hid ((((Below.refl _ _).alloc (Nat.le_refl _) _).alloc (by simp) _).trans (hb.mono (by simp; omega)))
  have HS : Hid (W.heap.size + 1 < w1.heap.size) := Lib.hid (by rw [hh]; simp)
  have HA := Lib.hid ra
  have HR := Lib.hid rr
  clear hb hh ra rr
  go_wp2_with fail
  with_reducible refine (HF.out _ (HB.out.setCell (Nat.le_refl _) _)).mono ?_
  rintro e w2 ⟨rfl, hb, hh⟩
  have ra := heap_set (j := 3) (.int .u64 o) HA.out
  have rr := (heap_set_other (j := 3) (v := .int .u64 o) (show W.heap.size + 1 ≠ W.heap.size by omega)).trans HR.out
  rw [← hh] at ra rr
  have HB2 : Hid (Below W.heap.size W w2) := Lib.hid ((HB.out.setCell (Nat.le_refl _) _).trans (hb.mono (by have := HS.out; simp [World.setCell]; omega)))
  have HS2 : Hid (W.heap.size + 1 < w2.heap.size) := Lib.hid (by rw [hh]; have := HS.out; simpa [World.setCell] using this)
  simp only [List.setIfInBounds_toArray, List.set_cons_succ, List.set_cons_zero] at ra
  have HA2 := Lib.hid ra
  have HR2 := Lib.hid rr
  clear a0 a1 a2 a3 a4 a5 af hb hh
  obtain ⟨a0, a1, a2, a3, a4, a5, af⟩ := row6 ra
  clear ra rr
  have HT3 : Hid (Turn M.own W w2) := Lib.hid (Turn.of_below HB2.out)
  have HM3 : Hid (MemAt w2 N0) := Lib.hid (by rw [HE.out]; exact HM.out.below HB2.out)
  have HA3 := HA2
  have HR3 := HR2
  have HS3 := HS2
  go_wp2_with fail
  have ky : (ki == 1) = y := by rw [HY.out]; simp
  rw [ky]
  have hmA : MemAt (w2.setCell ⟨W.heap.size, 5, none⟩ (.bool y)) N0 := HM3.out.keep fun k hk => heap_set_other fun e => HM.out.not_own (Nat.le_refl _) (e ▸ HO.out k hk)
  refine (HC.out _ hmA).mono ?_
  rintro e w4 ⟨⟨u', rfl⟩, hm, ht⟩
  have HT4 : Hid (Turn M.own W w4) := Lib.hid ((HT3.out.set (fun e => absurd e (by omega)) _ _).trans ht (fun k _ hk => HO.out k hk))
  have ra := (ht.block W.heap.size (by have := HS3.out; simp [World.setCell]; omega) (fun e => HM.out.not_own (Nat.le_refl _) (HO.out _ e))).trans (heap_set (j := 5) (.bool y) HA3.out)
  have rr := (ht.block (W.heap.size + 1) (by have := HS3.out; simp [World.setCell]; omega) (fun e => HM.out.not_own (by omega) (HO.out _ e))).trans ((heap_set_other (j := 5) (v := .bool y) (show W.heap.size + 1 ≠ W.heap.size by omega)).trans HR3.out)
  simp only [List.setIfInBounds_toArray, List.set_cons_succ, List.set_cons_zero] at ra
  have HM4 := Lib.hid hm
  have HR4 := Lib.hid rr
  clear hm ht a0 a1 a2 a3 a4 a5 af hmA
  obtain ⟨a0, a1, a2, a3, a4, a5, af⟩ := row6 ra
  obtain ⟨r0, r1, r2, r3, r4, r5, rf⟩ := row6 rr
  clear ra rr
  go_wp2_with fail
  refine bodyPost_ret (v := .agg #[.int .i64 ki, .int .i64 th, .int .i64 pl, .int .u64 o, .int .u64 ne, .bool y]) ?_ rfl ?_
  · exact results_acc rfl rfl (six_row HR4.out _ _ _ _ _ _)
  · exact ⟨rfl, HM4.out.six (fun e => HM.out.not_own (by omega) (HN.out _ e)) _ _ _ _ _ _, six_sets HT4.out (by omega) _ _ _ _ _ _⟩
end Go.Proofs.YtibelcmdfkgonaaGreat
