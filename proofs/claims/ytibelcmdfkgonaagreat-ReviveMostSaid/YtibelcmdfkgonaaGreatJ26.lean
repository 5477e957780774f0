/- Layers 6, 16: the head of a bucket; a key's bucket.
   Layer 20 (mark): a mark as a whole; whether a link may be.
   Layer 20 (mark): it goes on by a link, walked row by row.
   Layer 20 (mark): it goes on by a link. No walk here.
   Layer 20 (mark): an append to a slice of its own, and where it lies then; a mark whose lists have grown. No walk here. -/
import Derived.Test.YtibelcmdfkgonaaGreatJ24
import Derived.IntWalk
import Derived.Test.YtibelcmdfkgonaaGreatJ25
import Derived.Test.YtibelcmdfkgonaaGreatJ21
import Derived.Maps.AppendAt
namespace Go.Proofs.YtibelcmdfkgonaaGreat
open Go.RowKit Go.BigFrame
set_option linter.unusedVariables false
set_option linter.unusedSimpArgs false
def Lv.bucket (v : Lv) (n : Int) : Int := if hasB n v.bu then 40 + n else v.ln * 8
theorem hasB_yes {n m : Int} (h : hasB n m = true) : 0 ≤ n ∧ n < m := by simpa [hasB] using h
theorem bucket134 (l : Nat) (v : Lv) (n : Int) (w : World) (h : LayAt w l v) : Calls Tryz.prog 134 #[.pointer (some ⟨l, 0, none⟩), .int .i64 n] w (Gives (.int .i64 (v.bucket n)) w) := by
  have HC := Lib.hid fun w h => config70 l v w h
  have HL := Lib.hid fun w h => lines80 l v w h
  have HH := Lib.hid fun w => has223 n v.bu w
  have HW := Lib.hid h
  have HN := Lib.hid fun w => line131 l 5 (by omega) (by omega) w
  have hok := h.ok
  have b0 := hok.bu0
  have b1 := hok.bu1
  have l0 := hok.ln0
  have l1 := hok.ln1
  have HE : Hid (v.bucket n = if hasB n v.bu then 40 + n else v.ln * 8) := Lib.hid rfl
  have HY : Hid (hasB n v.bu = true → 0 ≤ n ∧ n < v.bu) := Lib.hid hasB_yes
  clear h hok
  generalize v.bucket n = r at *
  generalize hasB n v.bu = y at *
  cases y with
  | true =>
    obtain ⟨n0, n1⟩ := HY.out rfl
    clear HY
    go_enter Tryz.func134, Tryz.ntmps134
    go_wp2_with fail
    refine (HC.out _ HW.out).mono ?_
    rintro e w1 ⟨rfl, hb⟩
    have HB := Lib.hid hb
    clear hb
    go_wp2_with fail
    refine (HH.out _).mono ?_
    rintro e w2 ⟨rfl, rfl⟩
    go_wp2_with fail
    refine (HN.out _).mono ?_
    rintro e w2 ⟨rfl, rfl⟩
    go_wp2_with fail
    go_ret
    exact ⟨ret_int (by rw [HE.out]; simp), HB.out.alloc HB.out.size _⟩
  | false =>
    clear HY
    go_enter Tryz.func134, Tryz.ntmps134
    go_wp2_with fail
    refine (HC.out _ HW.out).mono ?_
    rintro e w1 ⟨rfl, hb⟩
    have HB := Lib.hid hb
    clear hb
    go_wp2_with fail
    refine (HH.out _).mono ?_
    rintro e w2 ⟨rfl, rfl⟩
    go_wp2_with fail
    refine (HL.out _ (HW.out.keep ((HB.out.alloc HB.out.size _).block l HW.out.lt))).mono ?_
    rintro e w2 ⟨rfl, rfl⟩
    go_wp2_with fail
    go_ret
    exact ⟨ret_int (by rw [HE.out]; simp), HB.out.alloc HB.out.size _⟩
def mulN (a : Nat) : Nat := a * 2654435769 % 4294967296
def mixN (a : Nat) : Nat := mulN a ^^^ (mulN a / 65536)
theorem mulN_lt (a : Nat) : mulN a < 4294967296 := Nat.mod_lt _ (by decide)
theorem mixN_lt (a : Nat) : mixN a < 4294967296 := by
  have h := mulN_lt a
  exact Nat.xor_lt_two_pow (n := 32) h (by have := Nat.div_le_self (mulN a) 65536; omega)
theorem bits_xor_u32 (x y : Nat) (hx : x < 4294967296) (hy : y < 4294967296) : bits BinOp.xor IntKind.u32 (x : Int) (y : Int) = ((x ^^^ y : Nat) : Int) := by
  have h : x ^^^ y < 4294967296 := Nat.xor_lt_two_pow (n := 32) hx hy
  have e : (BitVec.ofNat 32 x ^^^ BitVec.ofNat 32 y).toNat = x ^^^ y := by
    rw [BitVec.toNat_xor, BitVec.toNat_ofNat, BitVec.toNat_ofNat, Nat.mod_eq_of_lt hx, Nat.mod_eq_of_lt hy]
  simp only [bits, BitVec.ofInt_natCast]
  show IntKind.u32.wrap ((BitVec.ofNat 32 x ^^^ BitVec.ofNat 32 y).toNat : Int) = _
  rw [e, IntKind.wrap_u32]; omega
def hMix (a : Int) : Int := (mixN a.toNat : Nat)
theorem hMix_lo (a : Int) : 0 ≤ hMix a := by unfold hMix; omega
theorem hMix_hi (a : Int) : hMix a ≤ 4294967295 := by unfold hMix; have := mixN_lt a.toNat; omega
theorem hMix_walk (a : Int) (h0 : 0 ≤ a) : bits BinOp.xor IntKind.u32 (IntKind.u32.wrap (a * 2654435769)) (IntKind.u32.wrap (a * 2654435769) / 65536) = hMix a := by
  obtain ⟨n, rfl⟩ := Int.eq_ofNat_of_zero_le h0
  have e : IntKind.u32.wrap ((n : Int) * 2654435769) = (mulN n : Nat) := by rw [IntKind.wrap_u32]; unfold mulN; omega
  have e2 : ((mulN n : Nat) : Int) / 65536 = (mulN n / 65536 : Nat) := by omega
  rw [e, e2, bits_xor_u32 _ _ (mulN_lt n) (by have := mulN_lt n; have := Nat.div_le_self (mulN n) 65536; omega)]
  rfl
theorem mix228 (a : Int) (h0 : 0 ≤ a) (w : World) : Calls Tryz.prog 228 #[.int .u32 a] w (Says (.int .u32 (hMix a)) w) := by
  have HM := Lib.hid (hMix_walk a h0)
  go_enter Tryz.func228, Tryz.ntmps228
  go_wp2_with fail
  go_ret
  exact ⟨ret_int HM.out, rfl⟩
def bucketI (a m : Int) : Int := hMix a % m
theorem bucket140 (a m : Int) (h0 : 0 ≤ a) (m0 : 1 ≤ m) (m1 : m ≤ 100000) (w : World) : Calls Tryz.prog 140 #[.int .u32 a, .int .i64 m] w (Says (.int .i64 (bucketI a m)) w) := by
  have HM := Lib.hid fun w => mix228 a h0 w
  have i0 := hMix_lo a
  have i1 := hMix_hi a
  have HE : Hid (hMix a % m = bucketI a m) := Lib.hid rfl
  have HE2 : Hid ((hMix a).tmod m = bucketI a m) := Lib.hid (by rw [Int.tmod_eq_emod_of_nonneg i0]; rfl)
  have HE3 : Hid (wrap64 (hMix a % m) = bucketI a m) := Lib.hid (by
    have h1 := Int.emod_nonneg (hMix a) (show m ≠ 0 by omega)
    have h2 := Int.emod_lt_of_pos (hMix a) (show 0 < m by omega)
    exact (IntWalk.wrap64_in (hMix a % m) (by omega)).trans rfl)
  have hd : decide (m < 1) = false := bool_no (by omega)
  generalize hMix a = x at *
  generalize bucketI a m = r at *
  go_enter Tryz.func140, Tryz.ntmps140
  go_wp2_with fail
  refine (HM.out _).mono ?_
  rintro e w1 ⟨rfl, rfl⟩
  go_wp2_with fail
  go_ret
  exact ⟨ret_int (by exact HE3.out), rfl⟩

end Go.Proofs.YtibelcmdfkgonaaGreat

namespace Go.Proofs.YtibelcmdfkgonaaGreat
open Go.RowKit Go.BigFrame
set_option linter.unusedVariables false
set_option linter.unusedSimpArgs false
theorem fld23_1 (a b c d : Value) (w : World) : (Instr.field 23 (.agg #[a, b, c, d]) 1).run Tryz.prog w = .ok b w := by kernel_rfl
theorem fld23_3 (a b c d : Value) (w : World) : (Instr.field 23 (.agg #[a, b, c, d]) 3).run Tryz.prog w = .ok d w := by kernel_rfl
theorem cut_lo (x : Nat) : cutF 0 32 (x : Int) = (lo x : Int) := by unfold cutF lo; omega
theorem cut_hi (x : Nat) : cutF 32 7 (x : Int) = (hi x : Int) := by unfold cutF hi; omega
theorem to_lo (x : Nat) : toW (x : Int) = (lo x : Int) - 1 := by unfold toW; rw [cut_lo]
theorem by_hi (x : Nat) : byW (x : Int) = (hi x : Int) - 1 := by unfold byW; rw [cut_hi]
theorem clean_nat (x : Nat) : cleanW (x : Int) = ((x % 9223372036854775808 : Nat) : Int) := by unfold cleanW; omega
theorem lo_lt (x : Nat) : lo x < 4294967296 := by unfold lo; omega
theorem hi_lt (x : Nat) : hi x < 128 := by unfold hi; omega
theorem link_lohi (a b : Nat) (ha : a < 4294967296) (hb : b < 128) : linkW ((a : Int) - 1) ((b : Int) - 1) = ((a + b * 4294967296 : Nat) : Int) := by
  unfold linkW putF moreW; omega
theorem right_mark (x S T : Nat) : rightW (cleanW (x : Int)) S T = decide (rightL S T x) := by
  unfold rightW
  have hl : lo (x % 9223372036854775808) = lo x := by unfold lo; omega
  have hh : hi (x % 9223372036854775808) = hi x := by unfold hi; omega
  rw [clean_nat, to_lo, by_hi, clean_nat, hl, hh, link_lohi _ _ (lo_lt x) (hi_lt x)]
  have e : x % 9223372036854775808 % 9223372036854775808 = x % 9223372036854775808 := by omega
  rw [e]
  by_cases h : rightL S T x
  · obtain ⟨h1, h2, h3⟩ := h
    have a1 : (((lo x + hi x * 4294967296 : Nat) : Int) == ((x % 9223372036854775808 : Nat) : Int)) = true := by rw [h1]; exact beq_self_eq_true _
    rw [a1, bool_yes (show (lo x : Int) - 1 < (S : Int) by omega), bool_yes (show (hi x : Int) - 1 < (T : Int) by omega), bool_yes (show rightL S T x from ⟨h1, h2, h3⟩)]; rfl
  · rw [bool_no h]
    by_cases h1 : x % 9223372036854775808 = lo x + hi x * 4294967296
    · have a1 : (((lo x + hi x * 4294967296 : Nat) : Int) == ((x % 9223372036854775808 : Nat) : Int)) = true := by rw [h1]; exact beq_self_eq_true _
      by_cases h2 : lo x ≤ S
      · have h3 : ¬ hi x ≤ T := fun h3 => h ⟨h1, h2, h3⟩
        rw [bool_no (show ¬ (hi x : Int) - 1 < (T : Int) by omega), Bool.and_false]
      · rw [bool_no (show ¬ (lo x : Int) - 1 < (S : Int) by omega), Bool.and_false, Bool.false_and]
    · have a1 : (((lo x + hi x * 4294967296 : Nat) : Int) == ((x % 9223372036854775808 : Nat) : Int)) = false := by
        rw [beq_eq_false_iff_ne]; intro h2; exact h1 (by omega)
      rw [a1]; rfl
/-- What a mark has. -/
structure Mk where
  x : Nat
  l : Nat
  t : Int
  wb : Nat
  nh : Nat
  cw : Nat
  mb : Nat
  S : Nat
  cm : Nat
  v : Lv
  hd : Nat → Nat
  hv : Value
  nv : Value
  s : MS
def nodesV (ns : List Node) : List Value := ns.flatMap fun n => [.int .i64 (n.slot : Int), .int .i64 (n.list : Int), .int .u64 (n.link : Int), .int .u64 (n.val : Int)]
def headsV (hs : List Nat) : List Value := hs.map fun (y : Nat) => .int .u64 (y : Int)
def Mk.cells (K : Mk) : Array Value := #[.pointer (some ⟨K.l, 0, none⟩), .int .i64 K.t, .int .i64 (K.s.pc : Int), .slice (some ⟨K.wb, 0, none⟩) K.nh K.cw, .int .i64 (K.s.list : Int), .slice (some ⟨K.mb, 0, none⟩) K.S K.cm, .bool K.s.corrupt, K.hv, K.nv, .int .i64 ((K.s.slot : Int) - 1), .bool K.s.first, .bool K.s.above, .int .u64 (K.s.key : Int), .bool K.s.free, .int .u64 (K.s.val : Int)]
def Mk.own (K : Mk) (k : Nat) : Prop := k = K.x ∨ k = K.wb ∨ k = K.mb ∨ K.hv.ownBlock = some k ∨ K.nv.ownBlock = some k
structure MkAt (W : World) (K : Mk) : Prop where
  row : W.heap[K.x]? = some (.cells K.cells 149 (0, 0))
  lay : LayAt W K.l K.v
  ways : RowAt W K.wb K.nh fun k => .int .i64 (K.hd k : Int)
  met : RowAt W K.mb K.S fun k => .bool (K.s.met k)
  heads : W.ownsRow 0 48 1 K.hv K.s.heads.length (headsV K.s.heads)
  nodes : W.ownsRow 0 50 4 K.nv K.s.nodes.length (nodesV K.s.nodes)
  xw : K.x ≠ K.wb
  xm : K.x ≠ K.mb
  wm : K.wb ≠ K.mb
  lo : ¬ K.own K.l
  hx : K.hv.ownBlock ≠ some K.x ∧ K.hv.ownBlock ≠ some K.wb ∧ K.hv.ownBlock ≠ some K.mb
  nx : K.nv.ownBlock ≠ some K.x ∧ K.nv.ownBlock ≠ some K.wb ∧ K.nv.ownBlock ≠ some K.mb
  hn : ∀ k, K.hv.ownBlock = some k → K.nv.ownBlock ≠ some k
  hS : (K.S : Int) = K.v.sl
  nh1 : K.nh ≤ 1000
  li : K.s.list ≤ K.nh
  lip : K.s.pc ≠ 4 → K.s.list < K.nh
  sl : 1 ≤ K.s.pc → K.s.pc ≤ 3 → 1 ≤ K.s.slot ∧ K.s.slot ≤ K.S
  ky : K.s.key < 18446744073709551616
  vl : K.s.val < 18446744073709551616
theorem own_keep' {w w' : World} {base : Nat} {e : TypeId} {size : Nat} {v : Value} {n : Nat} {xs : List Value} (h : w.ownsRow base e size v n xs) (hk : ∀ k, v.ownBlock = some k → w'.heap[k]? = w.heap[k]?) : w'.ownsRow base e size v n xs := by
  refine ⟨h.1, ?_⟩
  rcases h.2 with hn | ⟨g, cap, cur, hv, hb, hg, rest⟩
  · exact .inl hn
  · subst hv; exact .inr ⟨g, cap, cur, rfl, hb, (hk g rfl).trans hg, rest⟩
theorem MkAt.lt {W : World} {K : Mk} (h : MkAt W K) {k : Nat} (hk : K.own k) : k < W.heap.size := by
  rcases hk with rfl | rfl | rfl | hk | hk
  · exact lt_row h.row
  · exact h.ways.lt
  · exact h.met.lt
  · exact (h.heads.lt k hk).2
  · exact (h.nodes.lt k hk).2
theorem MkAt.keep {W W' : World} {K : Mk} (h : MkAt W K) (e : ∀ k, K.own k ∨ k = K.l → W'.heap[k]? = W.heap[k]?) : MkAt W' K :=
  { h with
    row := (e _ (.inl (.inl rfl))).trans h.row
    lay := h.lay.keep (e _ (.inr rfl))
    ways := h.ways.keep (e _ (.inl (.inr (.inl rfl))))
    met := h.met.keep (e _ (.inl (.inr (.inr (.inl rfl)))))
    heads := own_keep' h.heads fun k hk => e k (.inl (.inr (.inr (.inr (.inl hk)))))
    nodes := own_keep' h.nodes fun k hk => e k (.inl (.inr (.inr (.inr (.inr hk))))) }
theorem MkAt.below {W W' : World} {K : Mk} (h : MkAt W K) (hb : Below W.heap.size W W') : MkAt W' K :=
  h.keep fun k hk => hb.block k (by rcases hk with hk | rfl; exact h.lt hk; exact h.lay.lt)
theorem MkAt.turn {W W' : World} {K : Mk} {F : Nat → Prop} (h : MkAt W K) (t : Turn F W W') (hd : ∀ k, K.own k ∨ k = K.l → ¬ F k) : MkAt W' K :=
  h.keep fun k hk => t.block k (by rcases hk with hk | rfl; exact h.lt hk; exact h.lay.lt) (hd k hk)
/-- A step done: the mark as s' has it; nothing but its own has turned. -/
def MkTo (K : Mk) (s' : MS) (W : World) (e : Ending) (W' : World) : Prop :=
  (∃ u, e = .returned u) ∧ Turn K.own W W' ∧ ∃ hv nv, MkAt W' { K with s := s', hv := hv, nv := nv } ∧ (∀ k, hv.ownBlock = some k → K.hv.ownBlock = some k ∨ W.heap.size ≤ k) ∧ (∀ k, nv.ownBlock = some k → K.nv.ownBlock = some k ∨ W.heap.size ≤ k)
/-- Its row alone has turned. -/
theorem MkAt.row_next {W W' : World} {K : Mk} (h : MkAt W K) (s' : MS) (hr : W'.heap[K.x]? = some (.cells ({ K with s := s' } : Mk).cells 149 (0, 0))) (hb : But K.x W W') (e1 : s'.met = K.s.met) (e2 : s'.heads = K.s.heads) (e3 : s'.nodes = K.s.nodes)
    (li : s'.list ≤ K.nh) (lip : s'.pc ≠ 4 → s'.list < K.nh) (sl : 1 ≤ s'.pc → s'.pc ≤ 3 → 1 ≤ s'.slot ∧ s'.slot ≤ K.S) (ky : s'.key < 18446744073709551616) (vl : s'.val < 18446744073709551616) : MkAt W' { K with s := s' } :=
  { row := hr
    lay := h.lay.keep (hb.block _ h.lay.lt fun e => h.lo (.inl e))
    ways := h.ways.keep (hb.block _ h.ways.lt (Ne.symm h.xw))
    met := by show RowAt W' K.mb K.S fun k => .bool (s'.met k); rw [e1]; exact h.met.keep (hb.block _ h.met.lt (Ne.symm h.xm))
    heads := by show W'.ownsRow 0 48 1 K.hv s'.heads.length (headsV s'.heads); rw [e2]; exact own_keep' h.heads fun k hk => hb.block k (h.heads.lt k hk).2 fun e => h.hx.1 (e ▸ hk)
    nodes := by show W'.ownsRow 0 50 4 K.nv s'.nodes.length (nodesV s'.nodes); rw [e3]; exact own_keep' h.nodes fun k hk => hb.block k (h.nodes.lt k hk).2 fun e => h.nx.1 (e ▸ hk)
    xw := h.xw, xm := h.xm, wm := h.wm, lo := h.lo, hx := h.hx, nx := h.nx, hn := h.hn, hS := h.hS, nh1 := h.nh1, li := li, lip := lip, sl := sl, ky := ky, vl := vl }
theorem MkAt.to_row {W W' : World} {K : Mk} {e : Ending} (h : MkAt W K) (s' : MS) (hr : RowTo K.x ({ K with s := s' } : Mk).cells W e W') (e1 : s'.met = K.s.met) (e2 : s'.heads = K.s.heads) (e3 : s'.nodes = K.s.nodes)
    (li : s'.list ≤ K.nh) (lip : s'.pc ≠ 4 → s'.list < K.nh) (sl : 1 ≤ s'.pc → s'.pc ≤ 3 → 1 ≤ s'.slot ∧ s'.slot ≤ K.S) (ky : s'.key < 18446744073709551616) (vl : s'.val < 18446744073709551616) : MkTo K s' W e W' :=
  ⟨hr.1, Turn.of_but hr.2.2 fun _ => .inl rfl, K.hv, K.nv, h.row_next s' hr.2.1 hr.2.2 e1 e2 e3 li lip sl ky vl, fun _ hk => .inl hk, fun _ hk => .inl hk⟩
/-- What is the same for the plain machine. -/
structure Fits (g : Gd) (K : Mk) : Prop where
  S : g.S = K.S
  T : (g.T : Int) = K.v.th
  nh : g.heads.length = K.nh
  bu1 : 1 ≤ K.v.bu
  bu : ∀ k : Nat, k < 4294967296 → (g.bucket k : Int) = bucketI (k : Int) K.v.bu
theorem right135 (K : Mk) (x T : Nat) (hx : x < 18446744073709551616) (hT : (T : Int) = K.v.th) (w : World) (h : MkAt w K) :
    Calls Tryz.prog 135 #[.pointer (some ⟨K.x, 0, none⟩), .int .u64 (x : Int)] w (Gives (.bool (decide (rightL K.S T x))) w) := by
  have HC := Lib.hid fun w h => config70 K.l K.v w h
  have HLAY := Lib.hid h.lay
  have hU : U64 (x : Int) := by unfold U64; omega
  have hUC : U64 (cleanW (x : Int)) := by unfold U64 cleanW; omega
  have HCL := Lib.hid fun w => clean225 (x : Int) hU w
  have HR : Hid (∀ w, Calls Tryz.prog 224 #[.int .u64 (cleanW (x : Int)), .int .i64 K.v.sl, .int .i64 K.v.th] w (Gives (.bool (decide (rightL K.S T x))) w)) := Lib.hid fun w => by
    rw [← right_mark, hT, h.hS]; exact right224 _ _ _ hUC w
  have q0 := cell_row h.row 0 _ rfl
  clear h hU hUC hT
  generalize decide (rightL K.S T x) = r at *
  generalize cleanW (x : Int) = c at *
  generalize hlv : K.v = v at *
  clear hlv
  obtain ⟨th, sl, lo', bu, pt, pl, ls, ps, ln⟩ := v
  generalize K.l = l at *
  generalize K.x = y at *
  simp only at *
  go_enter Tryz.func135, Tryz.ntmps135
  go_wp2_with fail
  refine (HC.out _ HLAY.out).mono ?_
  rintro e w1 ⟨rfl, hb⟩
  have HB := Lib.hid hb
  clear hb q0
  go_wp2_with fail
  refine region_qd 0 6 (by kernel_rfl) (by kernel_rfl) (fun _ _ d _ _ h => by cases d <;> exact h) ?_
  simp only [List.take_succ_cons, List.take_zero, List.drop_succ_cons, List.drop_zero, Nat.reduceAdd]
  refine wpQuiet_nil ?_
  repeat (first | go_big_quiet_skip | (go_big_quiet_want; go_big_quiet_op; first | go_big_quiet_on | go_big_quiet_call ((go_at_call 225; exact Calls.quiet_of_same (HCL.out _)))))
  refine wpQuiet_nil ?_
  rintro _ ⟨k, rfl⟩
  go_wp2_with fail
  refine (HR.out _).mono ?_
  rintro e w2 ⟨rfl, hb⟩
  have HB2 := Lib.hid ((drewN_below (HB.out.alloc HB.out.size _) k).trans (hb.mono (by have := HB.out.size; simp; omega)))
  clear hb
  go_wp2_with fail
  go_ret
  exact ⟨rfl, HB2.out⟩

end Go.Proofs.YtibelcmdfkgonaaGreat

namespace Go.Proofs.YtibelcmdfkgonaaGreat
open Go.RowKit Go.BigFrame
set_option linter.unusedVariables false
set_option linter.unusedSimpArgs false
theorem but_of_below {p : Nat} {w w' : World} (h : Below w.heap.size w w') : But p w w' := ⟨h.os, h.tape, h.output, h.size, fun k hk _ => h.block k hk⟩
theorem Turn.drawnN {F : Nat → Prop} {a w : World} (h : Turn F a w) (n : Nat) : Turn F a (w.drewN n) := ⟨h.os, h.tape, h.output, h.size, h.block⟩
theorem goOn138_over (x : Nat) (k0 k1 k2 k3 k4 k5 k6 k7 k8 k9 k10 k11 k12 k13 k14 : Value) (X : Int) (hX : U64 X) (hz : toW X = -1) (c : Array Value)
    (HO : Hid (∀ W, W.heap[x]? = some (.cells #[k0, k1, k2, k3, k4, k5, k6, k7, k8, .int .i64 (-1), k10, k11, k12, k13, .int .u64 0] 149 (0, 0)) → Calls Tryz.prog 226 #[.pointer (some ⟨x, 0, none⟩)] W (RowTo x c W))) (w : World) (h : w.heap[x]? = some (.cells #[k0, k1, k2, k3, k4, k5, k6, k7, k8, k9, k10, k11, k12, k13, k14] 149 (0, 0))) :
    Calls Tryz.prog 138 #[.pointer (some ⟨x, 0, none⟩), .int .u64 X] w (RowTo x c w) := by
  have HT : Hid (∀ w, Calls Tryz.prog 136 #[.int .u64 X] w (Gives (.int .i64 (-1)) w)) := Lib.hid fun w => by rw [← hz]; exact to136 X hX w
  have HR := Lib.hid h
  clear h hX hz
  go_enter Tryz.func138, Tryz.ntmps138
  go_wp2_with fail
  refine (HT.out _).mono ?_
  rintro e w1 ⟨rfl, hb⟩
  have HB := Lib.hid (but_of_below (p := x) hb)
  have HR1 := Lib.hid ((hb.block x (lt_row HR.out)).trans HR.out)
  have q9 := cell_row HR1.out 9 _ rfl
  have q14 := cell_row HR1.out 14 _ rfl
  have qf := free_row HR1.out
  clear hb
  go_wp2_with fail
  refine (HO.out _ (by exact heap_set _ (heap_set _ HR1.out))).mono ?_
  rintro e w2 ⟨⟨u, rfl⟩, hr, hb⟩
  have H2 := Lib.hid (And.intro hr ((but_set (but_set HB.out _ _) _ _).trans hb))
  clear hr hb q9 q14 qf
  go_wp2_with fail
  go_end0
  exact ⟨⟨_, rfl⟩, H2.out.1, H2.out.2⟩
/-- It ends; x's cells and what was met are as told; no other old block has turned. -/
def RowMet (x mb S : Nat) (c : Array Value) (m : Nat → Bool) (W : World) (e : Ending) (W' : World) : Prop :=
  (∃ u, e = .returned u) ∧ W'.heap[x]? = some (.cells c 149 (0, 0)) ∧ RowAt W' mb S (fun k => .bool (m k)) ∧ Turn (fun k => k = x ∨ k = mb) W W'

theorem goOn138_met (x : Nat) (k0 k1 k2 k3 k6 k7 k8 k9 k11 k12 k13 k14 : Value) (li : Nat) (hl : li ≤ 1000) (fs : Bool) (mb S cm : Nat) (hne : x ≠ mb) (met : Nat → Bool) (n : Nat) (hn : n < S) (hS : S ≤ 100000) (X : Int) (hX : U64 X) (hz : toW X = n) (hmt : met n = true) (w : World)
    (h : w.heap[x]? = some (.cells #[k0, k1, k2, k3, .int .i64 li, .slice (some ⟨mb, 0, none⟩) S cm, k6, k7, k8, k9, .bool fs, k11, k12, k13, k14] 149 (0, 0))) (hm : RowAt w mb S fun k => .bool (met k)) :
    Calls Tryz.prog 138 #[.pointer (some ⟨x, 0, none⟩), .int .u64 X] w (RowMet x mb S #[k0, k1, .int .i64 4, k3, .int .i64 li, .slice (some ⟨mb, 0, none⟩) S cm, .bool true, k7, k8, .int .i64 n, .bool fs, k11, k12, k13, .int .u64 0] (addMet met n) w) := by
  have HT : Hid (∀ w, Calls Tryz.prog 136 #[.int .u64 X] w (Gives (.int .i64 n) w)) := Lib.hid fun w => by rw [← hz]; exact to136 X hX w
  have HA : Hid (∀ w, w.cell? ⟨x, 5, none⟩ = some (.slice (some ⟨mb, 0, none⟩) S cm) → RowAt w mb S (fun k => .bool (met k)) → Calls Tryz.prog 227 #[.pointer (some ⟨x, 5, none⟩), .int .i64 n] w fun e w' => e = .returned (.bool false) ∧ RowAt w' mb S (fun k => .bool (addMet met n k)) ∧ But mb w w') := Lib.hid fun w h1 h2 => by
    have := add227 x mb S cm met n hn hS w h1 h2; rw [hmt] at this; exact this
  have HF := Lib.hid fun w h => fail137 x k0 k1 k2 k3 (.int .i64 li) (.slice (some ⟨mb, 0, none⟩) S cm) k6 k7 k8 (.int .i64 n) (.bool fs) k11 k12 k13 (.int .u64 0) w h
  have HR := Lib.hid h
  have HM := Lib.hid hm
  have HN := Lib.hid hne
  have e1 : ((n : Int) == -1) = false := by rw [beq_eq_false_iff_ne]; omega
  have i0 : (0 : Int) ≤ (n : Int) := by omega
  clear h hm hX hz hmt
  go_enter Tryz.func138, Tryz.ntmps138
  go_wp2_with fail
  refine (HT.out _).mono ?_
  rintro e w1 ⟨rfl, hb⟩
  have HB := Lib.hid (Turn.of_below (F := fun k => k = x ∨ k = mb) hb)
  have HR1 := Lib.hid ((hb.block x (lt_row HR.out)).trans HR.out)
  have HM1 := Lib.hid (HM.out.keep (hb.block mb HM.out.lt))
  have q5 := cell_row HR1.out 5 _ rfl
  have q9 := cell_row HR1.out 9 _ rfl
  have q14 := cell_row HR1.out 14 _ rfl
  have qf := free_row HR1.out
  clear hb
  go_wp2_with fail
  refine region_qd 0 7 (by kernel_rfl) (by kernel_rfl) (fun _ _ d _ _ h => by cases d <;> exact h) ?_
  simp only [List.take_succ_cons, List.take_zero, List.drop_succ_cons, List.drop_zero, Nat.reduceAdd]
  repeat (first | go_big_quiet_skip | (go_big_quiet_want; go_big_quiet_op; go_big_quiet_on))
  refine wpQuiet_nil ?_
  repeat (first | go_big_quiet_skip | (go_big_quiet_want; go_big_quiet_op; first | go_big_quiet_on))
  refine wpQuiet_nil ?_
  rintro _ ⟨k, rfl⟩
  go_wp2_with fail
  refine (HA.out _ (by exact cell_row (heap_set (.int .u64 0) (heap_set (.int .i64 n) HR1.out)) 5 _ rfl) (by exact (HM1.out.keep (by exact (heap_set_other (Ne.symm HN.out)).trans (heap_set_other (Ne.symm HN.out)))))).mono ?_
  rintro e w2 ⟨rfl, hm2, hb2⟩
  have HT2 := Lib.hid (((HB.out.set (fun _ => .inl rfl) 9 (.int .i64 n)).set (fun _ => .inl rfl) 14 (.int .u64 0)).drawnN k |>.trans (Turn.of_but (F := fun k => k = x ∨ k = mb) hb2 fun _ => .inr rfl) (fun _ _ h => h))
  have HM2 := Lib.hid hm2
  have HR2 := Lib.hid ((hb2.block x (by have := lt_row HR1.out; simpa [World.setCell] using this) HN.out).trans (heap_set (.int .u64 0) (heap_set (.int .i64 n) HR1.out)))
  simp only [List.setIfInBounds_toArray, List.set_cons_succ, List.set_cons_zero] at HR2
  clear hm2 hb2 q5 q9 q14 qf
  go_wp2_with fail
  refine (HF.out _ (by exact HR2.out)).mono ?_
  rintro e w3 ⟨⟨u, rfl⟩, hr, hb⟩
  have H3 := Lib.hid (And.intro hr (And.intro (HM2.out.keep (hb.block mb HM2.out.lt (Ne.symm HN.out))) (HT2.out.trans (Turn.of_but (F := fun k => k = x ∨ k = mb) hb fun _ => .inl rfl) (fun _ _ h => h))))
  clear hr hb
  go_wp2_with fail
  go_end0
  exact ⟨⟨_, rfl⟩, H3.out.1, H3.out.2.1, H3.out.2.2⟩

theorem goOn138_keys (x : Nat) (k0 k1 k2 k3 k6 k7 k8 k9 k11 k12 k13 k14 : Value) (li : Nat) (hl : li ≤ 1000) (fs : Bool) (mb S cm : Nat) (hne : x ≠ mb) (met : Nat → Bool) (n : Nat) (hn : n < S) (hS : S ≤ 100000) (X : Int) (hX : U64 X) (hz : toW X = n) (hmt : met n = false) (h0 : li ≠ 0) (w : World)
    (h : w.heap[x]? = some (.cells #[k0, k1, k2, k3, .int .i64 li, .slice (some ⟨mb, 0, none⟩) S cm, k6, k7, k8, k9, .bool fs, k11, k12, k13, k14] 149 (0, 0))) (hm : RowAt w mb S fun k => .bool (met k)) :
    Calls Tryz.prog 138 #[.pointer (some ⟨x, 0, none⟩), .int .u64 X] w (RowMet x mb S #[k0, k1, .int .i64 1, k3, .int .i64 li, .slice (some ⟨mb, 0, none⟩) S cm, k6, k7, k8, .int .i64 n, .bool fs, k11, k12, k13, .int .u64 0] (addMet met n) w) := by
  have HT : Hid (∀ w, Calls Tryz.prog 136 #[.int .u64 X] w (Gives (.int .i64 n) w)) := Lib.hid fun w => by rw [← hz]; exact to136 X hX w
  have HA : Hid (∀ w, w.cell? ⟨x, 5, none⟩ = some (.slice (some ⟨mb, 0, none⟩) S cm) → RowAt w mb S (fun k => .bool (met k)) → Calls Tryz.prog 227 #[.pointer (some ⟨x, 5, none⟩), .int .i64 n] w fun e w' => e = .returned (.bool true) ∧ RowAt w' mb S (fun k => .bool (addMet met n k)) ∧ But mb w w') := Lib.hid fun w h1 h2 => by
    have := add227 x mb S cm met n hn hS w h1 h2; rw [hmt] at this; exact this
  have HR := Lib.hid h
  have HM := Lib.hid hm
  have HN := Lib.hid hne
  have e1 : ((n : Int) == -1) = false := by rw [beq_eq_false_iff_ne]; omega
  have i0 : (0 : Int) ≤ (n : Int) := by omega
  have e2 : ((li : Int) != 0) = true := by simp; omega
  clear h0
  clear h hm hX hz hmt
  go_enter Tryz.func138, Tryz.ntmps138
  go_wp2_with fail
  refine (HT.out _).mono ?_
  rintro e w1 ⟨rfl, hb⟩
  have HB := Lib.hid (Turn.of_below (F := fun k => k = x ∨ k = mb) hb)
  have HR1 := Lib.hid ((hb.block x (lt_row HR.out)).trans HR.out)
  have HM1 := Lib.hid (HM.out.keep (hb.block mb HM.out.lt))
  have q5 := cell_row HR1.out 5 _ rfl
  have q9 := cell_row HR1.out 9 _ rfl
  have q14 := cell_row HR1.out 14 _ rfl
  have qf := free_row HR1.out
  clear hb
  go_wp2_with fail
  refine region_qd 0 7 (by kernel_rfl) (by kernel_rfl) (fun _ _ d _ _ h => by cases d <;> exact h) ?_
  simp only [List.take_succ_cons, List.take_zero, List.drop_succ_cons, List.drop_zero, Nat.reduceAdd]
  repeat (first | go_big_quiet_skip | (go_big_quiet_want; go_big_quiet_op; go_big_quiet_on))
  refine wpQuiet_nil ?_
  repeat (first | go_big_quiet_skip | (go_big_quiet_want; go_big_quiet_op; first | go_big_quiet_on))
  refine wpQuiet_nil ?_
  rintro _ ⟨k, rfl⟩
  go_wp2_with fail
  refine (HA.out _ (by exact cell_row (heap_set (.int .u64 0) (heap_set (.int .i64 n) HR1.out)) 5 _ rfl) (by exact (HM1.out.keep (by exact (heap_set_other (Ne.symm HN.out)).trans (heap_set_other (Ne.symm HN.out)))))).mono ?_
  rintro e w2 ⟨rfl, hm2, hb2⟩
  have HT2 := Lib.hid (((HB.out.set (fun _ => .inl rfl) 9 (.int .i64 n)).set (fun _ => .inl rfl) 14 (.int .u64 0)).drawnN k |>.trans (Turn.of_but (F := fun k => k = x ∨ k = mb) hb2 fun _ => .inr rfl) (fun _ _ h => h))
  have HM2 := Lib.hid hm2
  have HR2 := Lib.hid ((hb2.block x (by have := lt_row HR1.out; simpa [World.setCell] using this) HN.out).trans (heap_set (.int .u64 0) (heap_set (.int .i64 n) HR1.out)))
  simp only [List.setIfInBounds_toArray, List.set_cons_succ, List.set_cons_zero] at HR2
  clear hm2 hb2 q5 q9 q14 qf
  have q2 := cell_row HR2.out 2 _ rfl
  have q4 := cell_row HR2.out 4 _ rfl
  have q10 := cell_row HR2.out 10 _ rfl
  have qf := free_row HR2.out
  go_wp2_with fail
  go_end0
  exact ⟨⟨_, rfl⟩, heap_set _ HR2.out, HM2.out.keep (heap_set_other (Ne.symm HN.out)), HT2.out.set (fun _ => .inl rfl) _ _⟩

theorem goOn138_links (x : Nat) (k0 k1 k2 k3 k6 k7 k8 k9 k11 k12 k13 k14 : Value) (li : Nat) (hl : li ≤ 1000) (fs : Bool) (mb S cm : Nat) (hne : x ≠ mb) (met : Nat → Bool) (n : Nat) (hn : n < S) (hS : S ≤ 100000) (X : Int) (hX : U64 X) (hz : toW X = n) (hmt : met n = false) (h0 : li = 0) (hfs : fs = true) (w : World)
    (h : w.heap[x]? = some (.cells #[k0, k1, k2, k3, .int .i64 li, .slice (some ⟨mb, 0, none⟩) S cm, k6, k7, k8, k9, .bool fs, k11, k12, k13, k14] 149 (0, 0))) (hm : RowAt w mb S fun k => .bool (met k)) :
    Calls Tryz.prog 138 #[.pointer (some ⟨x, 0, none⟩), .int .u64 X] w (RowMet x mb S #[k0, k1, .int .i64 3, k3, .int .i64 li, .slice (some ⟨mb, 0, none⟩) S cm, k6, k7, k8, .int .i64 n, .bool fs, k11, k12, k13, .int .u64 0] (addMet met n) w) := by
  have HT : Hid (∀ w, Calls Tryz.prog 136 #[.int .u64 X] w (Gives (.int .i64 n) w)) := Lib.hid fun w => by rw [← hz]; exact to136 X hX w
  have HA : Hid (∀ w, w.cell? ⟨x, 5, none⟩ = some (.slice (some ⟨mb, 0, none⟩) S cm) → RowAt w mb S (fun k => .bool (met k)) → Calls Tryz.prog 227 #[.pointer (some ⟨x, 5, none⟩), .int .i64 n] w fun e w' => e = .returned (.bool true) ∧ RowAt w' mb S (fun k => .bool (addMet met n k)) ∧ But mb w w') := Lib.hid fun w h1 h2 => by
    have := add227 x mb S cm met n hn hS w h1 h2; rw [hmt] at this; exact this
  have HR := Lib.hid h
  have HM := Lib.hid hm
  have HN := Lib.hid hne
  have e1 : ((n : Int) == -1) = false := by rw [beq_eq_false_iff_ne]; omega
  have i0 : (0 : Int) ≤ (n : Int) := by omega
  have e2 : ((li : Int) != 0) = false := by simp; omega
  subst hfs
  clear h0
  clear h hm hX hz hmt
  go_enter Tryz.func138, Tryz.ntmps138
  go_wp2_with fail
  refine (HT.out _).mono ?_
  rintro e w1 ⟨rfl, hb⟩
  have HB := Lib.hid (Turn.of_below (F := fun k => k = x ∨ k = mb) hb)
  have HR1 := Lib.hid ((hb.block x (lt_row HR.out)).trans HR.out)
  have HM1 := Lib.hid (HM.out.keep (hb.block mb HM.out.lt))
  have q5 := cell_row HR1.out 5 _ rfl
  have q9 := cell_row HR1.out 9 _ rfl
  have q14 := cell_row HR1.out 14 _ rfl
  have qf := free_row HR1.out
  clear hb
  go_wp2_with fail
  refine region_qd 0 7 (by kernel_rfl) (by kernel_rfl) (fun _ _ d _ _ h => by cases d <;> exact h) ?_
  simp only [List.take_succ_cons, List.take_zero, List.drop_succ_cons, List.drop_zero, Nat.reduceAdd]
  repeat (first | go_big_quiet_skip | (go_big_quiet_want; go_big_quiet_op; go_big_quiet_on))
  refine wpQuiet_nil ?_
  repeat (first | go_big_quiet_skip | (go_big_quiet_want; go_big_quiet_op; first | go_big_quiet_on))
  refine wpQuiet_nil ?_
  rintro _ ⟨k, rfl⟩
  go_wp2_with fail
  refine (HA.out _ (by exact cell_row (heap_set (.int .u64 0) (heap_set (.int .i64 n) HR1.out)) 5 _ rfl) (by exact (HM1.out.keep (by exact (heap_set_other (Ne.symm HN.out)).trans (heap_set_other (Ne.symm HN.out)))))).mono ?_
  rintro e w2 ⟨rfl, hm2, hb2⟩
  have HT2 := Lib.hid (((HB.out.set (fun _ => .inl rfl) 9 (.int .i64 n)).set (fun _ => .inl rfl) 14 (.int .u64 0)).drawnN k |>.trans (Turn.of_but (F := fun k => k = x ∨ k = mb) hb2 fun _ => .inr rfl) (fun _ _ h => h))
  have HM2 := Lib.hid hm2
  have HR2 := Lib.hid ((hb2.block x (by have := lt_row HR1.out; simpa [World.setCell] using this) HN.out).trans (heap_set (.int .u64 0) (heap_set (.int .i64 n) HR1.out)))
  simp only [List.setIfInBounds_toArray, List.set_cons_succ, List.set_cons_zero] at HR2
  clear hm2 hb2 q5 q9 q14 qf
  have q2 := cell_row HR2.out 2 _ rfl
  have q4 := cell_row HR2.out 4 _ rfl
  have q10 := cell_row HR2.out 10 _ rfl
  have qf := free_row HR2.out
  go_wp2_with fail
  go_end0
  exact ⟨⟨_, rfl⟩, heap_set _ HR2.out, HM2.out.keep (heap_set_other (Ne.symm HN.out)), HT2.out.set (fun _ => .inl rfl) _ _⟩

theorem goOn138_vals (x : Nat) (k0 k1 k2 k3 k6 k7 k8 k9 k11 k12 k13 k14 : Value) (li : Nat) (hl : li ≤ 1000) (fs : Bool) (mb S cm : Nat) (hne : x ≠ mb) (met : Nat → Bool) (n : Nat) (hn : n < S) (hS : S ≤ 100000) (X : Int) (hX : U64 X) (hz : toW X = n) (hmt : met n = false) (h0 : li = 0) (hfs : fs = false) (w : World)
    (h : w.heap[x]? = some (.cells #[k0, k1, k2, k3, .int .i64 li, .slice (some ⟨mb, 0, none⟩) S cm, k6, k7, k8, k9, .bool fs, k11, k12, k13, k14] 149 (0, 0))) (hm : RowAt w mb S fun k => .bool (met k)) :
    Calls Tryz.prog 138 #[.pointer (some ⟨x, 0, none⟩), .int .u64 X] w (RowMet x mb S #[k0, k1, .int .i64 2, k3, .int .i64 li, .slice (some ⟨mb, 0, none⟩) S cm, k6, k7, k8, .int .i64 n, .bool fs, k11, k12, k13, .int .u64 0] (addMet met n) w) := by
  have HT : Hid (∀ w, Calls Tryz.prog 136 #[.int .u64 X] w (Gives (.int .i64 n) w)) := Lib.hid fun w => by rw [← hz]; exact to136 X hX w
  have HA : Hid (∀ w, w.cell? ⟨x, 5, none⟩ = some (.slice (some ⟨mb, 0, none⟩) S cm) → RowAt w mb S (fun k => .bool (met k)) → Calls Tryz.prog 227 #[.pointer (some ⟨x, 5, none⟩), .int .i64 n] w fun e w' => e = .returned (.bool true) ∧ RowAt w' mb S (fun k => .bool (addMet met n k)) ∧ But mb w w') := Lib.hid fun w h1 h2 => by
    have := add227 x mb S cm met n hn hS w h1 h2; rw [hmt] at this; exact this
  have HR := Lib.hid h
  have HM := Lib.hid hm
  have HN := Lib.hid hne
  have e1 : ((n : Int) == -1) = false := by rw [beq_eq_false_iff_ne]; omega
  have i0 : (0 : Int) ≤ (n : Int) := by omega
  have e2 : ((li : Int) != 0) = false := by simp; omega
  subst hfs
  clear h0
  clear h hm hX hz hmt
  go_enter Tryz.func138, Tryz.ntmps138
  go_wp2_with fail
  refine (HT.out _).mono ?_
  rintro e w1 ⟨rfl, hb⟩
  have HB := Lib.hid (Turn.of_below (F := fun k => k = x ∨ k = mb) hb)
  have HR1 := Lib.hid ((hb.block x (lt_row HR.out)).trans HR.out)
  have HM1 := Lib.hid (HM.out.keep (hb.block mb HM.out.lt))
  have q5 := cell_row HR1.out 5 _ rfl
  have q9 := cell_row HR1.out 9 _ rfl
  have q14 := cell_row HR1.out 14 _ rfl
  have qf := free_row HR1.out
  clear hb
  go_wp2_with fail
  refine region_qd 0 7 (by kernel_rfl) (by kernel_rfl) (fun _ _ d _ _ h => by cases d <;> exact h) ?_
  simp only [List.take_succ_cons, List.take_zero, List.drop_succ_cons, List.drop_zero, Nat.reduceAdd]
  repeat (first | go_big_quiet_skip | (go_big_quiet_want; go_big_quiet_op; go_big_quiet_on))
  refine wpQuiet_nil ?_
  repeat (first | go_big_quiet_skip | (go_big_quiet_want; go_big_quiet_op; first | go_big_quiet_on))
  refine wpQuiet_nil ?_
  rintro _ ⟨k, rfl⟩
  go_wp2_with fail
  refine (HA.out _ (by exact cell_row (heap_set (.int .u64 0) (heap_set (.int .i64 n) HR1.out)) 5 _ rfl) (by exact (HM1.out.keep (by exact (heap_set_other (Ne.symm HN.out)).trans (heap_set_other (Ne.symm HN.out)))))).mono ?_
  rintro e w2 ⟨rfl, hm2, hb2⟩
  have HT2 := Lib.hid (((HB.out.set (fun _ => .inl rfl) 9 (.int .i64 n)).set (fun _ => .inl rfl) 14 (.int .u64 0)).drawnN k |>.trans (Turn.of_but (F := fun k => k = x ∨ k = mb) hb2 fun _ => .inr rfl) (fun _ _ h => h))
  have HM2 := Lib.hid hm2
  have HR2 := Lib.hid ((hb2.block x (by have := lt_row HR1.out; simpa [World.setCell] using this) HN.out).trans (heap_set (.int .u64 0) (heap_set (.int .i64 n) HR1.out)))
  simp only [List.setIfInBounds_toArray, List.set_cons_succ, List.set_cons_zero] at HR2
  clear hm2 hb2 q5 q9 q14 qf
  have q2 := cell_row HR2.out 2 _ rfl
  have q4 := cell_row HR2.out 4 _ rfl
  have q10 := cell_row HR2.out 10 _ rfl
  have qf := free_row HR2.out
  go_wp2_with fail
  go_end0
  exact ⟨⟨_, rfl⟩, heap_set _ HR2.out, HM2.out.keep (heap_set_other (Ne.symm HN.out)), HT2.out.set (fun _ => .inl rfl) _ _⟩

end Go.Proofs.YtibelcmdfkgonaaGreat

namespace Go.Proofs.YtibelcmdfkgonaaGreat
open Go.RowKit Go.BigFrame
set_option linter.unusedVariables false
set_option linter.unusedSimpArgs false
theorem no43 : ¬ (4 : Nat) ≤ 3 := by decide
theorem no10 : ¬ (1 : Nat) ≤ 0 := by decide
theorem z64 : (0 : Nat) < 18446744073709551616 := by decide
/-- Its row and what was met have turned. -/
theorem MkAt.to_met {W W' : World} {K : Mk} {e : Ending} {c : Array Value} {m : Nat → Bool} (h : MkAt W K) (s' : MS) (hr : RowMet K.x K.mb K.S c m W e W') (hc : c = ({ K with s := s' } : Mk).cells) (e1 : s'.met = m) (e2 : s'.heads = K.s.heads) (e3 : s'.nodes = K.s.nodes)
    (li : s'.list ≤ K.nh) (lip : s'.pc ≠ 4 → s'.list < K.nh) (sl : 1 ≤ s'.pc → s'.pc ≤ 3 → 1 ≤ s'.slot ∧ s'.slot ≤ K.S) (ky : s'.key < 18446744073709551616) (vl : s'.val < 18446744073709551616) : MkTo K s' W e W' := by
  obtain ⟨hu, h1, h2, h3⟩ := hr
  refine ⟨hu, h3.mono (fun k _ hk => ?_), K.hv, K.nv, ?_, fun _ hk => .inl hk, fun _ hk => .inl hk⟩
  · rcases hk with rfl | rfl
    · exact .inl rfl
    · exact .inr (.inr (.inl rfl))
  · have b : ∀ k, k < W.heap.size → k ≠ K.x → k ≠ K.mb → W'.heap[k]? = W.heap[k]? := fun k hk n1 n2 => h3.block k hk (by rintro (e | e); exact n1 e; exact n2 e)
    exact { row := by rw [← hc]; exact h1
            lay := h.lay.keep (b _ h.lay.lt (fun e => h.lo (.inl e)) (fun e => h.lo (.inr (.inr (.inl e)))))
            ways := h.ways.keep (b _ h.ways.lt (Ne.symm h.xw) h.wm)
            met := by show RowAt W' K.mb K.S fun k => .bool (s'.met k); rw [e1]; exact h2
            heads := by show W'.ownsRow 0 48 1 K.hv s'.heads.length (headsV s'.heads); rw [e2]; exact own_keep' h.heads fun k hk => b k (h.heads.lt k hk).2 (fun e => h.hx.1 (e ▸ hk)) (fun e => h.hx.2.2 (e ▸ hk))
            nodes := by show W'.ownsRow 0 50 4 K.nv s'.nodes.length (nodesV s'.nodes); rw [e3]; exact own_keep' h.nodes fun k hk => b k (h.nodes.lt k hk).2 (fun e => h.nx.1 (e ▸ hk)) (fun e => h.nx.2.2 (e ▸ hk))
            xw := h.xw, xm := h.xm, wm := h.wm, lo := h.lo, hx := h.hx, nx := h.nx, hn := h.hn, hS := h.hS, nh1 := h.nh1, li := li, lip := lip, sl := sl, ky := ky, vl := vl }
theorem goOn_at (g : Gd) (K : Mk) (hf : Fits g K) (x : Nat) (hx : x < 18446744073709551616) (hr : lo x ≤ K.S) (hl : K.s.list < K.nh) (hS : K.S ≤ 100000) (w : World) (h : MkAt w K) :
    Calls Tryz.prog 138 #[.pointer (some ⟨K.x, 0, none⟩), .int .u64 (x : Int)] w (MkTo K (K.s.goOn g x) w) := by
  have hX : U64 (x : Int) := by unfold U64; omega
  have hnh := h.nh1
  by_cases h0 : lo x = 0
  · have hz : toW (x : Int) = -1 := by rw [to_lo, h0]; rfl
    by_cases hbad : K.s.list = 0 ∧ K.s.free = false
    · have hs : K.s.goOn g x = { K.s with slot := 0, val := 0, corrupt := true, pc := 4 } := by
        unfold MS.goOn; rw [if_pos h0]; unfold MS.over; rw [if_pos hbad]; rfl
      rw [hs]
      refine (goOn138_over K.x _ _ _ _ _ _ _ _ _ _ _ _ _ _ _ (x : Int) hX hz _ (Lib.hid fun W hW => over226_bad K.x _ _ _ _ _ _ _ _ _ _ _ _ _ _ _ _ _ (by omega) (by omega) hbad.1 hbad.2 W hW) w h.row).mono fun e w' hr => ?_
      exact h.to_row _ hr rfl rfl rfl h.li (fun e => absurd rfl e) (fun _ e => absurd e no43) h.ky z64
    · by_cases hlast : K.s.list + 1 = K.nh
      · have hs : K.s.goOn g x = { K.s with slot := 0, val := 0, list := K.s.list + 1, pc := 4 } := by
          unfold MS.goOn; rw [if_pos h0]; unfold MS.over; rw [if_neg hbad, hf.nh, if_pos hlast]
        rw [hs]
        refine (goOn138_over K.x _ _ _ _ _ _ _ _ _ _ _ _ _ _ _ (x : Int) hX hz _ (Lib.hid fun W hW => over226_last K.x _ _ _ _ _ _ _ _ _ _ _ _ _ _ _ _ _ (by omega) (by omega) hbad hlast W hW) w h.row).mono fun e w' hr => ?_
        exact h.to_row _ hr rfl rfl rfl (by show K.s.list + 1 ≤ K.nh; omega) (fun e => absurd rfl e) (fun _ e => absurd e no43) h.ky z64
      · have hs : K.s.goOn g x = { K.s with slot := 0, val := 0, list := K.s.list + 1, pc := 0 } := by
          unfold MS.goOn; rw [if_pos h0]; unfold MS.over; rw [if_neg hbad, hf.nh, if_neg hlast]
        rw [hs]
        refine (goOn138_over K.x _ _ _ _ _ _ _ _ _ _ _ _ _ _ _ (x : Int) hX hz _ (Lib.hid fun W hW => over226_more K.x _ _ _ _ _ _ _ _ _ _ _ _ _ _ _ _ _ (by omega) (by omega) hbad hlast W hW) w h.row).mono fun e w' hr => ?_
        exact h.to_row _ hr rfl rfl rfl (by show K.s.list + 1 ≤ K.nh; omega) (fun _ => by show K.s.list + 1 < K.nh; omega) (fun e => absurd e no10) h.ky z64
  · obtain ⟨n, hn⟩ : ∃ n, n = lo x - 1 := ⟨_, rfl⟩
    have hz : toW (x : Int) = (n : Int) := by rw [to_lo]; omega
    have hnS : n < K.S := by omega
    have hlo : lo x = n + 1 := by omega
    have hsl : (((n + 1 : Nat) : Int) - 1) = (n : Int) := by omega
    cases hmt : K.s.met n with
    | true =>
      have hs : K.s.goOn g x = { K.s with slot := n + 1, val := 0, corrupt := true, pc := 4 } := by
        unfold MS.goOn; rw [if_neg h0, if_pos (by rw [← hn]; exact hmt), hlo]; rfl
      rw [hs]
      refine (goOn138_met K.x _ _ _ _ _ _ _ _ _ _ _ _ K.s.list (by omega) K.s.first K.mb K.S K.cm h.xm K.s.met n hnS hS (x : Int) hX hz hmt w h.row h.met).mono fun e w' hr => ?_
      refine h.to_met _ hr (by simp only [Mk.cells, hsl]; rfl) ?_ rfl rfl h.li (fun e => absurd rfl e) (fun _ e => absurd e no43) h.ky z64
      funext k; unfold addMet; split
      · rename_i e; rw [e]; exact hmt
      · rfl
    | false =>
      by_cases hl0 : K.s.list = 0
      · cases hfs : K.s.first with
        | true =>
          have hs : K.s.goOn g x = { K.s with slot := n + 1, val := 0, met := addMet K.s.met n, pc := 3 } := by
            unfold MS.goOn; rw [if_neg h0, ← hn, if_neg (by rw [hmt]; decide), hlo, if_neg (by omega), if_pos hfs]
          rw [hs]
          refine (goOn138_links K.x _ _ _ _ _ _ _ _ _ _ _ _ K.s.list (by omega) K.s.first K.mb K.S K.cm h.xm K.s.met n hnS hS (x : Int) hX hz hmt hl0 hfs w h.row h.met).mono fun e w' hr => ?_
          exact h.to_met _ hr (by simp only [Mk.cells, hsl]; rfl) rfl rfl rfl h.li (fun _ => hl) (fun _ _ => ⟨by show 1 ≤ n + 1; omega, by show n + 1 ≤ K.S; omega⟩) h.ky z64
        | false =>
          have hs : K.s.goOn g x = { K.s with slot := n + 1, val := 0, met := addMet K.s.met n, pc := 2 } := by
            unfold MS.goOn; rw [if_neg h0, ← hn, if_neg (by rw [hmt]; decide), hlo, if_neg (by omega), if_neg (by rw [hfs]; decide)]
          rw [hs]
          refine (goOn138_vals K.x _ _ _ _ _ _ _ _ _ _ _ _ K.s.list (by omega) K.s.first K.mb K.S K.cm h.xm K.s.met n hnS hS (x : Int) hX hz hmt hl0 hfs w h.row h.met).mono fun e w' hr => ?_
          exact h.to_met _ hr (by simp only [Mk.cells, hsl]; rfl) rfl rfl rfl h.li (fun _ => hl) (fun _ _ => ⟨by show 1 ≤ n + 1; omega, by show n + 1 ≤ K.S; omega⟩) h.ky z64
      · have hs : K.s.goOn g x = { K.s with slot := n + 1, val := 0, met := addMet K.s.met n, pc := 1 } := by
          unfold MS.goOn; rw [if_neg h0, ← hn, if_neg (by rw [hmt]; decide), hlo, if_pos hl0]
        rw [hs]
        refine (goOn138_keys K.x _ _ _ _ _ _ _ _ _ _ _ _ K.s.list (by omega) K.s.first K.mb K.S K.cm h.xm K.s.met n hnS hS (x : Int) hX hz hmt hl0 w h.row h.met).mono fun e w' hr => ?_
        exact h.to_met _ hr (by simp only [Mk.cells, hsl]; rfl) rfl rfl rfl h.li (fun _ => hl) (fun _ _ => ⟨by show 1 ≤ n + 1; omega, by show n + 1 ≤ K.S; omega⟩) h.ky z64

end Go.Proofs.YtibelcmdfkgonaaGreat

namespace Go.Proofs.YtibelcmdfkgonaaGreat
open Go.RowKit Go.BigFrame
set_option linter.unusedVariables false
set_option linter.unusedSimpArgs false
/-- 'append(s, x)' of new elements that lie in the block just made; where the slice lies then. -/
theorem wpList_push_at {P : Program} {ops : Array Oper} {rest : List Oper} {o : Oper} {a : Act} {Q : Exit → Act → World → Prop} (hgd : o.guard = none) (s x : Operand) (t : TypeId)
    (ho : o.op = .call { callee := .builtin .append, args := #[s, x], argTypes := #[t, t] })
    (e : TypeId) (i : TypeInfo) (z : Value) (size bytes : Nat) (ht : P.underlying t = some (.slice e)) (hi : P.info? e = some i) (hz : i.zero = some z)
    (hsize : i.size = size) (hby : i.bytes = bytes) (hzs : z.cells.size = size) (hsz : 0 < size)
    (wr : World) (v : Value) (n : Nat) (xs : List Value) (hs : a.eval s = v) (hown : wr.ownsRow 0 e size v n xs)
    (cs : Array Value) (m c : Nat) (hx : a.eval x = .slice (some ⟨wr.heap.size, 0, none⟩) m c) (hl : cs.size = m * size) (h1 : ∀ u ∈ cs.toList, u.oneCell' = true)
    (h63 : n + m ≤ maxLen) (hbytes : (n + m) * bytes ≤ 140737488355328)
    (h : ∀ v' w', w'.ownsRow 0 e size v' (n + m) (xs ++ cs.toList) → (wr.alloc (.cells cs e)).grownBy w' v.ownBlock → (v'.ownBlock = v.ownBlock ∨ v'.ownBlock = some (wr.heap.size + 1)) → wpList P ops Q rest (a.put o.dst v') w') :
    wpList P ops Q (o :: rest) a (wr.alloc (.cells cs e)) := by
  refine wpList_append_own_at _ hgd s x t ho 0 e i z size bytes ht hi hz hsize hby hzs hsz v n xs hs (hown.alloc _) ⟨wr.heap.size, 0, none⟩ m c cs.toList hx (by simpa using hl) (fun j u hj => cell_alloc wr cs e j u hj) h1 h63 hbytes (Nat.zero_le _) ?_
  intro v' w' ho' hg' _ hat
  refine h v' w' ho' hg' ?_
  rcases hat with hat | hat
  · exact .inl hat
  · exact .inr (by rw [hat]; simp)
/-- A mark whose lists lie anew. -/
theorem MkAt.renew {W W1 : World} {K : Mk} (h : MkAt W K) (hv1 nv1 : Value) (s1 : MS) (hrow : W1.heap[K.x]? = some (.cells ({ K with s := s1, hv := hv1, nv := nv1 } : Mk).cells 149 (0, 0)))
    (kb : ∀ k, k < W.heap.size → k ≠ K.x → K.hv.ownBlock ≠ some k → K.nv.ownBlock ≠ some k → W1.heap[k]? = W.heap[k]?)
    (heads : W1.ownsRow 0 48 1 hv1 s1.heads.length (headsV s1.heads)) (nodes : W1.ownsRow 0 50 4 nv1 s1.nodes.length (nodesV s1.nodes))
    (bh : ∀ k, hv1.ownBlock = some k → K.hv.ownBlock = some k ∨ W.heap.size ≤ k) (bn : ∀ k, nv1.ownBlock = some k → K.nv.ownBlock = some k ∨ W.heap.size ≤ k) (dj : ∀ k, hv1.ownBlock = some k → nv1.ownBlock ≠ some k)
    (e1 : s1.met = K.s.met) (li : s1.list ≤ K.nh) (lip : s1.pc ≠ 4 → s1.list < K.nh) (sl : 1 ≤ s1.pc → s1.pc ≤ 3 → 1 ≤ s1.slot ∧ s1.slot ≤ K.S) (ky : s1.key < 18446744073709551616) (vl : s1.val < 18446744073709551616) :
    MkAt W1 { K with s := s1, hv := hv1, nv := nv1 } := by
  have lx := lt_row h.row
  have nh : ∀ k, k < W.heap.size → K.hv.ownBlock ≠ some k → hv1.ownBlock ≠ some k := fun k hk hn e => by rcases bh k e with h1 | h1; exact hn h1; omega
  have nn : ∀ k, k < W.heap.size → K.nv.ownBlock ≠ some k → nv1.ownBlock ≠ some k := fun k hk hn e => by rcases bn k e with h1 | h1; exact hn h1; omega
  have hlo := h.lo
  have nl : K.l ≠ K.x ∧ K.l ≠ K.wb ∧ K.l ≠ K.mb ∧ K.hv.ownBlock ≠ some K.l ∧ K.nv.ownBlock ≠ some K.l :=
    ⟨fun e => hlo (.inl e), fun e => hlo (.inr (.inl e)), fun e => hlo (.inr (.inr (.inl e))), fun e => hlo (.inr (.inr (.inr (.inl e)))), fun e => hlo (.inr (.inr (.inr (.inr e))))⟩
  exact
  { row := hrow
    lay := h.lay.keep (kb _ h.lay.lt nl.1 nl.2.2.2.1 nl.2.2.2.2)
    ways := h.ways.keep (kb _ h.ways.lt (Ne.symm h.xw) h.hx.2.1 h.nx.2.1)
    met := by show RowAt W1 K.mb K.S fun k => .bool (s1.met k); rw [e1]; exact h.met.keep (kb _ h.met.lt (Ne.symm h.xm) h.hx.2.2 h.nx.2.2)
    heads := heads
    nodes := nodes
    xw := h.xw, xm := h.xm, wm := h.wm
    lo := by
      rintro (e | e | e | e | e)
      · exact nl.1 e
      · exact nl.2.1 e
      · exact nl.2.2.1 e
      · exact nh _ h.lay.lt nl.2.2.2.1 e
      · exact nn _ h.lay.lt nl.2.2.2.2 e
    hx := ⟨nh _ lx h.hx.1, nh _ h.ways.lt h.hx.2.1, nh _ h.met.lt h.hx.2.2⟩
    nx := ⟨nn _ lx h.nx.1, nn _ h.ways.lt h.nx.2.1, nn _ h.met.lt h.nx.2.2⟩
    hn := dj, hS := h.hS, nh1 := h.nh1, li := li, lip := lip, sl := sl, ky := ky, vl := vl }
/-- First a turn of its own, then a step. -/
theorem MkTo.after {W W1 W' : World} {K : Mk} {hv1 nv1 : Value} {s1 s' : MS} {e : Ending} (h : MkAt W K) (t : Turn K.own W W1)
    (bh : ∀ k, hv1.ownBlock = some k → K.hv.ownBlock = some k ∨ W.heap.size ≤ k) (bn : ∀ k, nv1.ownBlock = some k → K.nv.ownBlock = some k ∨ W.heap.size ≤ k)
    (k : MkTo { K with s := s1, hv := hv1, nv := nv1 } s' W1 e W') : MkTo K s' W e W' := by
  obtain ⟨hu, t2, hv2, nv2, h2, b1, b2⟩ := k
  refine ⟨hu, t.trans t2 (fun k hk ho => ?_), hv2, nv2, h2, fun k hk => ?_, fun k hk => ?_⟩
  · rcases ho with e | e | e | e | e
    · exact .inl e
    · exact .inr (.inl e)
    · exact .inr (.inr (.inl e))
    · rcases bh k e with h1 | h1
      · exact .inr (.inr (.inr (.inl h1)))
      · omega
    · rcases bn k e with h1 | h1
      · exact .inr (.inr (.inr (.inr h1)))
      · omega
  · rcases b1 k hk with h1 | h1
    · exact bh k h1
    · exact .inr (Nat.le_trans t.size h1)
  · rcases b2 k hk with h1 | h1
    · exact bn k h1
    · exact .inr (Nat.le_trans t.size h1)
end Go.Proofs.YtibelcmdfkgonaaGreat
