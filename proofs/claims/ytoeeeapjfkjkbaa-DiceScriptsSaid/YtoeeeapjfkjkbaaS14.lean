/- Layer 35 (dice): the law DiceScripts, walked: where a script is thrown. -/
import Derived.Test.YtoeeeapjfkjkbaaS8
import Derived.Test.YtoeeeapjfkjkbaaS12
namespace Go.Proofs.Ytoeeeapjfkjkbaa
open Go.RowKit Go.BigFrame
set_option linter.unusedVariables false
set_option linter.unusedSimpArgs false

/-- The law's two boxes. -/
structure TwoAt (w W : World) (q : Nat) (c : Cfg) (N M : Int) : Prop where
  hq : q = w.heap.size
  b0 : W.heap[q]? = some (.cells #[.int .i64 c.th, .int .i64 c.sl, .int .i64 c.lo, .int .i64 c.bu] 23 (0, 0))
  b1 : W.heap[q + 1]? = some (.cells #[.int .i64 N, .int .u8 M] 26 (0, 0))
  below : Below w.heap.size w W
theorem TwoAt.next {w W W' : World} {q : Nat} {c : Cfg} {N M : Int} (h : TwoAt w W q c N M) (hb : Below W.heap.size W W') : TwoAt w W' q c N M :=
  ⟨h.hq, (hb.block q (Array.getElem?_eq_some_iff.1 h.b0).1).trans h.b0, (hb.block (q + 1) (Array.getElem?_eq_some_iff.1 h.b1).1).trans h.b1, h.below.trans (hb.mono h.below.size)⟩
theorem TwoAt.cells {w W : World} {q : Nat} {c : Cfg} {N M : Int} (h : TwoAt w W q c N M) : W.cell? ⟨q, 0, none⟩ = some (.int .i64 c.th) ∧ W.cell? ⟨q, 1, none⟩ = some (.int .i64 c.sl) ∧ W.cell? ⟨q, 2, none⟩ = some (.int .i64 c.lo) ∧ W.cell? ⟨q, 3, none⟩ = some (.int .i64 c.bu) ∧
    W.cell? ⟨q + 1, 0, none⟩ = some (.int .i64 N) ∧ W.cell? ⟨q + 1, 1, none⟩ = some (.int .u8 M) := by
  refine ⟨?_, ?_, ?_, ?_, ?_, ?_⟩
  · rw [cell_of_row _ _ _ _ _ _ h.b0]; rfl
  · rw [cell_of_row _ _ _ _ _ _ h.b0]; rfl
  · rw [cell_of_row _ _ _ _ _ _ h.b0]; rfl
  · rw [cell_of_row _ _ _ _ _ _ h.b0]; rfl
  · rw [cell_of_row _ _ _ _ _ _ h.b1]; rfl
  · rw [cell_of_row _ _ _ _ _ _ h.b1]; rfl

theorem own_slice_n {w : World} {base : Nat} {e : TypeId} {size : Nat} {v : Value} {n : Nat} {xs : List Value} (h : w.ownsRow base e size v n xs) : ∃ a c, v = .slice a n c := by
  rcases h.2 with ⟨rfl, rfl⟩ | ⟨g, cap, cur, rfl, -⟩
  · exact ⟨_, _, rfl⟩
  · exact ⟨_, _, rfl⟩
theorem own_open2 {w : World} {base n m cap : Nat} {a : Option Addr} {l : List Value} (h : w.ownsRow base 38 6 (.slice a m cap) n l) (hn : 0 < n) : ∃ g, a = some ⟨g, 0, none⟩ ∧ g < w.heap.size ∧ ∀ j u, l[j]? = some u → w.cell? ⟨g, j, none⟩ = some u := by
  obtain ⟨g, m', cap', hv, -, hc⟩ := own_open h hn
  cases hv
  obtain ⟨-, cs, t, f, he⟩ := own_cells h rfl
  exact ⟨g, rfl, (Array.getElem?_eq_some_iff.1 he).1, hc⟩
theorem act_at {L : List ActD} {X : ActD} {k g len : Nat} {w wr : World} (hX : X = L.getD k ⟨0, 0, 0, 0, 0, 0⟩) (hl : len = L.length) (hk : k < len) (hc : ∀ j u, (actCells L)[j]? = some u → w.cell? ⟨g, j, none⟩ = some u) (hg : g < w.heap.size) (hb : Below w.heap.size w wr) :
    wr.cell? ⟨g, k * 6, none⟩ = some (.int .i64 X.ki) ∧ wr.cell? ⟨g, k * 6 + 1, none⟩ = some (.int .i64 X.th) ∧ wr.cell? ⟨g, k * 6 + 2, none⟩ = some (.int .i64 X.li) ∧ wr.cell? ⟨g, k * 6 + 3, none⟩ = some (.int .i64 X.ok) ∧ wr.cell? ⟨g, k * 6 + 4, none⟩ = some (.int .u32 X.key) ∧ wr.cell? ⟨g, k * 6 + 5, none⟩ = some (.int .u32 X.val) := by
  have hk2 : k < L.length := by omega
  have at' : ∀ r u, r < 6 → X.cells.toList[r]? = some u → wr.cell? ⟨g, k * 6 + r, none⟩ = some u := fun r u hr hu => by
    rw [hb.cell (p := ⟨g, k * 6 + r, none⟩) hg]
    exact hc _ _ (by rw [actCells_at L k r hk2 hr, ← hX]; exact hu)
  exact ⟨at' 0 _ (by omega) rfl, at' 1 _ (by omega) rfl, at' 2 _ (by omega) rfl, at' 3 _ (by omega) rfl, at' 4 _ (by omega) rfl, at' 5 _ (by omega) rfl⟩

set_option maxRecDepth 100000 in
set_option maxHeartbeats 1000000 in
theorem law3_ok (c : Cfg) (seed : Int) (s0 : 0 ≤ seed) (s1 : seed ≤ 18446744073709551615) (N M : Int) (N0 : 0 ≤ N) (N1 : N ≤ 300) (m0 : 0 ≤ M) (m1 : M ≤ 255) (hr : c.right) (hfew : c.few) (w : World) :
    Calls Try.prog 3 #[.agg c.cells, .int .u64 seed, .agg #[.int .i64 N, .int .u8 M]] w (BoolOn true w) := by
  obtain ⟨q, hq⟩ : ∃ q, q = w.heap.size := ⟨_, rfl⟩
  obtain ⟨W, hW⟩ : ∃ W, W = (w.alloc (.cells #[.int .i64 c.th, .int .i64 c.sl, .int .i64 c.lo, .int .i64 c.bu] 23)).alloc (.cells #[.int .i64 N, .int .u8 M] 26) := ⟨_, rfl⟩
  have HT : Hid (TwoAt w W q c N M) := Lib.hid ⟨hq, by rw [hW, hq]; exact (Below.heap_alloc _ _ _ (by simp)).trans (heap_alloc_new w _), by
    have := heap_alloc_new (w.alloc (.cells #[.int .i64 c.th, .int .i64 c.sl, .int .i64 c.lo, .int .i64 c.bu] 23)) (.cells #[.int .i64 N, .int .u8 M] 26)
    rw [World.size_alloc] at this
    rw [hW, hq]; exact this, by rw [hW]; exact ((Below.refl _ w).alloc (Nat.le_refl _) _).alloc (by simp) _⟩
  obtain ⟨f, hf⟩ : ∃ f, f = (decide c.few || !decide c.right) := ⟨_, rfl⟩
  have H4 : Hid (∀ w, Calls Try.prog 4 #[.agg c.cells] w (BoolOn f w)) := Lib.hid fun w => by rw [hf]; exact few4 c w
  have HRR : Hid (∀ w, Calls Try.prog 7 #[.agg c.cells] w (BoolOn (decide c.right) w)) := Lib.hid fun w => refRight_any c w
  have HAW : Hid (∀ w, Calls Try.prog 5 #[] w fun e w' => e = .returned (.bool true) ∧ w = w') := Lib.hid fun w => awake_any w
  have HFD := Lib.hid hf
  have hf1 : f = true := by rw [hf, bool_yes hfew]; rfl
  subst hf1
  rw [bool_yes hr] at HRR
  clear hf HFD
  obtain ⟨n, hNn⟩ := Int.eq_ofNat_of_zero_le N0
  obtain ⟨m, hMm⟩ := Int.eq_ofNat_of_zero_le m0
  have hn : n ≤ 300 := by omega
  have hm : m ≤ 255 := by omega
  have H6 : Hid (∀ w, Calls Try.prog 6 #[.agg c.cells, .int .u64 seed, .int .i64 N] w (ScriptOk (playTo c seed n).1 w)) := Lib.hid fun w => by rw [hNn]; exact script6 c hfew seed s0 s1 n (by omega) w
  have H8 : Hid (∀ w, Calls Try.prog 8 #[.agg c.cells, .int .u64 seed, .int .i64 N] w (ScriptTo (playTo c seed n).1 w)) := Lib.hid fun w => by rw [hNn]; exact refScript8 c hfew seed s0 s1 n hn w
  have H6b : Hid (∀ w, Calls Try.prog 6 #[.agg c.cells, .int .u64 seed, .int .i64 (N + M)] w (ScriptOk (playTo c seed (n + m)).1 w)) := Lib.hid fun w => by
    have h := script6 c hfew seed s0 s1 (n + m) (by omega) w
    rw [Int.natCast_add, ← hNn, ← hMm] at h
    exact h
  have hl1 := playTo_len hfew seed n
  have hl2 := playTo_len hfew seed (n + m)
  obtain ⟨ext, hext⟩ := playTo_more c seed n m
  have d1 : decide (300 < N) = false := bool_no (by omega)
  have d3 : decide (N < 0) = false := bool_no (by omega)
  have d4 : decide (5000 < N) = false := bool_no (by omega)
  generalize (playTo c seed n).1 = L at *
  generalize (playTo c seed (n + m)).1 = L2 at *
  have HX10 : Hid (∀ k X, k < L.length → X = L.getD k ⟨0, 0, 0, 0, 0, 0⟩ → X = L2.getD k ⟨0, 0, 0, 0, 0, 0⟩) := Lib.hid fun k X hk hX => by
    rw [hX, hext]; simp [List.getD, List.getElem?_append_left hk]
  obtain ⟨len, hlen⟩ : ∃ len, len = L.length := ⟨_, rfl⟩
  obtain ⟨len2, hlen2⟩ : ∃ len2, len2 = L2.length := ⟨_, rfl⟩
  have hll : len ≤ len2 := by rw [hlen, hlen2, hext]; simp
  have HLN : Hid (len = L.length) := Lib.hid hlen
  have HLN2 : Hid (len2 = L2.length) := Lib.hid hlen2
  have hb1 : len ≤ 400000 := by omega
  have hb2 : len2 ≤ 400000 := by omega
  have d5 : decide ((len2 : Int) < (len : Int)) = false := bool_no (by omega)
  have d6 : decide (len2 < len) = false := bool_no (by omega)
  unfold ScriptOk at H6 H6b
  unfold ScriptTo at H8
  rw [← hlen] at H6 H8 HX10
  rw [← hlen2] at H6b
  have hq9 : w.heap.size = w.heap.size := rfl
  simp only [Cfg.cells] at *
  clear hr hfew hl1 hl2 hext hlen hlen2 hn hm hNn hMm hq9
  go_enter Try.func3, Try.ntmps3
  go_upto_region 1 with fail
  rw [← hq, ← hW]
  clear hq hW
  obtain ⟨c0, c1, c2, c3, n0, n1⟩ := HT.out.cells
  go_wp2_with fail
  refine (H4.out _).mono ?_
  rintro e w1 ⟨rfl, hb⟩
  have HT1 := Lib.hid (HT.out.next hb)
  clear hb HT c0 c1 c2 c3 n0 n1
  obtain ⟨c0, c1, c2, c3, n0, n1⟩ := HT1.out.cells
  go_wp2_with fail
  refine (H6.out _).mono ?_
  rintro e w2 ⟨v7, rfl, ho, hb⟩
  have HT2 := Lib.hid (HT1.out.next hb)
  have HO7 := Lib.hid ho
  have HS1 : Hid (w.heap.size ≤ w1.heap.size) := Lib.hid HT1.out.below.size
  clear ho hb HT1 c0 c1 c2 c3 n0 n1
  obtain ⟨c0, c1, c2, c3, n0, n1⟩ := HT2.out.cells
  obtain ⟨a7, k7, rfl⟩ := own_slice_n HO7.out
  go_wp2_with fail
  refine (HRR.out _).mono ?_
  rintro e w3 ⟨rfl, hb⟩
  have HT3 := Lib.hid (HT2.out.next hb)
  have HO7b := Lib.hid (own_keep HO7.out fun t _ ht => hb.block t ht)
  clear hb HO7 HT2 c0 c1 c2 c3 n0 n1
  obtain ⟨c0, c1, c2, c3, n0, n1⟩ := HT3.out.cells
  go_wp2_with fail
  refine (H8.out _).mono ?_
  rintro e w4 ⟨v9, rfl, ho, hb⟩
  have HT4 := Lib.hid (HT3.out.next hb)
  have HO7c := Lib.hid (own_keep HO7b.out fun t _ ht => hb.block t ht)
  have HO9 := Lib.hid ho
  clear ho hb HO7b HT3 c0 c1 c2 c3 n0 n1
  obtain ⟨c0, c1, c2, c3, n0, n1⟩ := HT4.out.cells
  obtain ⟨a9, k9, rfl⟩ := own_slice_n HO9.out
  clear H6 H8 HRR H4
  go_upto_region 9 with fail
  go_wp2_with fail
  refine (H6b.out _).mono ?_
  rintro e w5 ⟨v10, rfl, ho, hb⟩
  have HT5 := Lib.hid (HT4.out.next hb)
  have HO7d := Lib.hid (own_keep HO7c.out fun t _ ht => hb.block t ht)
  have HO9b := Lib.hid (own_keep HO9.out fun t _ ht => hb.block t ht)
  have HO10 := Lib.hid ho
  clear ho hb HO7c HO9 HT4 c0 c1 c2 c3 n0 n1
  obtain ⟨a10, k10, rfl⟩ := own_slice_n HO10.out
  go_wp2_with fail
  go_loopw [12] (fun i wr => ∃ k : Nat, k ≤ len ∧ i = .int .i64 k ∧ Hid (Below w5.heap.size w5 wr)) (fun i _ => len - (intOf i).toNat)
  case atStart => exact ⟨0, Nat.zero_le _, rfl, Lib.hid (Below.refl _ _)⟩
  case round =>
    obtain ⟨k, hk, rfl, HBE⟩ := hrel
    by_cases hlt : k < len
    · obtain ⟨g7, rfl, hg7, hc7⟩ := own_open2 HO7d.out (by omega)
      obtain ⟨g9, rfl, hg9, hc9⟩ := own_open2 HO9b.out (by omega)
      obtain ⟨g10, rfl, hg10, hc10⟩ := own_open2 HO10.out (by omega)
      obtain ⟨X, hX⟩ : ∃ X, X = L.getD k ⟨0, 0, 0, 0, 0, 0⟩ := ⟨_, rfl⟩
      have y := act_at hX HLN.out hlt hc7 hg7 HBE.out
      have z := act_at hX HLN.out hlt hc9 hg9 HBE.out
      have x := act_at (HX10.out k X hlt hX) HLN2.out (by omega) hc10 hg10 HBE.out
      have q38 := fun w => neq38 X w
      simp only [ActD.cells] at q38
      obtain ⟨y0, y1, y2, y3, y4, y5⟩ := y
      obtain ⟨z0, z1, z2, z3, z4, z5⟩ := z
      obtain ⟨x0, x1, x2, x3, x4, x5⟩ := x
      have e1 : decide ((k : Int) < (len : Int)) = true := by simp; omega
      have e2 : (0 : Int) ≤ (k : Int) := by omega
      have e3 : (k : Int) < (len : Int) := by omega
      have e4 : (k : Int) < (len2 : Int) := by omega
      clear hc7 hc9 hc10 hX
      go_wp2_with fail
      go_quiet (fail)
      go_wp2_with fail
      go_roundw
      case rel => exact ⟨k + 1, by omega, by go_num, Lib.hid (HBE.out.trans ⟨rfl, rfl, rfl, Nat.le_refl _, fun _ _ => rfl⟩)⟩
      case measure => simp [intOf]; omega
    · obtain rfl : k = len := by omega
      have e1 : decide ((k : Int) < (k : Int)) = false := by simp
      go_wp2_with (go_at_call 5; refine (HAW.out _).mono ?_; rintro e w' ⟨rfl, rfl⟩)
      go_ret
      exact ⟨rfl, HT5.out.below.trans (HBE.out.mono HT5.out.below.size)⟩
end Go.Proofs.Ytoeeeapjfkjkbaa
