/- Walk of trace.one: an access written behind bytes (the ways printed by e4.py). -/
import Derived.Test.YtfjddkjfkgdihaaE3
namespace Go.Proofs.Ytfjddkjfkgdihaa
open Go.RowKit Go.BigFrame
set_option linter.unusedVariables false
set_option linter.unusedSimpArgs false

/-- Behind an append to a row of bytes that lies from 'base' on: what was kept. -/
structure Keep5 (base : Nat) (w w' : World) : Prop where
  below : ∀ B W, Below B W w → B ≤ base → Below B W w'
  other : ∀ (p : Nat) (c : Array Value) (t : TypeId) (f : Nat × Nat), w.heap[p]? = some (Obj.cells c t f) → t ≠ 5 → w'.heap[p]? = some (Obj.cells c t f)
theorem Keep5.refl (base : Nat) (w : World) : Keep5 base w w := ⟨fun _ _ h _ => h, fun _ _ _ _ h _ => h⟩
theorem Keep5.trans {base : Nat} {a b c : World} (h : Keep5 base a b) (k : Keep5 base b c) : Keep5 base a c :=
  ⟨fun B W g hB => k.below B W (h.below B W g hB) hB, fun p x t f g ht => k.other p x t f (h.other p x t f g ht) ht⟩
theorem Keep5.of_below {base : Nat} {a b : World} (h : Below a.heap.size a b) (hb : base ≤ a.heap.size) : Keep5 base a b :=
  ⟨fun B W g hB => g.trans (h.mono (by omega)), fun p x t f g ht => (h.block p (Array.getElem?_eq_some_iff.1 g).1).trans g⟩
theorem own_ne {w : World} {base : Nat} {v : Value} {n : Nat} {xs : List Value} (h : w.ownsRow base 5 1 v n xs) {p : Nat} {c : Array Value} {t : TypeId} {f : Nat × Nat} (hp : w.heap[p]? = some (.cells c t f)) (ht : t ≠ 5) : some p ≠ v.ownBlock := by
  rcases h.2 with ⟨rfl, -⟩ | ⟨g, cap, cur, rfl, -, hg, -⟩
  · simp [Value.ownBlock]
  · simp only [Value.ownBlock, ne_eq, Option.some.injEq]
    intro e; subst e
    rw [hp] at hg; cases hg; exact ht rfl
theorem keep5_of {base : Nat} {w w' : World} {v : Value} {n : Nat} {xs : List Value} (h : w.ownsRow base 5 1 v n xs) (hg : w.grownBy w' v.ownBlock) (hbase : base ≤ w.heap.size) : Keep5 base w w' := by
  refine ⟨fun B W hb hB => hb.grown hg (by omega) (fun k hk => by have := h.lt k hk; omega), fun p c t f hp ht => ?_⟩
  rw [hg.block p (Array.getElem?_eq_some_iff.1 hp).1 (own_ne h hp ht)]; exact hp
theorem keep5_alloc {base : Nat} {w w' : World} {o : Obj} (h : Keep5 base (w.alloc o) w') (hb : base ≤ w.heap.size) : Keep5 base w w' :=
  (Keep5.of_below ((Below.refl _ _).alloc (Nat.le_refl _) o) hb).trans h

/-- 'append(out, c)' of one byte. -/
theorem wpList_byte {ops : Array Oper} {rest : List Oper} {o : Oper} {a : Act} {Q : Exit → Act → World → Prop} (hgd : o.guard = none) (s x : Operand)
    (ho : o.op = .call { callee := .builtin .append, args := #[s, x], argTypes := #[40, 40] }) (base : Nat) (wr : World) (hbase : base ≤ wr.heap.size) (v : Value) (n : Nat) (xs : List Int) (hs : a.eval s = v) (hown : wr.ownsRow base 5 1 v n (u8s xs))
    (f : Int) (m c : Nat) (hx : a.eval x = .slice (some ⟨wr.heap.size, 0, none⟩) 1 1) (hn : n ≤ 1000000)
    (h : ∀ v' w', w'.ownsRow base 5 1 v' (n + 1) (u8s (xs ++ [f])) → Keep5 base wr w' → wpList Try.prog ops Q rest (a.put o.dst v') w') :
    wpList Try.prog ops Q (o :: rest) a (wr.alloc (.cells #[.int .u8 f] 5)) := by
  obtain ⟨i5, hi, hz0, hz1, hz2⟩ := info_parts info5
  refine wpList_append_own _ hgd s x 40 ho base 5 i5 (.int .u8 0) 1 1 Try.underlying40 hi hz0 hz1 hz2 rfl (by decide) v n (u8s xs) hs (hown.alloc _) ⟨wr.heap.size, 0, none⟩ 1 1 [.int .u8 f] hx rfl (fun j u hj => cell_alloc wr _ _ j u hj) (by simp [Value.oneCell']) (by unfold maxLen; omega) (by omega) (by simp; omega) ?_
  intro v' w' ho' hg' hn'
  refine h v' w' (by rw [u8s_append]; exact ho') (keep5_alloc (keep5_of (hown.alloc _) hg' (by simp; omega)) hbase)

/-- 'append(out, more...)' of bytes that lie in a row of their own. -/
theorem wpList_join5 {ops : Array Oper} {rest : List Oper} {o : Oper} {a : Act} {Q : Exit → Act → World → Prop} (hgd : o.guard = none) (s x : Operand)
    (ho : o.op = .call { callee := .builtin .append, args := #[s, x], argTypes := #[40, 40] }) (base : Nat) (wr : World) (hbase : base ≤ wr.heap.size) (v : Value) (n : Nat) (xs : List Int) (hs : a.eval s = v) (hown : wr.ownsRow base 5 1 v n (u8s xs))
    (g m c : Nat) (M : List Int) (hx : a.eval x = .slice (some ⟨g, 0, none⟩) m c) (hM : M.length = m) (hc : ∀ j, j < m → wr.cell? ⟨g, j, none⟩ = (u8s M)[j]?) (hn : n ≤ 1000000) (hm : m ≤ 1000000)
    (h : ∀ v' w', w'.ownsRow base 5 1 v' (n + m) (u8s (xs ++ M)) → Keep5 base wr w' → wpList Try.prog ops Q rest (a.put o.dst v') w') :
    wpList Try.prog ops Q (o :: rest) a wr := by
  obtain ⟨i5, hi, hz0, hz1, hz2⟩ := info_parts info5
  refine wpList_append_own _ hgd s x 40 ho base 5 i5 (.int .u8 0) 1 1 Try.underlying40 hi hz0 hz1 hz2 rfl (by decide) v n (u8s xs) hs hown ⟨g, 0, none⟩ m c (u8s M) hx (by rw [u8s_len, hM]; omega) (fun j u hj => by
    rw [Addr.add_lit, Nat.zero_add]
    have hlt := (List.getElem?_eq_some_iff.1 hj).1
    rw [u8s_len] at hlt
    rw [hc j (by omega)]; exact hj) (by intro u hu; simp only [u8s, List.mem_map] at hu; obtain ⟨y, -, rfl⟩ := hu; rfl) (by unfold maxLen; omega) (by omega) hbase ?_
  intro v' w' ho' hg' hn'
  exact h v' w' (by rw [u8s_append]; exact ho') (keep5_of hown hg' hbase)

theorem own_bytes {w : World} {base : Nat} {v : Value} {n : Nat} {M : List Int} (h : w.ownsRow base 5 1 v n (u8s M)) (hn : 0 < n) : ∃ g c, v = .slice (some ⟨g, 0, none⟩) n c ∧ M.length = n ∧ ∀ j, j < n → w.cell? ⟨g, j, none⟩ = (u8s M)[j]? := by
  have hl : M.length = n := by have := h.1; rw [u8s_len] at this; omega
  obtain ⟨a, c, rfl, h2⟩ := own_form3 h
  obtain ⟨g, rfl, -, -, h5⟩ := h2 hn
  exact ⟨g, c, rfl, hl, fun j hj => h5 j (by omega)⟩

def OneB (base n : Nat) (xs : List Int) (x : AccD) (last : Int) (w : World) (e : Ending) (w' : World) : Prop :=
  ∃ v', e = .returned v' ∧ w'.ownsRow base 5 1 v' (n + (x.enc last).length) (u8s (xs ++ x.enc last)) ∧ Keep5 base w w'
theorem own_below5 {w w' : World} {base : Nat} {v : Value} {n : Nat} {xs : List Value} (h : w.ownsRow base 5 1 v n xs) (hb : Below w.heap.size w w') : w'.ownsRow base 5 1 v n xs :=
  h.kept (row := none) ⟨hb.os, hb.tape, hb.output, hb.size, fun k hk _ => hb.block k hk⟩ (by cases hv : v.ownBlock <;> simp)
theorem acc_cells {W : World} {b : Nat} {x : AccD} {t : TypeId} (h : W.heap[b]? = some (.cells x.cells t (0, 0))) : AccAt W b 0 x := by
  refine ⟨?_, ?_, ?_, ?_, ?_, ?_⟩ <;> rw [cell_of_row _ _ _ _ _ _ h] <;> rfl

set_option maxRecDepth 100000 in
set_option maxHeartbeats 4000000 in
theorem one_k1 (v : Value) (base n : Nat) (xs : List Int) (th : Nat) (pl last : Int) (ol ne : Nat) (dn : Bool) (w : World) (hm : AccD.mayB ⟨1, th, pl, ol, ne, dn⟩ = true) (ho : ol < 18446744073709551616) (hne : ne < 18446744073709551616) (hl0 : -1073741824 ≤ last) (hl1 : last ≤ 1073741824) (hb : base ≤ w.heap.size) (hn : n ≤ 900000) (hown : w.ownsRow base 5 1 v n (u8s xs)) :
    Calls Try.prog 69 #[v, .agg (AccD.cells ⟨1, th, pl, ol, ne, dn⟩), .int .i64 last] w (OneB base n xs ⟨1, th, pl, ol, ne, dn⟩ last w) := by
  obtain ⟨-, -, -, t1, p0, p1, -⟩ := AccD.may_out hm
  simp only at t1 p0 p1
  have HFI := Lib.hid fun w => first_any ⟨1, th, pl, ol, ne, dn⟩ hm w
  simp only [AccD.cells] at HFI
  have HEN : Hid (AccD.enc ⟨1, th, pl, ol, ne, dn⟩ last = AccD.first ⟨1, th, pl, ol, ne, dn⟩ :: (numB th ++ (numB (sgn (pl - last)).toNat ++ (numB ol ++ [])))) := Lib.hid (by simp [AccD.enc, AccD.placeB, AccD.oldB, AccD.newB])
  generalize AccD.first ⟨1, th, pl, ol, ne, dn⟩ = f at *
  unfold OneB
  obtain ⟨E, hE⟩ : ∃ E, E = AccD.enc ⟨1, th, pl, ol, ne, dn⟩ last := ⟨_, rfl⟩
  rw [← hE] at HEN ⊢
  clear hE hm
  have HNT := Lib.hid fun w => number_any th (by omega) w
  have HLT := Lib.hid (numB_len10 th (by omega))
  have HL1 := Lib.hid (numB_len1 th)
  have s0 := sgn_lo (pl - last)
  have s1 := sgn_hi (pl - last) (by omega) (by omega)
  have HSG := Lib.hid fun w => signed_any (pl - last) (by omega) (by omega) w
  obtain ⟨sp, hsp⟩ := Int.eq_ofNat_of_zero_le s0
  rw [hsp] at HSG HEN s1
  rw [Int.toNat_natCast] at HEN
  clear s0
  have HNP := Lib.hid fun w => number_any sp (by omega) w
  have HLP := Lib.hid (numB_len10 sp (by omega))
  have HL2 := Lib.hid (numB_len1 sp)
  clear hsp
  have HNO := Lib.hid fun w => number_any ol ho w
  have HLO := Lib.hid (numB_len10 ol ho)
  have HL3 := Lib.hid (numB_len1 ol)
  have HO := Lib.hid fun w => olds_any 1 w
  have HNW := Lib.hid fun w => news_any 1 w
  have e1 : AccD.oldsB 1 = true := by decide
  have e2 : AccD.newsB 1 = false := by decide
  rw [e1] at HO
  rw [e2] at HNW
  clear e1 e2
  have HOWN := Lib.hid hown; clear hown
  obtain ⟨p, hp⟩ : ∃ p, p = w.heap.size := ⟨_, rfl⟩
  unfold AccD.cells
  go_enter Try.func69, Try.ntmps69
  go_wp2_with fail
  obtain ⟨W, hW⟩ : ∃ W, W = w.alloc (.cells (AccD.cells ⟨1, th, pl, ol, ne, dn⟩) 50) := ⟨_, rfl⟩
  have HK0 : Hid (Keep5 base w W) := Lib.hid (by rw [hW]; exact Keep5.of_below ((Below.refl _ _).alloc (Nat.le_refl _) _) hb)
  have HP0 : Hid (W.heap[p]? = some (.cells (AccD.cells ⟨1, th, pl, ol, ne, dn⟩) 50 (0, 0))) := Lib.hid (by rw [hW, hp, heap_alloc_new])
  have HO0 : Hid (W.ownsRow base 5 1 v n (u8s xs)) := Lib.hid (by rw [hW]; exact HOWN.out.alloc _)
  have hbW : base ≤ W.heap.size := by rw [hW]; simp; omega
  simp only [AccD.cells] at hW
  rw [← hW, ← hp]
  clear hW hp HOWN
  refine (HFI.out _).mono ?_
  rintro e w1 ⟨rfl, hb1⟩
  have HK1 := Lib.hid (HK0.out.trans (Keep5.of_below hb1 hbW))
  have HP1 := Lib.hid ((hb1.block p (Array.getElem?_eq_some_iff.1 HP0.out).1).trans HP0.out)
  have HO1 := Lib.hid (own_below5 HO0.out hb1)
  have hbW1 : base ≤ w1.heap.size := Nat.le_trans hbW hb1.size
  clear hb1 hbW HK0 HP0 HO0
  obtain ⟨d0, d1, d2, d3, d4, d5⟩ := acc_cells HP1.out
  go_wp2_with (at_builtin; refine wpList_byte rfl (.tmp 7) (.tmp 10) rfl base w1 hbW1 v n xs rfl HO1.out f 1 1 rfl (by omega) ?_; intro v1 w2 hown1 hk1; have HO2 := Lib.hid hown1; have HK2 := Lib.hid (HK1.out.trans hk1); have HP2 := Lib.hid (hk1.other p _ _ _ HP1.out (by decide)); have hbW2 : base ≤ w2.heap.size := (hk1.below base w1 (Below.refl _ _) (Nat.le_refl _)).size |> Nat.le_trans hbW1; clear d0 d1 d2 d3 d4 d5 hown1 hk1; obtain ⟨d0, d1, d2, d3, d4, d5⟩ := acc_cells HP2.out)
  refine (HNT.out _).mono ?_
  rintro e w3 ⟨y3, rfl, hb3, hy3⟩
  obtain ⟨g3, c3, rfl, hl3, hc3⟩ := own_bytes hy3 (by have := numB_len1 th; omega)
  have HC3 := Lib.hid hc3
  have HL3' := Lib.hid hl3
  have HK3 := Lib.hid (HK2.out.trans (Keep5.of_below hb3 hbW2))
  have HP3 := Lib.hid ((hb3.block p (Array.getElem?_eq_some_iff.1 HP2.out).1).trans HP2.out)
  have HO3 := Lib.hid (own_below5 HO2.out hb3)
  have hbW3 : base ≤ w3.heap.size := Nat.le_trans hbW2 hb3.size
  clear hb3 hy3 hl3 hc3 d0 d1 d2 d3 d4 d5
  obtain ⟨d0, d1, d2, d3, d4, d5⟩ := acc_cells HP3.out
  have hlen3 : (numB th).length ≤ 10 := by have := HLT.out; exact this
  obtain ⟨M3, hM3⟩ : ∃ M, M = numB th := ⟨_, rfl⟩
  rw [← hM3] at HC3 HL3' hlen3 HEN ⊢
  generalize hq3 : M3.length = q3 at *
  have HQ3 := Lib.hid hq3; clear hq3 hM3
  go_wp2_with (at_builtin; refine wpList_join5 rfl (.tmp 12) (.tmp 16) rfl base w3 hbW3 v1 (n + 1) (xs ++ [f]) rfl HO3.out g3 q3 c3 M3 rfl HQ3.out HC3.out (by omega) (by omega) ?_; intro v4 w4 hown1 hk1; have HO4 := Lib.hid hown1; have HK4 := Lib.hid (HK3.out.trans hk1); have HP4 := Lib.hid (hk1.other p _ _ _ HP3.out (by decide)); have hbW4 : base ≤ w4.heap.size := (hk1.below base w3 (Below.refl _ _) (Nat.le_refl _)).size |> Nat.le_trans hbW3; clear d0 d1 d2 d3 d4 d5 hown1 hk1; obtain ⟨d0, d1, d2, d3, d4, d5⟩ := acc_cells HP4.out)
  refine (HSG.out _).mono ?_
  rintro e w' ⟨rfl, rfl⟩
  go_wp2_with fail
  refine (HNP.out _).mono ?_
  rintro e w5 ⟨y5, rfl, hb5, hy5⟩
  obtain ⟨g5, c5, rfl, hl5, hc5⟩ := own_bytes hy5 (by have := numB_len1 sp; omega)
  have HC5 := Lib.hid hc5
  have HL5' := Lib.hid hl5
  have HK5 := Lib.hid (HK4.out.trans (Keep5.of_below hb5 hbW4))
  have HP5 := Lib.hid ((hb5.block p (Array.getElem?_eq_some_iff.1 HP4.out).1).trans HP4.out)
  have HO5 := Lib.hid (own_below5 HO4.out hb5)
  have hbW5 : base ≤ w5.heap.size := Nat.le_trans hbW4 hb5.size
  clear hb5 hy5 hl5 hc5 d0 d1 d2 d3 d4 d5
  obtain ⟨d0, d1, d2, d3, d4, d5⟩ := acc_cells HP5.out
  have hlen5 : (numB sp).length ≤ 10 := by have := HLP.out; exact this
  obtain ⟨M5, hM5⟩ : ∃ M, M = numB sp := ⟨_, rfl⟩
  rw [← hM5] at HC5 HL5' hlen5 HEN ⊢
  generalize hq5 : M5.length = q5 at *
  have HQ5 := Lib.hid hq5; clear hq5 hM5
  go_wp2_with (at_builtin; refine wpList_join5 rfl (.tmp 21) (.tmp 27) rfl base w5 hbW5 v4 (n + 1 + q3) (xs ++ [f] ++ M3) rfl HO5.out g5 q5 c5 M5 rfl HQ5.out HC5.out (by omega) (by omega) ?_; intro v6 w6 hown1 hk1; have HO6 := Lib.hid hown1; have HK6 := Lib.hid (HK5.out.trans hk1); have HP6 := Lib.hid (hk1.other p _ _ _ HP5.out (by decide)); have hbW6 : base ≤ w6.heap.size := (hk1.below base w5 (Below.refl _ _) (Nat.le_refl _)).size |> Nat.le_trans hbW5; clear d0 d1 d2 d3 d4 d5 hown1 hk1; obtain ⟨d0, d1, d2, d3, d4, d5⟩ := acc_cells HP6.out)
  refine (HO.out _).mono ?_
  rintro e w' ⟨rfl, rfl⟩
  go_wp2_with fail
  refine (HNO.out _).mono ?_
  rintro e w7 ⟨y7, rfl, hb7, hy7⟩
  obtain ⟨g7, c7, rfl, hl7, hc7⟩ := own_bytes hy7 (by have := numB_len1 ol; omega)
  have HC7 := Lib.hid hc7
  have HL7' := Lib.hid hl7
  have HK7 := Lib.hid (HK6.out.trans (Keep5.of_below hb7 hbW6))
  have HP7 := Lib.hid ((hb7.block p (Array.getElem?_eq_some_iff.1 HP6.out).1).trans HP6.out)
  have HO7 := Lib.hid (own_below5 HO6.out hb7)
  have hbW7 : base ≤ w7.heap.size := Nat.le_trans hbW6 hb7.size
  clear hb7 hy7 hl7 hc7 d0 d1 d2 d3 d4 d5
  obtain ⟨d0, d1, d2, d3, d4, d5⟩ := acc_cells HP7.out
  have hlen7 : (numB ol).length ≤ 10 := by have := HLO.out; exact this
  obtain ⟨M7, hM7⟩ : ∃ M, M = numB ol := ⟨_, rfl⟩
  rw [← hM7] at HC7 HL7' hlen7 HEN ⊢
  generalize hq7 : M7.length = q7 at *
  have HQ7 := Lib.hid hq7; clear hq7 hM7
  go_wp2_with (at_builtin; refine wpList_join5 rfl (.tmp 32) (.tmp 35) rfl base w7 hbW7 v6 (n + 1 + q3 + q5) (xs ++ [f] ++ M3 ++ M5) rfl HO7.out g7 q7 c7 M7 rfl HQ7.out HC7.out (by omega) (by omega) ?_; intro v8 w8 hown1 hk1; have HO8 := Lib.hid hown1; have HK8 := Lib.hid (HK7.out.trans hk1); have HP8 := Lib.hid (hk1.other p _ _ _ HP7.out (by decide)); have hbW8 : base ≤ w8.heap.size := (hk1.below base w7 (Below.refl _ _) (Nat.le_refl _)).size |> Nat.le_trans hbW7; clear d0 d1 d2 d3 d4 d5 hown1 hk1; obtain ⟨d0, d1, d2, d3, d4, d5⟩ := acc_cells HP8.out)
  refine (HNW.out _).mono ?_
  rintro e w' ⟨rfl, rfl⟩
  go_wp2_with fail
  go_ret
  refine ⟨v8, rfl, ?_, HK8.out⟩
  have hE : E = [f] ++ (M3 ++ M5 ++ M7) := by rw [HEN.out]; simp
  have hlE : n + E.length = n + 1 + q3 + q5 + q7 := by rw [hE]; simp only [List.length_append, List.length_cons, List.length_nil]; have := HQ3.out; have := HQ5.out; have := HQ7.out; omega
  rw [hlE, hE, ← List.append_assoc]
  have := HO8.out
  simpa only [List.append_assoc] using this
set_option maxRecDepth 100000 in
set_option maxHeartbeats 4000000 in
theorem one_k2 (v : Value) (base n : Nat) (xs : List Int) (th : Nat) (pl last : Int) (ol ne : Nat) (dn : Bool) (w : World) (hm : AccD.mayB ⟨2, th, pl, ol, ne, dn⟩ = true) (ho : ol < 18446744073709551616) (hne : ne < 18446744073709551616) (hl0 : -1073741824 ≤ last) (hl1 : last ≤ 1073741824) (hb : base ≤ w.heap.size) (hn : n ≤ 900000) (hown : w.ownsRow base 5 1 v n (u8s xs)) :
    Calls Try.prog 69 #[v, .agg (AccD.cells ⟨2, th, pl, ol, ne, dn⟩), .int .i64 last] w (OneB base n xs ⟨2, th, pl, ol, ne, dn⟩ last w) := by
  obtain ⟨-, -, -, t1, p0, p1, -⟩ := AccD.may_out hm
  simp only at t1 p0 p1
  have HFI := Lib.hid fun w => first_any ⟨2, th, pl, ol, ne, dn⟩ hm w
  simp only [AccD.cells] at HFI
  have HEN : Hid (AccD.enc ⟨2, th, pl, ol, ne, dn⟩ last = AccD.first ⟨2, th, pl, ol, ne, dn⟩ :: (numB th ++ (numB (sgn (pl - last)).toNat ++ (numB ol ++ numB ne)))) := Lib.hid (by simp [AccD.enc, AccD.placeB, AccD.oldB, AccD.newB])
  generalize AccD.first ⟨2, th, pl, ol, ne, dn⟩ = f at *
  unfold OneB
  obtain ⟨E, hE⟩ : ∃ E, E = AccD.enc ⟨2, th, pl, ol, ne, dn⟩ last := ⟨_, rfl⟩
  rw [← hE] at HEN ⊢
  clear hE hm
  have HNT := Lib.hid fun w => number_any th (by omega) w
  have HLT := Lib.hid (numB_len10 th (by omega))
  have HL1 := Lib.hid (numB_len1 th)
  have s0 := sgn_lo (pl - last)
  have s1 := sgn_hi (pl - last) (by omega) (by omega)
  have HSG := Lib.hid fun w => signed_any (pl - last) (by omega) (by omega) w
  obtain ⟨sp, hsp⟩ := Int.eq_ofNat_of_zero_le s0
  rw [hsp] at HSG HEN s1
  rw [Int.toNat_natCast] at HEN
  clear s0
  have HNP := Lib.hid fun w => number_any sp (by omega) w
  have HLP := Lib.hid (numB_len10 sp (by omega))
  have HL2 := Lib.hid (numB_len1 sp)
  clear hsp
  have HNO := Lib.hid fun w => number_any ol ho w
  have HLO := Lib.hid (numB_len10 ol ho)
  have HL3 := Lib.hid (numB_len1 ol)
  have HNN := Lib.hid fun w => number_any ne hne w
  have HLN := Lib.hid (numB_len10 ne hne)
  have HL4 := Lib.hid (numB_len1 ne)
  have HO := Lib.hid fun w => olds_any 2 w
  have HNW := Lib.hid fun w => news_any 2 w
  have e1 : AccD.oldsB 2 = true := by decide
  have e2 : AccD.newsB 2 = true := by decide
  rw [e1] at HO
  rw [e2] at HNW
  clear e1 e2
  have HOWN := Lib.hid hown; clear hown
  obtain ⟨p, hp⟩ : ∃ p, p = w.heap.size := ⟨_, rfl⟩
  unfold AccD.cells
  go_enter Try.func69, Try.ntmps69
  go_wp2_with fail
  obtain ⟨W, hW⟩ : ∃ W, W = w.alloc (.cells (AccD.cells ⟨2, th, pl, ol, ne, dn⟩) 50) := ⟨_, rfl⟩
  have HK0 : Hid (Keep5 base w W) := Lib.hid (by rw [hW]; exact Keep5.of_below ((Below.refl _ _).alloc (Nat.le_refl _) _) hb)
  have HP0 : Hid (W.heap[p]? = some (.cells (AccD.cells ⟨2, th, pl, ol, ne, dn⟩) 50 (0, 0))) := Lib.hid (by rw [hW, hp, heap_alloc_new])
  have HO0 : Hid (W.ownsRow base 5 1 v n (u8s xs)) := Lib.hid (by rw [hW]; exact HOWN.out.alloc _)
  have hbW : base ≤ W.heap.size := by rw [hW]; simp; omega
  simp only [AccD.cells] at hW
  rw [← hW, ← hp]
  clear hW hp HOWN
  refine (HFI.out _).mono ?_
  rintro e w1 ⟨rfl, hb1⟩
  have HK1 := Lib.hid (HK0.out.trans (Keep5.of_below hb1 hbW))
  have HP1 := Lib.hid ((hb1.block p (Array.getElem?_eq_some_iff.1 HP0.out).1).trans HP0.out)
  have HO1 := Lib.hid (own_below5 HO0.out hb1)
  have hbW1 : base ≤ w1.heap.size := Nat.le_trans hbW hb1.size
  clear hb1 hbW HK0 HP0 HO0
  obtain ⟨d0, d1, d2, d3, d4, d5⟩ := acc_cells HP1.out
  go_wp2_with (at_builtin; refine wpList_byte rfl (.tmp 7) (.tmp 10) rfl base w1 hbW1 v n xs rfl HO1.out f 1 1 rfl (by omega) ?_; intro v1 w2 hown1 hk1; have HO2 := Lib.hid hown1; have HK2 := Lib.hid (HK1.out.trans hk1); have HP2 := Lib.hid (hk1.other p _ _ _ HP1.out (by decide)); have hbW2 : base ≤ w2.heap.size := (hk1.below base w1 (Below.refl _ _) (Nat.le_refl _)).size |> Nat.le_trans hbW1; clear d0 d1 d2 d3 d4 d5 hown1 hk1; obtain ⟨d0, d1, d2, d3, d4, d5⟩ := acc_cells HP2.out)
  refine (HNT.out _).mono ?_
  rintro e w3 ⟨y3, rfl, hb3, hy3⟩
  obtain ⟨g3, c3, rfl, hl3, hc3⟩ := own_bytes hy3 (by have := numB_len1 th; omega)
  have HC3 := Lib.hid hc3
  have HL3' := Lib.hid hl3
  have HK3 := Lib.hid (HK2.out.trans (Keep5.of_below hb3 hbW2))
  have HP3 := Lib.hid ((hb3.block p (Array.getElem?_eq_some_iff.1 HP2.out).1).trans HP2.out)
  have HO3 := Lib.hid (own_below5 HO2.out hb3)
  have hbW3 : base ≤ w3.heap.size := Nat.le_trans hbW2 hb3.size
  clear hb3 hy3 hl3 hc3 d0 d1 d2 d3 d4 d5
  obtain ⟨d0, d1, d2, d3, d4, d5⟩ := acc_cells HP3.out
  have hlen3 : (numB th).length ≤ 10 := by have := HLT.out; exact this
  obtain ⟨M3, hM3⟩ : ∃ M, M = numB th := ⟨_, rfl⟩
  rw [← hM3] at HC3 HL3' hlen3 HEN ⊢
  generalize hq3 : M3.length = q3 at *
  have HQ3 := Lib.hid hq3; clear hq3 hM3
  go_wp2_with (at_builtin; refine wpList_join5 rfl (.tmp 12) (.tmp 16) rfl base w3 hbW3 v1 (n + 1) (xs ++ [f]) rfl HO3.out g3 q3 c3 M3 rfl HQ3.out HC3.out (by omega) (by omega) ?_; intro v4 w4 hown1 hk1; have HO4 := Lib.hid hown1; have HK4 := Lib.hid (HK3.out.trans hk1); have HP4 := Lib.hid (hk1.other p _ _ _ HP3.out (by decide)); have hbW4 : base ≤ w4.heap.size := (hk1.below base w3 (Below.refl _ _) (Nat.le_refl _)).size |> Nat.le_trans hbW3; clear d0 d1 d2 d3 d4 d5 hown1 hk1; obtain ⟨d0, d1, d2, d3, d4, d5⟩ := acc_cells HP4.out)
  refine (HSG.out _).mono ?_
  rintro e w' ⟨rfl, rfl⟩
  go_wp2_with fail
  refine (HNP.out _).mono ?_
  rintro e w5 ⟨y5, rfl, hb5, hy5⟩
  obtain ⟨g5, c5, rfl, hl5, hc5⟩ := own_bytes hy5 (by have := numB_len1 sp; omega)
  have HC5 := Lib.hid hc5
  have HL5' := Lib.hid hl5
  have HK5 := Lib.hid (HK4.out.trans (Keep5.of_below hb5 hbW4))
  have HP5 := Lib.hid ((hb5.block p (Array.getElem?_eq_some_iff.1 HP4.out).1).trans HP4.out)
  have HO5 := Lib.hid (own_below5 HO4.out hb5)
  have hbW5 : base ≤ w5.heap.size := Nat.le_trans hbW4 hb5.size
  clear hb5 hy5 hl5 hc5 d0 d1 d2 d3 d4 d5
  obtain ⟨d0, d1, d2, d3, d4, d5⟩ := acc_cells HP5.out
  have hlen5 : (numB sp).length ≤ 10 := by have := HLP.out; exact this
  obtain ⟨M5, hM5⟩ : ∃ M, M = numB sp := ⟨_, rfl⟩
  rw [← hM5] at HC5 HL5' hlen5 HEN ⊢
  generalize hq5 : M5.length = q5 at *
  have HQ5 := Lib.hid hq5; clear hq5 hM5
  go_wp2_with (at_builtin; refine wpList_join5 rfl (.tmp 21) (.tmp 27) rfl base w5 hbW5 v4 (n + 1 + q3) (xs ++ [f] ++ M3) rfl HO5.out g5 q5 c5 M5 rfl HQ5.out HC5.out (by omega) (by omega) ?_; intro v6 w6 hown1 hk1; have HO6 := Lib.hid hown1; have HK6 := Lib.hid (HK5.out.trans hk1); have HP6 := Lib.hid (hk1.other p _ _ _ HP5.out (by decide)); have hbW6 : base ≤ w6.heap.size := (hk1.below base w5 (Below.refl _ _) (Nat.le_refl _)).size |> Nat.le_trans hbW5; clear d0 d1 d2 d3 d4 d5 hown1 hk1; obtain ⟨d0, d1, d2, d3, d4, d5⟩ := acc_cells HP6.out)
  refine (HO.out _).mono ?_
  rintro e w' ⟨rfl, rfl⟩
  go_wp2_with fail
  refine (HNO.out _).mono ?_
  rintro e w7 ⟨y7, rfl, hb7, hy7⟩
  obtain ⟨g7, c7, rfl, hl7, hc7⟩ := own_bytes hy7 (by have := numB_len1 ol; omega)
  have HC7 := Lib.hid hc7
  have HL7' := Lib.hid hl7
  have HK7 := Lib.hid (HK6.out.trans (Keep5.of_below hb7 hbW6))
  have HP7 := Lib.hid ((hb7.block p (Array.getElem?_eq_some_iff.1 HP6.out).1).trans HP6.out)
  have HO7 := Lib.hid (own_below5 HO6.out hb7)
  have hbW7 : base ≤ w7.heap.size := Nat.le_trans hbW6 hb7.size
  clear hb7 hy7 hl7 hc7 d0 d1 d2 d3 d4 d5
  obtain ⟨d0, d1, d2, d3, d4, d5⟩ := acc_cells HP7.out
  have hlen7 : (numB ol).length ≤ 10 := by have := HLO.out; exact this
  obtain ⟨M7, hM7⟩ : ∃ M, M = numB ol := ⟨_, rfl⟩
  rw [← hM7] at HC7 HL7' hlen7 HEN ⊢
  generalize hq7 : M7.length = q7 at *
  have HQ7 := Lib.hid hq7; clear hq7 hM7
  go_wp2_with (at_builtin; refine wpList_join5 rfl (.tmp 32) (.tmp 35) rfl base w7 hbW7 v6 (n + 1 + q3 + q5) (xs ++ [f] ++ M3 ++ M5) rfl HO7.out g7 q7 c7 M7 rfl HQ7.out HC7.out (by omega) (by omega) ?_; intro v8 w8 hown1 hk1; have HO8 := Lib.hid hown1; have HK8 := Lib.hid (HK7.out.trans hk1); have HP8 := Lib.hid (hk1.other p _ _ _ HP7.out (by decide)); have hbW8 : base ≤ w8.heap.size := (hk1.below base w7 (Below.refl _ _) (Nat.le_refl _)).size |> Nat.le_trans hbW7; clear d0 d1 d2 d3 d4 d5 hown1 hk1; obtain ⟨d0, d1, d2, d3, d4, d5⟩ := acc_cells HP8.out)
  refine (HNW.out _).mono ?_
  rintro e w' ⟨rfl, rfl⟩
  go_wp2_with fail
  refine (HNN.out _).mono ?_
  rintro e w9 ⟨y9, rfl, hb9, hy9⟩
  obtain ⟨g9, c9, rfl, hl9, hc9⟩ := own_bytes hy9 (by have := numB_len1 ne; omega)
  have HC9 := Lib.hid hc9
  have HL9' := Lib.hid hl9
  have HK9 := Lib.hid (HK8.out.trans (Keep5.of_below hb9 hbW8))
  have HP9 := Lib.hid ((hb9.block p (Array.getElem?_eq_some_iff.1 HP8.out).1).trans HP8.out)
  have HO9 := Lib.hid (own_below5 HO8.out hb9)
  have hbW9 : base ≤ w9.heap.size := Nat.le_trans hbW8 hb9.size
  clear hb9 hy9 hl9 hc9 d0 d1 d2 d3 d4 d5
  obtain ⟨d0, d1, d2, d3, d4, d5⟩ := acc_cells HP9.out
  have hlen9 : (numB ne).length ≤ 10 := by have := HLN.out; exact this
  obtain ⟨M9, hM9⟩ : ∃ M, M = numB ne := ⟨_, rfl⟩
  rw [← hM9] at HC9 HL9' hlen9 HEN ⊢
  generalize hq9 : M9.length = q9 at *
  have HQ9 := Lib.hid hq9; clear hq9 hM9
  go_wp2_with (at_builtin; refine wpList_join5 rfl (.tmp 40) (.tmp 43) rfl base w9 hbW9 v8 (n + 1 + q3 + q5 + q7) (xs ++ [f] ++ M3 ++ M5 ++ M7) rfl HO9.out g9 q9 c9 M9 rfl HQ9.out HC9.out (by omega) (by omega) ?_; intro v10 w10 hown1 hk1; have HO10 := Lib.hid hown1; have HK10 := Lib.hid (HK9.out.trans hk1); have HP10 := Lib.hid (hk1.other p _ _ _ HP9.out (by decide)); have hbW10 : base ≤ w10.heap.size := (hk1.below base w9 (Below.refl _ _) (Nat.le_refl _)).size |> Nat.le_trans hbW9; clear d0 d1 d2 d3 d4 d5 hown1 hk1; obtain ⟨d0, d1, d2, d3, d4, d5⟩ := acc_cells HP10.out)
  go_ret
  refine ⟨v10, rfl, ?_, HK10.out⟩
  have hE : E = [f] ++ (M3 ++ M5 ++ M7 ++ M9) := by rw [HEN.out]; simp
  have hlE : n + E.length = n + 1 + q3 + q5 + q7 + q9 := by rw [hE]; simp only [List.length_append, List.length_cons, List.length_nil]; have := HQ3.out; have := HQ5.out; have := HQ7.out; have := HQ9.out; omega
  rw [hlE, hE, ← List.append_assoc]
  have := HO10.out
  simpa only [List.append_assoc] using this
set_option maxRecDepth 100000 in
set_option maxHeartbeats 4000000 in
theorem one_k3 (v : Value) (base n : Nat) (xs : List Int) (th : Nat) (pl last : Int) (ol ne : Nat) (dn : Bool) (w : World) (hm : AccD.mayB ⟨3, th, pl, ol, ne, dn⟩ = true) (ho : ol < 18446744073709551616) (hne : ne < 18446744073709551616) (hl0 : -1073741824 ≤ last) (hl1 : last ≤ 1073741824) (hb : base ≤ w.heap.size) (hn : n ≤ 900000) (hown : w.ownsRow base 5 1 v n (u8s xs)) :
    Calls Try.prog 69 #[v, .agg (AccD.cells ⟨3, th, pl, ol, ne, dn⟩), .int .i64 last] w (OneB base n xs ⟨3, th, pl, ol, ne, dn⟩ last w) := by
  obtain ⟨-, -, -, t1, p0, p1, -⟩ := AccD.may_out hm
  simp only at t1 p0 p1
  have HFI := Lib.hid fun w => first_any ⟨3, th, pl, ol, ne, dn⟩ hm w
  simp only [AccD.cells] at HFI
  have HEN : Hid (AccD.enc ⟨3, th, pl, ol, ne, dn⟩ last = AccD.first ⟨3, th, pl, ol, ne, dn⟩ :: (numB th ++ (numB (sgn (pl - last)).toNat ++ (numB ol ++ numB ne)))) := Lib.hid (by simp [AccD.enc, AccD.placeB, AccD.oldB, AccD.newB])
  generalize AccD.first ⟨3, th, pl, ol, ne, dn⟩ = f at *
  unfold OneB
  obtain ⟨E, hE⟩ : ∃ E, E = AccD.enc ⟨3, th, pl, ol, ne, dn⟩ last := ⟨_, rfl⟩
  rw [← hE] at HEN ⊢
  clear hE hm
  have HNT := Lib.hid fun w => number_any th (by omega) w
  have HLT := Lib.hid (numB_len10 th (by omega))
  have HL1 := Lib.hid (numB_len1 th)
  have s0 := sgn_lo (pl - last)
  have s1 := sgn_hi (pl - last) (by omega) (by omega)
  have HSG := Lib.hid fun w => signed_any (pl - last) (by omega) (by omega) w
  obtain ⟨sp, hsp⟩ := Int.eq_ofNat_of_zero_le s0
  rw [hsp] at HSG HEN s1
  rw [Int.toNat_natCast] at HEN
  clear s0
  have HNP := Lib.hid fun w => number_any sp (by omega) w
  have HLP := Lib.hid (numB_len10 sp (by omega))
  have HL2 := Lib.hid (numB_len1 sp)
  clear hsp
  have HNO := Lib.hid fun w => number_any ol ho w
  have HLO := Lib.hid (numB_len10 ol ho)
  have HL3 := Lib.hid (numB_len1 ol)
  have HNN := Lib.hid fun w => number_any ne hne w
  have HLN := Lib.hid (numB_len10 ne hne)
  have HL4 := Lib.hid (numB_len1 ne)
  have HO := Lib.hid fun w => olds_any 3 w
  have HNW := Lib.hid fun w => news_any 3 w
  have e1 : AccD.oldsB 3 = true := by decide
  have e2 : AccD.newsB 3 = true := by decide
  rw [e1] at HO
  rw [e2] at HNW
  clear e1 e2
  have HOWN := Lib.hid hown; clear hown
  obtain ⟨p, hp⟩ : ∃ p, p = w.heap.size := ⟨_, rfl⟩
  unfold AccD.cells
  go_enter Try.func69, Try.ntmps69
  go_wp2_with fail
  obtain ⟨W, hW⟩ : ∃ W, W = w.alloc (.cells (AccD.cells ⟨3, th, pl, ol, ne, dn⟩) 50) := ⟨_, rfl⟩
  have HK0 : Hid (Keep5 base w W) := Lib.hid (by rw [hW]; exact Keep5.of_below ((Below.refl _ _).alloc (Nat.le_refl _) _) hb)
  have HP0 : Hid (W.heap[p]? = some (.cells (AccD.cells ⟨3, th, pl, ol, ne, dn⟩) 50 (0, 0))) := Lib.hid (by rw [hW, hp, heap_alloc_new])
  have HO0 : Hid (W.ownsRow base 5 1 v n (u8s xs)) := Lib.hid (by rw [hW]; exact HOWN.out.alloc _)
  have hbW : base ≤ W.heap.size := by rw [hW]; simp; omega
  simp only [AccD.cells] at hW
  rw [← hW, ← hp]
  clear hW hp HOWN
  refine (HFI.out _).mono ?_
  rintro e w1 ⟨rfl, hb1⟩
  have HK1 := Lib.hid (HK0.out.trans (Keep5.of_below hb1 hbW))
  have HP1 := Lib.hid ((hb1.block p (Array.getElem?_eq_some_iff.1 HP0.out).1).trans HP0.out)
  have HO1 := Lib.hid (own_below5 HO0.out hb1)
  have hbW1 : base ≤ w1.heap.size := Nat.le_trans hbW hb1.size
  clear hb1 hbW HK0 HP0 HO0
  obtain ⟨d0, d1, d2, d3, d4, d5⟩ := acc_cells HP1.out
  go_wp2_with (at_builtin; refine wpList_byte rfl (.tmp 7) (.tmp 10) rfl base w1 hbW1 v n xs rfl HO1.out f 1 1 rfl (by omega) ?_; intro v1 w2 hown1 hk1; have HO2 := Lib.hid hown1; have HK2 := Lib.hid (HK1.out.trans hk1); have HP2 := Lib.hid (hk1.other p _ _ _ HP1.out (by decide)); have hbW2 : base ≤ w2.heap.size := (hk1.below base w1 (Below.refl _ _) (Nat.le_refl _)).size |> Nat.le_trans hbW1; clear d0 d1 d2 d3 d4 d5 hown1 hk1; obtain ⟨d0, d1, d2, d3, d4, d5⟩ := acc_cells HP2.out)
  refine (HNT.out _).mono ?_
  rintro e w3 ⟨y3, rfl, hb3, hy3⟩
  obtain ⟨g3, c3, rfl, hl3, hc3⟩ := own_bytes hy3 (by have := numB_len1 th; omega)
  have HC3 := Lib.hid hc3
  have HL3' := Lib.hid hl3
  have HK3 := Lib.hid (HK2.out.trans (Keep5.of_below hb3 hbW2))
  have HP3 := Lib.hid ((hb3.block p (Array.getElem?_eq_some_iff.1 HP2.out).1).trans HP2.out)
  have HO3 := Lib.hid (own_below5 HO2.out hb3)
  have hbW3 : base ≤ w3.heap.size := Nat.le_trans hbW2 hb3.size
  clear hb3 hy3 hl3 hc3 d0 d1 d2 d3 d4 d5
  obtain ⟨d0, d1, d2, d3, d4, d5⟩ := acc_cells HP3.out
  have hlen3 : (numB th).length ≤ 10 := by have := HLT.out; exact this
  obtain ⟨M3, hM3⟩ : ∃ M, M = numB th := ⟨_, rfl⟩
  rw [← hM3] at HC3 HL3' hlen3 HEN ⊢
  generalize hq3 : M3.length = q3 at *
  have HQ3 := Lib.hid hq3; clear hq3 hM3
  go_wp2_with (at_builtin; refine wpList_join5 rfl (.tmp 12) (.tmp 16) rfl base w3 hbW3 v1 (n + 1) (xs ++ [f]) rfl HO3.out g3 q3 c3 M3 rfl HQ3.out HC3.out (by omega) (by omega) ?_; intro v4 w4 hown1 hk1; have HO4 := Lib.hid hown1; have HK4 := Lib.hid (HK3.out.trans hk1); have HP4 := Lib.hid (hk1.other p _ _ _ HP3.out (by decide)); have hbW4 : base ≤ w4.heap.size := (hk1.below base w3 (Below.refl _ _) (Nat.le_refl _)).size |> Nat.le_trans hbW3; clear d0 d1 d2 d3 d4 d5 hown1 hk1; obtain ⟨d0, d1, d2, d3, d4, d5⟩ := acc_cells HP4.out)
  refine (HSG.out _).mono ?_
  rintro e w' ⟨rfl, rfl⟩
  go_wp2_with fail
  refine (HNP.out _).mono ?_
  rintro e w5 ⟨y5, rfl, hb5, hy5⟩
  obtain ⟨g5, c5, rfl, hl5, hc5⟩ := own_bytes hy5 (by have := numB_len1 sp; omega)
  have HC5 := Lib.hid hc5
  have HL5' := Lib.hid hl5
  have HK5 := Lib.hid (HK4.out.trans (Keep5.of_below hb5 hbW4))
  have HP5 := Lib.hid ((hb5.block p (Array.getElem?_eq_some_iff.1 HP4.out).1).trans HP4.out)
  have HO5 := Lib.hid (own_below5 HO4.out hb5)
  have hbW5 : base ≤ w5.heap.size := Nat.le_trans hbW4 hb5.size
  clear hb5 hy5 hl5 hc5 d0 d1 d2 d3 d4 d5
  obtain ⟨d0, d1, d2, d3, d4, d5⟩ := acc_cells HP5.out
  have hlen5 : (numB sp).length ≤ 10 := by have := HLP.out; exact this
  obtain ⟨M5, hM5⟩ : ∃ M, M = numB sp := ⟨_, rfl⟩
  rw [← hM5] at HC5 HL5' hlen5 HEN ⊢
  generalize hq5 : M5.length = q5 at *
  have HQ5 := Lib.hid hq5; clear hq5 hM5
  go_wp2_with (at_builtin; refine wpList_join5 rfl (.tmp 21) (.tmp 27) rfl base w5 hbW5 v4 (n + 1 + q3) (xs ++ [f] ++ M3) rfl HO5.out g5 q5 c5 M5 rfl HQ5.out HC5.out (by omega) (by omega) ?_; intro v6 w6 hown1 hk1; have HO6 := Lib.hid hown1; have HK6 := Lib.hid (HK5.out.trans hk1); have HP6 := Lib.hid (hk1.other p _ _ _ HP5.out (by decide)); have hbW6 : base ≤ w6.heap.size := (hk1.below base w5 (Below.refl _ _) (Nat.le_refl _)).size |> Nat.le_trans hbW5; clear d0 d1 d2 d3 d4 d5 hown1 hk1; obtain ⟨d0, d1, d2, d3, d4, d5⟩ := acc_cells HP6.out)
  refine (HO.out _).mono ?_
  rintro e w' ⟨rfl, rfl⟩
  go_wp2_with fail
  refine (HNO.out _).mono ?_
  rintro e w7 ⟨y7, rfl, hb7, hy7⟩
  obtain ⟨g7, c7, rfl, hl7, hc7⟩ := own_bytes hy7 (by have := numB_len1 ol; omega)
  have HC7 := Lib.hid hc7
  have HL7' := Lib.hid hl7
  have HK7 := Lib.hid (HK6.out.trans (Keep5.of_below hb7 hbW6))
  have HP7 := Lib.hid ((hb7.block p (Array.getElem?_eq_some_iff.1 HP6.out).1).trans HP6.out)
  have HO7 := Lib.hid (own_below5 HO6.out hb7)
  have hbW7 : base ≤ w7.heap.size := Nat.le_trans hbW6 hb7.size
  clear hb7 hy7 hl7 hc7 d0 d1 d2 d3 d4 d5
  obtain ⟨d0, d1, d2, d3, d4, d5⟩ := acc_cells HP7.out
  have hlen7 : (numB ol).length ≤ 10 := by have := HLO.out; exact this
  obtain ⟨M7, hM7⟩ : ∃ M, M = numB ol := ⟨_, rfl⟩
  rw [← hM7] at HC7 HL7' hlen7 HEN ⊢
  generalize hq7 : M7.length = q7 at *
  have HQ7 := Lib.hid hq7; clear hq7 hM7
  go_wp2_with (at_builtin; refine wpList_join5 rfl (.tmp 32) (.tmp 35) rfl base w7 hbW7 v6 (n + 1 + q3 + q5) (xs ++ [f] ++ M3 ++ M5) rfl HO7.out g7 q7 c7 M7 rfl HQ7.out HC7.out (by omega) (by omega) ?_; intro v8 w8 hown1 hk1; have HO8 := Lib.hid hown1; have HK8 := Lib.hid (HK7.out.trans hk1); have HP8 := Lib.hid (hk1.other p _ _ _ HP7.out (by decide)); have hbW8 : base ≤ w8.heap.size := (hk1.below base w7 (Below.refl _ _) (Nat.le_refl _)).size |> Nat.le_trans hbW7; clear d0 d1 d2 d3 d4 d5 hown1 hk1; obtain ⟨d0, d1, d2, d3, d4, d5⟩ := acc_cells HP8.out)
  refine (HNW.out _).mono ?_
  rintro e w' ⟨rfl, rfl⟩
  go_wp2_with fail
  refine (HNN.out _).mono ?_
  rintro e w9 ⟨y9, rfl, hb9, hy9⟩
  obtain ⟨g9, c9, rfl, hl9, hc9⟩ := own_bytes hy9 (by have := numB_len1 ne; omega)
  have HC9 := Lib.hid hc9
  have HL9' := Lib.hid hl9
  have HK9 := Lib.hid (HK8.out.trans (Keep5.of_below hb9 hbW8))
  have HP9 := Lib.hid ((hb9.block p (Array.getElem?_eq_some_iff.1 HP8.out).1).trans HP8.out)
  have HO9 := Lib.hid (own_below5 HO8.out hb9)
  have hbW9 : base ≤ w9.heap.size := Nat.le_trans hbW8 hb9.size
  clear hb9 hy9 hl9 hc9 d0 d1 d2 d3 d4 d5
  obtain ⟨d0, d1, d2, d3, d4, d5⟩ := acc_cells HP9.out
  have hlen9 : (numB ne).length ≤ 10 := by have := HLN.out; exact this
  obtain ⟨M9, hM9⟩ : ∃ M, M = numB ne := ⟨_, rfl⟩
  rw [← hM9] at HC9 HL9' hlen9 HEN ⊢
  generalize hq9 : M9.length = q9 at *
  have HQ9 := Lib.hid hq9; clear hq9 hM9
  go_wp2_with (at_builtin; refine wpList_join5 rfl (.tmp 40) (.tmp 43) rfl base w9 hbW9 v8 (n + 1 + q3 + q5 + q7) (xs ++ [f] ++ M3 ++ M5 ++ M7) rfl HO9.out g9 q9 c9 M9 rfl HQ9.out HC9.out (by omega) (by omega) ?_; intro v10 w10 hown1 hk1; have HO10 := Lib.hid hown1; have HK10 := Lib.hid (HK9.out.trans hk1); have HP10 := Lib.hid (hk1.other p _ _ _ HP9.out (by decide)); have hbW10 : base ≤ w10.heap.size := (hk1.below base w9 (Below.refl _ _) (Nat.le_refl _)).size |> Nat.le_trans hbW9; clear d0 d1 d2 d3 d4 d5 hown1 hk1; obtain ⟨d0, d1, d2, d3, d4, d5⟩ := acc_cells HP10.out)
  go_ret
  refine ⟨v10, rfl, ?_, HK10.out⟩
  have hE : E = [f] ++ (M3 ++ M5 ++ M7 ++ M9) := by rw [HEN.out]; simp
  have hlE : n + E.length = n + 1 + q3 + q5 + q7 + q9 := by rw [hE]; simp only [List.length_append, List.length_cons, List.length_nil]; have := HQ3.out; have := HQ5.out; have := HQ7.out; have := HQ9.out; omega
  rw [hlE, hE, ← List.append_assoc]
  have := HO10.out
  simpa only [List.append_assoc] using this
set_option maxRecDepth 100000 in
set_option maxHeartbeats 4000000 in
theorem one_k4 (v : Value) (base n : Nat) (xs : List Int) (th : Nat) (pl last : Int) (ol ne : Nat) (dn : Bool) (w : World) (hm : AccD.mayB ⟨4, th, pl, ol, ne, dn⟩ = true) (ho : ol < 18446744073709551616) (hne : ne < 18446744073709551616) (hl0 : -1073741824 ≤ last) (hl1 : last ≤ 1073741824) (hb : base ≤ w.heap.size) (hn : n ≤ 900000) (hown : w.ownsRow base 5 1 v n (u8s xs)) :
    Calls Try.prog 69 #[v, .agg (AccD.cells ⟨4, th, pl, ol, ne, dn⟩), .int .i64 last] w (OneB base n xs ⟨4, th, pl, ol, ne, dn⟩ last w) := by
  obtain ⟨-, -, -, t1, p0, p1, -⟩ := AccD.may_out hm
  simp only at t1 p0 p1
  have HFI := Lib.hid fun w => first_any ⟨4, th, pl, ol, ne, dn⟩ hm w
  simp only [AccD.cells] at HFI
  have HEN : Hid (AccD.enc ⟨4, th, pl, ol, ne, dn⟩ last = AccD.first ⟨4, th, pl, ol, ne, dn⟩ :: (numB th ++ (numB (sgn (pl - last)).toNat ++ ([] ++ [])))) := Lib.hid (by simp [AccD.enc, AccD.placeB, AccD.oldB, AccD.newB])
  generalize AccD.first ⟨4, th, pl, ol, ne, dn⟩ = f at *
  unfold OneB
  obtain ⟨E, hE⟩ : ∃ E, E = AccD.enc ⟨4, th, pl, ol, ne, dn⟩ last := ⟨_, rfl⟩
  rw [← hE] at HEN ⊢
  clear hE hm
  have HNT := Lib.hid fun w => number_any th (by omega) w
  have HLT := Lib.hid (numB_len10 th (by omega))
  have HL1 := Lib.hid (numB_len1 th)
  have s0 := sgn_lo (pl - last)
  have s1 := sgn_hi (pl - last) (by omega) (by omega)
  have HSG := Lib.hid fun w => signed_any (pl - last) (by omega) (by omega) w
  obtain ⟨sp, hsp⟩ := Int.eq_ofNat_of_zero_le s0
  rw [hsp] at HSG HEN s1
  rw [Int.toNat_natCast] at HEN
  clear s0
  have HNP := Lib.hid fun w => number_any sp (by omega) w
  have HLP := Lib.hid (numB_len10 sp (by omega))
  have HL2 := Lib.hid (numB_len1 sp)
  clear hsp
  have HO := Lib.hid fun w => olds_any 4 w
  have HNW := Lib.hid fun w => news_any 4 w
  have e1 : AccD.oldsB 4 = false := by decide
  have e2 : AccD.newsB 4 = false := by decide
  rw [e1] at HO
  rw [e2] at HNW
  clear e1 e2
  have HOWN := Lib.hid hown; clear hown
  obtain ⟨p, hp⟩ : ∃ p, p = w.heap.size := ⟨_, rfl⟩
  unfold AccD.cells
  go_enter Try.func69, Try.ntmps69
  go_wp2_with fail
  obtain ⟨W, hW⟩ : ∃ W, W = w.alloc (.cells (AccD.cells ⟨4, th, pl, ol, ne, dn⟩) 50) := ⟨_, rfl⟩
  have HK0 : Hid (Keep5 base w W) := Lib.hid (by rw [hW]; exact Keep5.of_below ((Below.refl _ _).alloc (Nat.le_refl _) _) hb)
  have HP0 : Hid (W.heap[p]? = some (.cells (AccD.cells ⟨4, th, pl, ol, ne, dn⟩) 50 (0, 0))) := Lib.hid (by rw [hW, hp, heap_alloc_new])
  have HO0 : Hid (W.ownsRow base 5 1 v n (u8s xs)) := Lib.hid (by rw [hW]; exact HOWN.out.alloc _)
  have hbW : base ≤ W.heap.size := by rw [hW]; simp; omega
  simp only [AccD.cells] at hW
  rw [← hW, ← hp]
  clear hW hp HOWN
  refine (HFI.out _).mono ?_
  rintro e w1 ⟨rfl, hb1⟩
  have HK1 := Lib.hid (HK0.out.trans (Keep5.of_below hb1 hbW))
  have HP1 := Lib.hid ((hb1.block p (Array.getElem?_eq_some_iff.1 HP0.out).1).trans HP0.out)
  have HO1 := Lib.hid (own_below5 HO0.out hb1)
  have hbW1 : base ≤ w1.heap.size := Nat.le_trans hbW hb1.size
  clear hb1 hbW HK0 HP0 HO0
  obtain ⟨d0, d1, d2, d3, d4, d5⟩ := acc_cells HP1.out
  go_wp2_with (at_builtin; refine wpList_byte rfl (.tmp 7) (.tmp 10) rfl base w1 hbW1 v n xs rfl HO1.out f 1 1 rfl (by omega) ?_; intro v1 w2 hown1 hk1; have HO2 := Lib.hid hown1; have HK2 := Lib.hid (HK1.out.trans hk1); have HP2 := Lib.hid (hk1.other p _ _ _ HP1.out (by decide)); have hbW2 : base ≤ w2.heap.size := (hk1.below base w1 (Below.refl _ _) (Nat.le_refl _)).size |> Nat.le_trans hbW1; clear d0 d1 d2 d3 d4 d5 hown1 hk1; obtain ⟨d0, d1, d2, d3, d4, d5⟩ := acc_cells HP2.out)
  refine (HNT.out _).mono ?_
  rintro e w3 ⟨y3, rfl, hb3, hy3⟩
  obtain ⟨g3, c3, rfl, hl3, hc3⟩ := own_bytes hy3 (by have := numB_len1 th; omega)
  have HC3 := Lib.hid hc3
  have HL3' := Lib.hid hl3
  have HK3 := Lib.hid (HK2.out.trans (Keep5.of_below hb3 hbW2))
  have HP3 := Lib.hid ((hb3.block p (Array.getElem?_eq_some_iff.1 HP2.out).1).trans HP2.out)
  have HO3 := Lib.hid (own_below5 HO2.out hb3)
  have hbW3 : base ≤ w3.heap.size := Nat.le_trans hbW2 hb3.size
  clear hb3 hy3 hl3 hc3 d0 d1 d2 d3 d4 d5
  obtain ⟨d0, d1, d2, d3, d4, d5⟩ := acc_cells HP3.out
  have hlen3 : (numB th).length ≤ 10 := by have := HLT.out; exact this
  obtain ⟨M3, hM3⟩ : ∃ M, M = numB th := ⟨_, rfl⟩
  rw [← hM3] at HC3 HL3' hlen3 HEN ⊢
  generalize hq3 : M3.length = q3 at *
  have HQ3 := Lib.hid hq3; clear hq3 hM3
  go_wp2_with (at_builtin; refine wpList_join5 rfl (.tmp 12) (.tmp 16) rfl base w3 hbW3 v1 (n + 1) (xs ++ [f]) rfl HO3.out g3 q3 c3 M3 rfl HQ3.out HC3.out (by omega) (by omega) ?_; intro v4 w4 hown1 hk1; have HO4 := Lib.hid hown1; have HK4 := Lib.hid (HK3.out.trans hk1); have HP4 := Lib.hid (hk1.other p _ _ _ HP3.out (by decide)); have hbW4 : base ≤ w4.heap.size := (hk1.below base w3 (Below.refl _ _) (Nat.le_refl _)).size |> Nat.le_trans hbW3; clear d0 d1 d2 d3 d4 d5 hown1 hk1; obtain ⟨d0, d1, d2, d3, d4, d5⟩ := acc_cells HP4.out)
  refine (HSG.out _).mono ?_
  rintro e w' ⟨rfl, rfl⟩
  go_wp2_with fail
  refine (HNP.out _).mono ?_
  rintro e w5 ⟨y5, rfl, hb5, hy5⟩
  obtain ⟨g5, c5, rfl, hl5, hc5⟩ := own_bytes hy5 (by have := numB_len1 sp; omega)
  have HC5 := Lib.hid hc5
  have HL5' := Lib.hid hl5
  have HK5 := Lib.hid (HK4.out.trans (Keep5.of_below hb5 hbW4))
  have HP5 := Lib.hid ((hb5.block p (Array.getElem?_eq_some_iff.1 HP4.out).1).trans HP4.out)
  have HO5 := Lib.hid (own_below5 HO4.out hb5)
  have hbW5 : base ≤ w5.heap.size := Nat.le_trans hbW4 hb5.size
  clear hb5 hy5 hl5 hc5 d0 d1 d2 d3 d4 d5
  obtain ⟨d0, d1, d2, d3, d4, d5⟩ := acc_cells HP5.out
  have hlen5 : (numB sp).length ≤ 10 := by have := HLP.out; exact this
  obtain ⟨M5, hM5⟩ : ∃ M, M = numB sp := ⟨_, rfl⟩
  rw [← hM5] at HC5 HL5' hlen5 HEN ⊢
  generalize hq5 : M5.length = q5 at *
  have HQ5 := Lib.hid hq5; clear hq5 hM5
  go_wp2_with (at_builtin; refine wpList_join5 rfl (.tmp 21) (.tmp 27) rfl base w5 hbW5 v4 (n + 1 + q3) (xs ++ [f] ++ M3) rfl HO5.out g5 q5 c5 M5 rfl HQ5.out HC5.out (by omega) (by omega) ?_; intro v6 w6 hown1 hk1; have HO6 := Lib.hid hown1; have HK6 := Lib.hid (HK5.out.trans hk1); have HP6 := Lib.hid (hk1.other p _ _ _ HP5.out (by decide)); have hbW6 : base ≤ w6.heap.size := (hk1.below base w5 (Below.refl _ _) (Nat.le_refl _)).size |> Nat.le_trans hbW5; clear d0 d1 d2 d3 d4 d5 hown1 hk1; obtain ⟨d0, d1, d2, d3, d4, d5⟩ := acc_cells HP6.out)
  refine (HO.out _).mono ?_
  rintro e w' ⟨rfl, rfl⟩
  go_wp2_with fail
  refine (HNW.out _).mono ?_
  rintro e w' ⟨rfl, rfl⟩
  go_wp2_with fail
  go_ret
  refine ⟨v6, rfl, ?_, HK6.out⟩
  have hE : E = [f] ++ (M3 ++ M5) := by rw [HEN.out]; simp
  have hlE : n + E.length = n + 1 + q3 + q5 := by rw [hE]; simp only [List.length_append, List.length_cons, List.length_nil]; have := HQ3.out; have := HQ5.out; omega
  rw [hlE, hE, ← List.append_assoc]
  have := HO6.out
  simpa only [List.append_assoc] using this
set_option maxRecDepth 100000 in
set_option maxHeartbeats 4000000 in
theorem one_k5 (v : Value) (base n : Nat) (xs : List Int) (th : Nat) (pl last : Int) (ol ne : Nat) (dn : Bool) (w : World) (hm : AccD.mayB ⟨5, th, pl, ol, ne, dn⟩ = true) (ho : ol < 18446744073709551616) (hne : ne < 18446744073709551616) (hl0 : -1073741824 ≤ last) (hl1 : last ≤ 1073741824) (hb : base ≤ w.heap.size) (hn : n ≤ 900000) (hown : w.ownsRow base 5 1 v n (u8s xs)) :
    Calls Try.prog 69 #[v, .agg (AccD.cells ⟨5, th, pl, ol, ne, dn⟩), .int .i64 last] w (OneB base n xs ⟨5, th, pl, ol, ne, dn⟩ last w) := by
  obtain ⟨-, -, -, t1, p0, p1, -⟩ := AccD.may_out hm
  simp only at t1 p0 p1
  have HFI := Lib.hid fun w => first_any ⟨5, th, pl, ol, ne, dn⟩ hm w
  simp only [AccD.cells] at HFI
  have HEN : Hid (AccD.enc ⟨5, th, pl, ol, ne, dn⟩ last = AccD.first ⟨5, th, pl, ol, ne, dn⟩ :: (numB th ++ ([] ++ ([] ++ [])))) := Lib.hid (by simp [AccD.enc, AccD.placeB, AccD.oldB, AccD.newB])
  generalize AccD.first ⟨5, th, pl, ol, ne, dn⟩ = f at *
  unfold OneB
  obtain ⟨E, hE⟩ : ∃ E, E = AccD.enc ⟨5, th, pl, ol, ne, dn⟩ last := ⟨_, rfl⟩
  rw [← hE] at HEN ⊢
  clear hE hm
  have HNT := Lib.hid fun w => number_any th (by omega) w
  have HLT := Lib.hid (numB_len10 th (by omega))
  have HL1 := Lib.hid (numB_len1 th)
  have HO := Lib.hid fun w => olds_any 5 w
  have HNW := Lib.hid fun w => news_any 5 w
  have e1 : AccD.oldsB 5 = false := by decide
  have e2 : AccD.newsB 5 = false := by decide
  rw [e1] at HO
  rw [e2] at HNW
  clear e1 e2
  have HOWN := Lib.hid hown; clear hown
  obtain ⟨p, hp⟩ : ∃ p, p = w.heap.size := ⟨_, rfl⟩
  unfold AccD.cells
  go_enter Try.func69, Try.ntmps69
  go_wp2_with fail
  obtain ⟨W, hW⟩ : ∃ W, W = w.alloc (.cells (AccD.cells ⟨5, th, pl, ol, ne, dn⟩) 50) := ⟨_, rfl⟩
  have HK0 : Hid (Keep5 base w W) := Lib.hid (by rw [hW]; exact Keep5.of_below ((Below.refl _ _).alloc (Nat.le_refl _) _) hb)
  have HP0 : Hid (W.heap[p]? = some (.cells (AccD.cells ⟨5, th, pl, ol, ne, dn⟩) 50 (0, 0))) := Lib.hid (by rw [hW, hp, heap_alloc_new])
  have HO0 : Hid (W.ownsRow base 5 1 v n (u8s xs)) := Lib.hid (by rw [hW]; exact HOWN.out.alloc _)
  have hbW : base ≤ W.heap.size := by rw [hW]; simp; omega
  simp only [AccD.cells] at hW
  rw [← hW, ← hp]
  clear hW hp HOWN
  refine (HFI.out _).mono ?_
  rintro e w1 ⟨rfl, hb1⟩
  have HK1 := Lib.hid (HK0.out.trans (Keep5.of_below hb1 hbW))
  have HP1 := Lib.hid ((hb1.block p (Array.getElem?_eq_some_iff.1 HP0.out).1).trans HP0.out)
  have HO1 := Lib.hid (own_below5 HO0.out hb1)
  have hbW1 : base ≤ w1.heap.size := Nat.le_trans hbW hb1.size
  clear hb1 hbW HK0 HP0 HO0
  obtain ⟨d0, d1, d2, d3, d4, d5⟩ := acc_cells HP1.out
  go_wp2_with (at_builtin; refine wpList_byte rfl (.tmp 7) (.tmp 10) rfl base w1 hbW1 v n xs rfl HO1.out f 1 1 rfl (by omega) ?_; intro v1 w2 hown1 hk1; have HO2 := Lib.hid hown1; have HK2 := Lib.hid (HK1.out.trans hk1); have HP2 := Lib.hid (hk1.other p _ _ _ HP1.out (by decide)); have hbW2 : base ≤ w2.heap.size := (hk1.below base w1 (Below.refl _ _) (Nat.le_refl _)).size |> Nat.le_trans hbW1; clear d0 d1 d2 d3 d4 d5 hown1 hk1; obtain ⟨d0, d1, d2, d3, d4, d5⟩ := acc_cells HP2.out)
  refine (HNT.out _).mono ?_
  rintro e w3 ⟨y3, rfl, hb3, hy3⟩
  obtain ⟨g3, c3, rfl, hl3, hc3⟩ := own_bytes hy3 (by have := numB_len1 th; omega)
  have HC3 := Lib.hid hc3
  have HL3' := Lib.hid hl3
  have HK3 := Lib.hid (HK2.out.trans (Keep5.of_below hb3 hbW2))
  have HP3 := Lib.hid ((hb3.block p (Array.getElem?_eq_some_iff.1 HP2.out).1).trans HP2.out)
  have HO3 := Lib.hid (own_below5 HO2.out hb3)
  have hbW3 : base ≤ w3.heap.size := Nat.le_trans hbW2 hb3.size
  clear hb3 hy3 hl3 hc3 d0 d1 d2 d3 d4 d5
  obtain ⟨d0, d1, d2, d3, d4, d5⟩ := acc_cells HP3.out
  have hlen3 : (numB th).length ≤ 10 := by have := HLT.out; exact this
  obtain ⟨M3, hM3⟩ : ∃ M, M = numB th := ⟨_, rfl⟩
  rw [← hM3] at HC3 HL3' hlen3 HEN ⊢
  generalize hq3 : M3.length = q3 at *
  have HQ3 := Lib.hid hq3; clear hq3 hM3
  go_wp2_with (at_builtin; refine wpList_join5 rfl (.tmp 12) (.tmp 16) rfl base w3 hbW3 v1 (n + 1) (xs ++ [f]) rfl HO3.out g3 q3 c3 M3 rfl HQ3.out HC3.out (by omega) (by omega) ?_; intro v4 w4 hown1 hk1; have HO4 := Lib.hid hown1; have HK4 := Lib.hid (HK3.out.trans hk1); have HP4 := Lib.hid (hk1.other p _ _ _ HP3.out (by decide)); have hbW4 : base ≤ w4.heap.size := (hk1.below base w3 (Below.refl _ _) (Nat.le_refl _)).size |> Nat.le_trans hbW3; clear d0 d1 d2 d3 d4 d5 hown1 hk1; obtain ⟨d0, d1, d2, d3, d4, d5⟩ := acc_cells HP4.out)
  refine (HO.out _).mono ?_
  rintro e w' ⟨rfl, rfl⟩
  go_wp2_with fail
  refine (HNW.out _).mono ?_
  rintro e w' ⟨rfl, rfl⟩
  go_wp2_with fail
  go_ret
  refine ⟨v4, rfl, ?_, HK4.out⟩
  have hE : E = [f] ++ (M3) := by rw [HEN.out]; simp
  have hlE : n + E.length = n + 1 + q3 := by rw [hE]; simp only [List.length_append, List.length_cons, List.length_nil]; have := HQ3.out; omega
  rw [hlE, hE, ← List.append_assoc]
  have := HO4.out
  simpa only [List.append_assoc] using this

theorem one_acc (v : Value) (base n : Nat) (xs : List Int) (x : AccD) (last : Int) (w : World) (hx : x.good) (hl : -1073741824 ≤ last ∧ last ≤ 1073741824) (hb : base ≤ w.heap.size) (hn : n ≤ 900000) (hown : w.ownsRow base 5 1 v n (u8s xs)) :
    Calls Try.prog 69 #[v, .agg x.cells, .int .i64 last] w (OneB base n xs x last w) := by
  obtain ⟨hm, o0, o1, n0, n1⟩ := hx
  obtain ⟨k0, k1, t0, -⟩ := AccD.may_out hm
  obtain ⟨ki, th, pl, ol, ne, dn⟩ := x
  simp only at k0 k1 t0 o0 o1 n0 n1
  obtain ⟨th, rfl⟩ := Int.eq_ofNat_of_zero_le t0
  obtain ⟨ol, rfl⟩ := Int.eq_ofNat_of_zero_le o0
  obtain ⟨ne, rfl⟩ := Int.eq_ofNat_of_zero_le n0
  rcases (show ki = 1 ∨ ki = 2 ∨ ki = 3 ∨ ki = 4 ∨ ki = 5 by omega) with rfl | rfl | rfl | rfl | rfl
  · exact one_k1 v base n xs th pl last ol ne dn w hm (by omega) (by omega) hl.1 hl.2 hb hn hown
  · exact one_k2 v base n xs th pl last ol ne dn w hm (by omega) (by omega) hl.1 hl.2 hb hn hown
  · exact one_k3 v base n xs th pl last ol ne dn w hm (by omega) (by omega) hl.1 hl.2 hb hn hown
  · exact one_k4 v base n xs th pl last ol ne dn w hm (by omega) (by omega) hl.1 hl.2 hb hn hown
  · exact one_k5 v base n xs th pl last ol ne dn w hm (by omega) (by omega) hl.1 hl.2 hb hn hown
end Go.Proofs.Ytfjddkjfkgdihaa
