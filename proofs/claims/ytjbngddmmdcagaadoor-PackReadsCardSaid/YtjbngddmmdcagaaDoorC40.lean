/- Layer 3: lines' words. -/
import Derived.Test.YtjbngddmmdcagaaDoorB0
namespace Go.Proofs.YtjbngddmmdcagaaDoor
open Go.RowKit Go.BigFrame
set_option linter.unusedVariables false
set_option linter.unusedSimpArgs false

/-- 'append(s, x...)' of elements that lie in the block just made, of whatever type. -/
theorem wpList_push' {P : Program} {ops : Array Oper} {rest : List Oper} {o : Oper} {a : Act} {Q : Exit → Act → World → Prop} (hgd : o.guard = none) (s x : Operand) (t : TypeId)
    (ho : o.op = .call { callee := .builtin .append, args := #[s, x], argTypes := #[t, t] })
    (base : Nat) (e e' : TypeId) (i : TypeInfo) (z : Value) (size bytes : Nat) (ht : P.underlying t = some (.slice e)) (hi : P.info? e = some i) (hz : i.zero = some z)
    (hsize : i.size = size) (hby : i.bytes = bytes) (hzs : z.cells.size = size) (hsz : 0 < size)
    (wr : World) (hbase : base ≤ wr.heap.size) (v : Value) (n : Nat) (xs : List Value) (hs : a.eval s = v) (hown : wr.ownsRow base e size v n xs)
    (cs : Array Value) (m c : Nat) (hx : a.eval x = .slice (some ⟨wr.heap.size, 0, none⟩) m c) (hl : cs.size = m * size) (h1 : ∀ u ∈ cs.toList, u.oneCell' = true)
    (h63 : n + m ≤ maxLen) (hbytes : (n + m) * bytes ≤ 140737488355328)
    (h : ∀ v' w', w'.ownsRow base e size v' (n + m) (xs ++ cs.toList) → wr.grownBy w' v.ownBlock → (∀ B W, Below B W wr → B ≤ base → Below B W w') → (v' = .slice none 0 0 ↔ v = .slice none 0 0 ∧ m = 0) → wpList P ops Q rest (a.put o.dst v') w') :
    wpList P ops Q (o :: rest) a (wr.alloc (.cells cs e')) := by
  refine wpList_append_own _ hgd s x t ho base e i z size bytes ht hi hz hsize hby hzs hsz v n xs hs (hown.alloc _) ⟨wr.heap.size, 0, none⟩ m c cs.toList hx (by simpa using hl) (fun j u hj => cell_alloc wr cs e' j u hj) h1 h63 hbytes (by simp; omega) ?_
  intro v' w' ho' hg' hn'
  refine h v' w' ho' (grownBy_trans (World.grownBy_alloc wr _ _) hg') (fun B W hb hB => ?_) hn'
  refine (hb.alloc (by omega) _).grown hg' (by simp; omega) (fun k hk => ?_)
  have := hown.lt k hk
  omega
theorem info42 : (Tryd.prog.info? 23).map (fun i => (i.zero, i.size, i.bytes)) = some (some (.int .u64 0), 1, 8) := by kernel_rfl
/-- New words. -/
def NewWords (f : Nat → Int) (n : Nat) (W : World) (e : Ending) (W' : World) : Prop := ∃ v, e = .returned v ∧ Below W.heap.size W W' ∧ W'.ownsRow W.heap.size 23 1 v n (wordsL f n)
set_option maxRecDepth 100000 in
set_option maxHeartbeats 1000000 in
theorem words42 (b n cap : Nat) (hn : n ≤ 262144) (f : Nat → Int) (W : World) (h : RowAt W b (8 * n) fun k => .int .u64 (f k)) :
    Calls Tryd.prog 30 #[.slice (some ⟨b, 0, none⟩) n cap] W (NewWords f (8 * n) W) := by
  obtain ⟨i42, hi, hz0, hz1, hz2⟩ := info_parts info42
  have HR := Lib.hid h
  have hb := h.lt
  clear h
  obtain ⟨B, hB⟩ : ∃ B, B = W.heap.size := ⟨_, rfl⟩
  unfold NewWords
  rw [← hB] at hb ⊢
  have HBB := Lib.hid hb; clear hb
  have HB := Lib.hid hB; clear hB
  go_enter Tryd.func30, Tryd.ntmps30
  go_wp2_with fail
  go_loopw [3, 8] (fun v i wr => ∃ k : Nat, k ≤ n ∧ i = .int .i64 k ∧ Hid (wr.ownsRow B 23 1 v (8 * k) (wordsL f (8 * k))) ∧ Hid (Below B W wr)) (fun _ i _ => n - (intOf i).toNat)
  case atStart => exact ⟨0, Nat.zero_le _, rfl, World.ownsRow_nil _ _ _ _, Below.refl _ _⟩
  case round =>
    obtain ⟨k, hk, rfl, HO, HBE⟩ := hrel
    have HBw : Hid (B ≤ wr.heap.size) := Lib.hid (by rw [HB.out]; exact HBE.out.size)
    by_cases hlt : k < n
    · have hr : RowAt wr b (8 * n) fun k => .int .u64 (f k) := HR.out.keep (HBE.out.block b HBB.out)
      have h8 : Eight wr b (k * 8) (fun r => f (k * 8 + r)) := fun r hr' => hr.cell (by omega)
      obtain ⟨c0, c1, c2, c3, c4, c5, c6, c7⟩ := h8.cells
      have hw8 := wordsL_8 f k
      have i0 : (0 : Int) ≤ (k : Int) := by omega
      have i1 : (k : Int) < (n : Int) := by omega
      have i2 : decide ((k : Int) < (n : Int)) = true := bool_yes i1
      rw [Nat.add_zero] at c0
      have HW8 := Lib.hid hw8
      clear hr h8 hw8
      generalize f (k * 8) = v0 at *
      generalize f (k * 8 + 1) = v1 at *
      generalize f (k * 8 + 2) = v2 at *
      generalize f (k * 8 + 3) = v3 at *
      generalize f (k * 8 + 4) = v4 at *
      generalize f (k * 8 + 5) = v5 at *
      generalize f (k * 8 + 6) = v6 at *
      generalize f (k * 8 + 7) = v7 at *
      go_wp2_with (at_builtin; refine wpList_push' rfl _ _ 22 rfl B 23 58 i42 (.int .u64 0) 1 8 Tryd.underlying22 hi hz0 hz1 hz2 rfl (by decide) wr HBw.out u3 (8 * k) (wordsL f (8 * k)) rfl HO.out #[.int .u64 v0, .int .u64 v1, .int .u64 v2, .int .u64 v3, .int .u64 v4, .int .u64 v5, .int .u64 v6, .int .u64 v7] 8 8 rfl rfl (by simp [Value.oneCell']) (by unfold maxLen; omega) (by omega) ?_; intro v' w' hown hgr hbel hne; have HO' := Lib.hid hown; have HB' := Lib.hid (hbel B W HBE.out (Nat.le_refl _)); clear hown hgr hbel hne)
      go_wp2_with fail
      go_roundw
      case rel => exact ⟨k + 1, by omega, by go_num, Lib.hid (by rw [HW8.out]; exact HO'.out), HB'⟩
      case measure => simp [intOf]; omega
    · obtain rfl : k = n := by omega
      have i2 : decide ((k : Int) < (k : Int)) = false := by simp
      go_wp2_with fail
      go_ret
      exact ⟨_, rfl, HBE.out, HO.out⟩
end Go.Proofs.YtjbngddmmdcagaaDoor
