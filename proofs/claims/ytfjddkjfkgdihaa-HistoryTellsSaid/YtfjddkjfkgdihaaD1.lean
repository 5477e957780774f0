/- Layer 24: which calls took place, which are a thread's; the reference's order; which of a list a predicate picks. -/
import Derived.Test.YtfjddkjfkgdihaaC14
namespace Go.Proofs.Ytfjddkjfkgdihaa
open Go.RowKit Go.BigFrame
set_option linter.unusedVariables false

def CallD.tookB (c : CallD) : Bool := !c.cr || c.kp
def CallD.ofB (t : Int) (c : CallD) : Bool := decide (c.th = t)

theorem refAhead_any (a b : CallD) (w : World) : Calls Try.prog 46 #[.agg a.cells, .agg b.cells] w (BoolOn (a.aheadB b) w) := by
  obtain ⟨r, hr⟩ : ∃ r, r = a.aheadB b := ⟨_, rfl⟩
  rw [← hr]
  unfold CallD.aheadB at hr
  obtain ⟨th, ki, ky, va, rk, rv, be, en, wh, cr, kp⟩ := a
  obtain ⟨th', ki', ky', va', rk', rv', be', en', wh', cr', kp'⟩ := b
  simp only [CallD.cells] at *
  have HR := Lib.hid hr; clear hr
  by_cases h1 : en = -1
  · subst h1
    have HF : Hid (r = false) := Lib.hid (by rw [HR.out]; rfl)
    go_enter Try.func46, Try.ntmps46
    go_wp2
    go_ret
    exact ⟨by rw [HF.out]; rfl, ((Below.refl _ _).alloc (Nat.le_refl _) _).alloc (by simp) _⟩
  · have b1 : (en != -1) = true := by simp [h1]
    have HF : Hid (r = decide (en ≤ be')) := Lib.hid (by rw [HR.out, b1]; rfl)
    clear h1
    go_enter Try.func46, Try.ntmps46
    go_wp2
    go_ret
    exact ⟨by rw [HF.out]; rfl, ((Below.refl _ _).alloc (Nat.le_refl _) _).alloc (by simp) _⟩
theorem took1_any (c : CallD) (w : World) : Calls Try.prog 64 #[.agg c.cells] w (BoolOn c.tookB w) := by
  obtain ⟨r, hr⟩ : ∃ r, r = c.tookB := ⟨_, rfl⟩
  rw [← hr]
  unfold CallD.tookB at hr
  obtain ⟨th, ki, ky, va, rk, rv, be, en, wh, cr, kp⟩ := c
  simp only [CallD.cells] at *
  cases cr
  · have HF : Hid (r = true) := Lib.hid hr
    clear hr
    go_enter Try.func64, Try.ntmps64
    go_wp2
    go_ret
    exact ⟨by rw [HF.out]; rfl, ((Below.refl _ _).alloc (Nat.le_refl _) _)⟩
  · have HF : Hid (r = kp) := Lib.hid (hr.trans (by simp))
    clear hr
    go_enter Try.func64, Try.ntmps64
    go_wp2
    go_ret
    exact ⟨by rw [HF.out]; rfl, ((Below.refl _ _).alloc (Nat.le_refl _) _)⟩
theorem of1_any (c : CallD) (t : Int) (g : Nat) (w : World) (hg : w.cell? ⟨g, 0, none⟩ = some (.int .i64 t)) (hl : g < w.heap.size) :
    Calls Try.prog 65 #[.agg c.cells, .pointer (some ⟨g, 0, none⟩)] w (BoolOn (c.ofB t) w) := by
  obtain ⟨r, hr⟩ : ∃ r, r = c.ofB t := ⟨_, rfl⟩
  rw [← hr]
  unfold CallD.ofB at hr
  obtain ⟨th, ki, ky, va, rk, rv, be, en, wh, cr, kp⟩ := c
  simp only [CallD.cells] at *
  have HF : Hid (r = decide (th = t)) := Lib.hid hr
  clear hr
  have hne : w.heap.size ≠ g := by omega
  go_enter Try.func65, Try.ntmps65
  go_wp2
  go_ret
  exact ⟨by rw [HF.out]; rfl, ((Below.refl _ _).alloc (Nat.le_refl _) _)⟩

/-- Which of the first k calls a predicate picks. -/
def idxTo (p : CallD → Bool) (c : Nat → CallD) : Nat → List Nat
  | 0 => []
  | k + 1 => idxTo p c k ++ (if p (c k) then [k] else [])
def intsOf (l : List Nat) : List Value := l.map fun i : Nat => .int .i64 (i : Int)
theorem idxTo_len (p : CallD → Bool) (c : Nat → CallD) (k : Nat) : (idxTo p c k).length ≤ k := by
  induction k with
  | zero => exact Nat.le_refl _
  | succ k ih => rw [idxTo, List.length_append]; split <;> simp <;> omega
theorem idxTo_lt (p : CallD → Bool) (c : Nat → CallD) (k i : Nat) (h : i ∈ idxTo p c k) : i < k ∧ p (c i) = true := by
  induction k with
  | zero => cases h
  | succ k ih =>
    rw [idxTo, List.mem_append] at h
    rcases h with h | h
    · have := ih h; exact ⟨by omega, this.2⟩
    · split at h
      · rename_i hp; simp at h; subst h; exact ⟨by omega, hp⟩
      · cases h
theorem info3 : (Try.prog.info? 3).map (fun i => (i.zero, i.size, i.bytes)) = some (some (.int .i64 0), 1, 8) := by kernel_rfl
/-- The slice that a search hands back. -/
def WhereTo (p : CallD → Bool) (c : Nat → CallD) (len : Nat) (w : World) (e : Ending) (w' : World) : Prop :=
  ∃ v, e = .returned v ∧ Below w.heap.size w w' ∧ w'.ownsRow w.heap.size 3 1 v (idxTo p c len).length (intsOf (idxTo p c len))
theorem intsOf_append (l m : List Nat) : intsOf (l ++ m) = intsOf l ++ intsOf m := by simp [intsOf]

set_option maxRecDepth 100000 in
set_option maxHeartbeats 4000000 in
theorem where_any (p : CallD → Bool) (f : Nat) (lb : Array Value) (ef : ∀ args w, (callFunc f args).run Try.prog w = .ok (.enter f args) w) (b off len cap : Nat) (c : Nat → CallD) (w : World) (hl : len ≤ 100) (hb : b < w.heap.size)
    (hc : ∀ i, i < len → CallAt w b (off + i * 11) (c i)) (hp : ∀ x W, Below w.heap.size w W → Calls Try.prog f (#[.agg (CallD.cells x)] ++ lb) W (BoolOn (p x) W)) :
    Calls Try.prog 63 #[.slice (some ⟨b, off, none⟩) len cap, .func (.func f) #[] lb] w (WhereTo p c len w) := by
  obtain ⟨i3, hi, hz0, hz1, hz2⟩ := info_parts info3
  have HC := Lib.hid hc; clear hc
  have HPP := Lib.hid hp; clear hp
  obtain ⟨B, hB⟩ : ∃ B, B = w.heap.size := ⟨_, rfl⟩
  rw [← hB] at hb HPP
  unfold WhereTo
  rw [← hB]
  have HBB := Lib.hid hb; clear hb
  have HB := Lib.hid hB; clear hB
  go_enter Try.func63, Try.ntmps63
  go_wp2_with fail
  go_loopw [5, 10] (fun v i wr => ∃ k : Nat, k ≤ len ∧ i = .int .i64 k ∧ Hid (wr.ownsRow B 3 1 v (idxTo p c k).length (intsOf (idxTo p c k))) ∧ Hid (Below B w wr)) (fun _ i _ => len - (intOf i).toNat)
  case atStart => exact ⟨0, Nat.zero_le _, rfl, World.ownsRow_nil _ _ _ _, Below.refl _ _⟩
  case round =>
    obtain ⟨k, hk, rfl, HO, HBE⟩ := hrel
    have hBw : B ≤ wr.heap.size := by rw [HB.out]; exact HBE.out.size
    by_cases hlt : k < len
    · obtain ⟨d0, d1, d2, d3, d4, d5, d6, d7, d8, d9, d10⟩ := (HC.out k hlt).of (w' := wr) fun o => HBE.out.cell (p := ⟨b, o, none⟩) HBB.out
      have i0 : (0 : Int) ≤ (k : Int) := by omega
      have i1 : (k : Int) < (len : Int) := by omega
      obtain ⟨x, hx⟩ : ∃ x, x = c k := ⟨_, rfl⟩
      rw [← hx] at d0 d1 d2 d3 d4 d5 d6 d7 d8 d9 d10
      have HX := Lib.hid hx; clear hx
      obtain ⟨W, hW⟩ : ∃ W, W = wr.alloc (.cells #[.int .i64 x.th, .int .i64 x.ki, .int .u32 x.ky, .int .u32 x.va, .int .i64 x.rk, .int .u32 x.rv, .int .i64 x.be, .int .i64 x.en, .int .i64 x.wh, .bool x.cr, .bool x.kp] 65) := ⟨_, rfl⟩
      have HOW : Hid (W.ownsRow B 3 1 u5 (idxTo p c k).length (intsOf (idxTo p c k))) := Lib.hid (by rw [hW]; exact HO.out.alloc _)
      have HBW : Hid (Below B w W) := Lib.hid (by rw [hW]; exact HBE.out.alloc hBw _)
      have HSW : Hid (B ≤ W.heap.size) := Lib.hid (by rw [HB.out]; exact HBW.out.size)
      have HCALL := Lib.hid (HPP.out x W HBW.out)
      have HW := Lib.hid hW; clear hW
      have HLN : Hid ((idxTo p c k).length ≤ 100) := Lib.hid (by have := idxTo_len p c k; omega)
      obtain ⟨r, hr⟩ : ∃ r, r = p x := ⟨_, rfl⟩
      rw [← hr] at HCALL
      have HRR : Hid (r = p (c k)) := Lib.hid (by rw [hr, HX.out])
      clear hr
      have HC1 : Hid (Calls Try.prog f (#[.agg #[.int .i64 x.th, .int .i64 x.ki, .int .u32 x.ky, .int .u32 x.va, .int .i64 x.rk, .int .u32 x.rv, .int .i64 x.be, .int .i64 x.en, .int .i64 x.wh, .bool x.cr, .bool x.kp]] ++ lb) W (BoolOn r W)) := HCALL
      clear HCALL
      cases r
      · have HN : Hid (idxTo p c (k + 1) = idxTo p c k) := Lib.hid (by rw [idxTo, if_neg (by rw [← HRR.out]; simp), List.append_nil])
        go_wp2_with fail
        rw [← HW.out]
        with_reducible refine (HC1.out).mono ?_
        rintro e w2 ⟨rfl, hb2⟩
        have HO2 := Lib.hid (own_below HOW.out hb2)
        have HB2 := Lib.hid (HBW.out.trans (hb2.mono HSW.out))
        clear hb2
        go_wp2_with fail
        go_roundw
        case rel => exact ⟨k + 1, by omega, by go_num, Lib.hid (by rw [HN.out]; exact HO2.out), HB2⟩
        case measure => simp [intOf]; omega
      · have HN : Hid (idxTo p c (k + 1) = idxTo p c k ++ [k]) := Lib.hid (by rw [idxTo, if_pos HRR.out.symm])
        go_wp2_with fail
        rw [← HW.out]
        with_reducible refine (HC1.out).mono ?_
        rintro e w2 ⟨rfl, hb2⟩
        have HO2 := Lib.hid (own_below HOW.out hb2)
        have HB2 := Lib.hid (HBW.out.trans (hb2.mono HSW.out))
        have hB2 : B ≤ w2.heap.size := Nat.le_trans HSW.out hb2.size
        clear hb2
        go_wp2_with (at_builtin; refine wpList_push rfl _ _ 37 rfl B 3 i3 (.int .i64 0) 1 8 Try.underlying37 hi hz0 hz1 hz2 rfl (by decide) w2 hB2 u5 (idxTo p c k).length (intsOf (idxTo p c k)) rfl HO2.out #[.int .i64 k] 1 1 rfl rfl (by simp [Value.oneCell']) (by have := HLN.out; unfold maxLen; omega) (by have := HLN.out; omega) ?_; intro v' w' hown hgr hbel hne; have HO' := Lib.hid hown; have HB' := Lib.hid (hbel B w HB2.out (Nat.le_refl _)); clear hown hgr hbel hne)
        go_wp2_with fail
        go_roundw
        case rel => exact ⟨k + 1, by omega, by go_num, Lib.hid (by rw [HN.out, intsOf_append, List.length_append]; exact HO'.out), HB'⟩
        case measure => simp [intOf]; omega
    · obtain rfl : k = len := by omega
      go_wp2_with fail
      go_ret
      exact ⟨_, rfl, by rw [HB.out] at *; exact HBE.out, HO.out⟩
end Go.Proofs.Ytfjddkjfkgdihaa
