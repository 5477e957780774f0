/- Walks of layer 24 (history): which calls may be. -/
import Derived.Test.YtfjddkjfkgdihaaRows
import Derived.WalkKit
import Derived.WalkSpells
import Derived.Lib.Hide
namespace Go.Proofs.Ytfjddkjfkgdihaa
open Go.RowKit
set_option linter.unusedVariables false

/-- A call, field by field. -/
structure CallD where
  th : Int
  ki : Int
  ky : Int
  va : Int
  rk : Int
  rv : Int
  be : Int
  en : Int
  wh : Int
  cr : Bool
  kp : Bool
def CallD.cells (c : CallD) : Array Value := #[.int .i64 c.th, .int .i64 c.ki, .int .u32 c.ky, .int .u32 c.va, .int .i64 c.rk, .int .u32 c.rv, .int .i64 c.be, .int .i64 c.en, .int .i64 c.wh, .bool c.cr, .bool c.kp]

def kindB (op : Int) : Bool := decide (1 ≤ op) && decide (op ≤ 8)
def looksB (op : Int) : Bool := op == 5 || op == 7
def canB (op k : Int) : Bool :=
  if k = 1 then !looksB op else if k = 2 then op == 2 else if k = 3 then op == 3 || op == 6 || looksB op else if k = 4 then op == 4 || op == 8 || looksB op else if k = 5 then !looksB op else false
def valuedB (op k : Int) : Bool := if k = 1 then op == 2 || op == 8 else if k = 3 then op == 6 || op == 7 else false
def CallD.answeredB (c : CallD) : Bool := !c.kp && decide (c.be < c.wh) && decide (c.wh ≤ c.en) && canB c.ki c.rk && (c.rv == 0 || valuedB c.ki c.rk)
def CallD.brokenB (c : CallD) : Bool := (c.en == -1) && ((c.rk == 0) && (c.rv == 0)) && (if c.wh = -1 then !c.kp else decide (c.be < c.wh) && !looksB c.ki)
def CallD.mayB (c : CallD) : Bool := (kindB c.ki && decide (0 ≤ c.be)) && (if c.cr then c.brokenB else c.answeredB)

def BoolTo (b : Bool) (w : World) (e : Ending) (w' : World) : Prop := e = .returned (.bool b) ∧ w = w'
def BoolOn (b : Bool) (w : World) (e : Ending) (w' : World) : Prop := e = .returned (.bool b) ∧ Below w.heap.size w w'

theorem kind_any (op : Int) (w : World) : Calls Try.prog 59 #[.int .i64 op] w (BoolTo (kindB op) w) := by
  by_cases h : 1 ≤ op
  · go_enter Try.func59, Try.ntmps59
    go_wp2
    go_ret
    exact ⟨by simp [kindB, h], rfl⟩
  · have h' : op < 1 := by omega
    clear h
    go_enter Try.func59, Try.ntmps59
    go_wp2
    go_ret
    exact ⟨by simp [kindB]; omega, rfl⟩

theorem looks_any (op : Int) (w : World) : Calls Try.prog 78 #[.int .i64 op] w (BoolTo (looksB op) w) := by
  cases h : (op == 5)
  · go_enter Try.func78, Try.ntmps78
    go_wp2
    go_ret
    exact ⟨by simp [looksB, h], rfl⟩
  · go_enter Try.func78, Try.ntmps78
    go_wp2
    go_ret
    exact ⟨by simp [looksB, h], rfl⟩

theorem can_any (op k : Int) (w : World) : Calls Try.prog 79 #[.int .i64 op, .int .i64 k] w (BoolTo (canB op k) w) := by
  have H78 := Lib.hid fun w => looks_any op w
  obtain ⟨r, hr⟩ : ∃ r, r = canB op k := ⟨_, rfl⟩
  have hr2 := hr
  unfold canB at hr2
  rw [← hr]; clear hr
  generalize looksB op = l at *
  have HR := Lib.hid hr2; clear hr2
  by_cases k1 : k = 1
  · subst k1
    go_enter Try.func79, Try.ntmps79
    go_wp2_with (go_at_call 78; refine (H78.out _).mono ?_; rintro e w' ⟨rfl, rfl⟩)
    go_ret
    exact ⟨by rw [HR.out]; simp, rfl⟩
  · by_cases k2 : k = 2
    · subst k2
      go_enter Try.func79, Try.ntmps79
      go_wp2_with (go_at_call 78; refine (H78.out _).mono ?_; rintro e w' ⟨rfl, rfl⟩)
      go_ret
      exact ⟨by rw [HR.out]; simp, rfl⟩
    · by_cases k3 : k = 3
      · subst k3
        cases h3 : (op == 3)
        · cases h6 : (op == 6)
          all_goals
            go_enter Try.func79, Try.ntmps79
            go_wp2_with (go_at_call 78; refine (H78.out _).mono ?_; rintro e w' ⟨rfl, rfl⟩)
            go_ret
            exact ⟨by rw [HR.out]; simp [h3, h6], rfl⟩
        · go_enter Try.func79, Try.ntmps79
          go_wp2_with (go_at_call 78; refine (H78.out _).mono ?_; rintro e w' ⟨rfl, rfl⟩)
          go_ret
          exact ⟨by rw [HR.out]; simp [h3], rfl⟩
      · by_cases k4 : k = 4
        · subst k4
          cases h3 : (op == 4)
          · cases h6 : (op == 8)
            all_goals
              go_enter Try.func79, Try.ntmps79
              go_wp2_with (go_at_call 78; refine (H78.out _).mono ?_; rintro e w' ⟨rfl, rfl⟩)
              go_ret
              exact ⟨by rw [HR.out]; simp [h3, h6], rfl⟩
          · go_enter Try.func79, Try.ntmps79
            go_wp2_with (go_at_call 78; refine (H78.out _).mono ?_; rintro e w' ⟨rfl, rfl⟩)
            go_ret
            exact ⟨by rw [HR.out]; simp [h3], rfl⟩
        · by_cases k5 : k = 5
          · subst k5
            go_enter Try.func79, Try.ntmps79
            go_wp2_with (go_at_call 78; refine (H78.out _).mono ?_; rintro e w' ⟨rfl, rfl⟩)
            go_ret
            exact ⟨by rw [HR.out]; simp, rfl⟩
          · have b1 : (k == 1) = false := by simp [k1]
            have b2 : (k == 2) = false := by simp [k2]
            have b3 : (k == 3) = false := by simp [k3]
            have b4 : (k == 4) = false := by simp [k4]
            have b5 : (k == 5) = false := by simp [k5]
            have HF : Hid (r = false) := Lib.hid (by rw [HR.out]; simp [k1, k2, k3, k4, k5])
            clear k1 k2 k3 k4 k5
            go_enter Try.func79, Try.ntmps79
            go_wp2_with (go_at_call 78; refine (H78.out _).mono ?_; rintro e w' ⟨rfl, rfl⟩)
            go_ret
            exact ⟨by rw [HF.out]; rfl, rfl⟩

theorem valued_any (op k : Int) (w : World) : Calls Try.prog 80 #[.int .i64 op, .int .i64 k] w (BoolTo (valuedB op k) w) := by
  obtain ⟨r, hr⟩ : ∃ r, r = valuedB op k := ⟨_, rfl⟩
  have hr2 := hr
  unfold valuedB at hr2
  rw [← hr]; clear hr
  have HR := Lib.hid hr2; clear hr2
  by_cases k1 : k = 1
  · subst k1
    cases h3 : (op == 2)
    all_goals
      go_enter Try.func80, Try.ntmps80
      go_wp2
      go_ret
      exact ⟨by rw [HR.out]; simp [h3], rfl⟩
  · by_cases k3 : k = 3
    · subst k3
      cases h3 : (op == 6)
      all_goals
        go_enter Try.func80, Try.ntmps80
        go_wp2
        go_ret
        exact ⟨by rw [HR.out]; simp [h3], rfl⟩
    · have b1 : (k == 1) = false := by simp [k1]
      have b3 : (k == 3) = false := by simp [k3]
      have HF : Hid (r = false) := Lib.hid (by rw [HR.out]; simp [k1, k3])
      clear k1 k3
      go_enter Try.func80, Try.ntmps80
      go_wp2
      go_ret
      exact ⟨by rw [HF.out]; rfl, rfl⟩
end Go.Proofs.Ytfjddkjfkgdihaa
