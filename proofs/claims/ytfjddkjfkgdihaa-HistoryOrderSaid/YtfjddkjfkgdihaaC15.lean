/- Three calls in an array that came in. -/
import Derived.Test.YtfjddkjfkgdihaaC13
namespace Go.Proofs.Ytfjddkjfkgdihaa
open Go.RowKit Go.ChangeShapes Go.WideShapes
set_option linter.unusedVariables false

theorem list_of_len {α : Type} (n : Nat) (l : List α) (h : l.length = n + 1) : ∃ c l', l = c :: l' ∧ l'.length = n := by
  cases l with
  | nil => simp at h
  | cons c l => exact ⟨c, l, rfl, by simpa using h⟩
theorem okWide_array {P : Program} {w : World} {r : Reach} {base : Nat} {t : TypeId} {v : Value} {n : Nat} {e : TypeId} (ht : P.underlying t = some (.array n e)) (h : Value.okWide P w r base t v) : ∃ cs, v = .agg cs ∧ cs.size = P.cellsOf t := by
  simp only [Value.okWide, ht] at h
  obtain ⟨cs, h1, h2, _⟩ := h
  exact ⟨cs, h1, h2⟩
theorem cells67 : Try.prog.cellsOf 67 = 33 := by kernel_rfl
theorem kind67_0 : kindAt Try.prog 4 67 0 = some (some .i64) := by kernel_rfl
theorem kind67_1 : kindAt Try.prog 4 67 1 = some (some .i64) := by kernel_rfl
theorem kind67_2 : kindAt Try.prog 4 67 2 = some (some .u32) := by kernel_rfl
theorem kind67_3 : kindAt Try.prog 4 67 3 = some (some .u32) := by kernel_rfl
theorem kind67_4 : kindAt Try.prog 4 67 4 = some (some .i64) := by kernel_rfl
theorem kind67_5 : kindAt Try.prog 4 67 5 = some (some .u32) := by kernel_rfl
theorem kind67_6 : kindAt Try.prog 4 67 6 = some (some .i64) := by kernel_rfl
theorem kind67_7 : kindAt Try.prog 4 67 7 = some (some .i64) := by kernel_rfl
theorem kind67_8 : kindAt Try.prog 4 67 8 = some (some .i64) := by kernel_rfl
theorem kind67_9 : kindAt Try.prog 4 67 9 = some none := by kernel_rfl
theorem kind67_10 : kindAt Try.prog 4 67 10 = some none := by kernel_rfl
theorem kind67_11 : kindAt Try.prog 4 67 11 = some (some .i64) := by kernel_rfl
theorem kind67_12 : kindAt Try.prog 4 67 12 = some (some .i64) := by kernel_rfl
theorem kind67_13 : kindAt Try.prog 4 67 13 = some (some .u32) := by kernel_rfl
theorem kind67_14 : kindAt Try.prog 4 67 14 = some (some .u32) := by kernel_rfl
theorem kind67_15 : kindAt Try.prog 4 67 15 = some (some .i64) := by kernel_rfl
theorem kind67_16 : kindAt Try.prog 4 67 16 = some (some .u32) := by kernel_rfl
theorem kind67_17 : kindAt Try.prog 4 67 17 = some (some .i64) := by kernel_rfl
theorem kind67_18 : kindAt Try.prog 4 67 18 = some (some .i64) := by kernel_rfl
theorem kind67_19 : kindAt Try.prog 4 67 19 = some (some .i64) := by kernel_rfl
theorem kind67_20 : kindAt Try.prog 4 67 20 = some none := by kernel_rfl
theorem kind67_21 : kindAt Try.prog 4 67 21 = some none := by kernel_rfl
theorem kind67_22 : kindAt Try.prog 4 67 22 = some (some .i64) := by kernel_rfl
theorem kind67_23 : kindAt Try.prog 4 67 23 = some (some .i64) := by kernel_rfl
theorem kind67_24 : kindAt Try.prog 4 67 24 = some (some .u32) := by kernel_rfl
theorem kind67_25 : kindAt Try.prog 4 67 25 = some (some .u32) := by kernel_rfl
theorem kind67_26 : kindAt Try.prog 4 67 26 = some (some .i64) := by kernel_rfl
theorem kind67_27 : kindAt Try.prog 4 67 27 = some (some .u32) := by kernel_rfl
theorem kind67_28 : kindAt Try.prog 4 67 28 = some (some .i64) := by kernel_rfl
theorem kind67_29 : kindAt Try.prog 4 67 29 = some (some .i64) := by kernel_rfl
theorem kind67_30 : kindAt Try.prog 4 67 30 = some (some .i64) := by kernel_rfl
theorem kind67_31 : kindAt Try.prog 4 67 31 = some none := by kernel_rfl
theorem kind67_32 : kindAt Try.prog 4 67 32 = some none := by kernel_rfl
set_option maxRecDepth 100000 in
theorem three_of_trod {H : Type} {enc : TypeId × Value → H} {w : World} {base : Nat} {spare : Nat → Bool} {held : Bool} {fuel : Nat} {cs : Array Value} {x : DataW H × List MemPlace}
    (hs : cs.size = Try.prog.cellsOf 67) (h : DataW.trod enc Try.prog w base spare held fuel 67 (Value.cells (.agg cs)).toList = some x) : ∃ a b c, cs = three a b c := by
  obtain ⟨l⟩ := cs
  rw [cells67] at hs
  have q0 : l.length = 33 := hs
  obtain ⟨c0, l, rfl, q1⟩ := list_of_len 32 l q0
  obtain ⟨c1, l, rfl, q2⟩ := list_of_len 31 l q1
  obtain ⟨c2, l, rfl, q3⟩ := list_of_len 30 l q2
  obtain ⟨c3, l, rfl, q4⟩ := list_of_len 29 l q3
  obtain ⟨c4, l, rfl, q5⟩ := list_of_len 28 l q4
  obtain ⟨c5, l, rfl, q6⟩ := list_of_len 27 l q5
  obtain ⟨c6, l, rfl, q7⟩ := list_of_len 26 l q6
  obtain ⟨c7, l, rfl, q8⟩ := list_of_len 25 l q7
  obtain ⟨c8, l, rfl, q9⟩ := list_of_len 24 l q8
  obtain ⟨c9, l, rfl, q10⟩ := list_of_len 23 l q9
  obtain ⟨c10, l, rfl, q11⟩ := list_of_len 22 l q10
  obtain ⟨c11, l, rfl, q12⟩ := list_of_len 21 l q11
  obtain ⟨c12, l, rfl, q13⟩ := list_of_len 20 l q12
  obtain ⟨c13, l, rfl, q14⟩ := list_of_len 19 l q13
  obtain ⟨c14, l, rfl, q15⟩ := list_of_len 18 l q14
  obtain ⟨c15, l, rfl, q16⟩ := list_of_len 17 l q15
  obtain ⟨c16, l, rfl, q17⟩ := list_of_len 16 l q16
  obtain ⟨c17, l, rfl, q18⟩ := list_of_len 15 l q17
  obtain ⟨c18, l, rfl, q19⟩ := list_of_len 14 l q18
  obtain ⟨c19, l, rfl, q20⟩ := list_of_len 13 l q19
  obtain ⟨c20, l, rfl, q21⟩ := list_of_len 12 l q20
  obtain ⟨c21, l, rfl, q22⟩ := list_of_len 11 l q21
  obtain ⟨c22, l, rfl, q23⟩ := list_of_len 10 l q22
  obtain ⟨c23, l, rfl, q24⟩ := list_of_len 9 l q23
  obtain ⟨c24, l, rfl, q25⟩ := list_of_len 8 l q24
  obtain ⟨c25, l, rfl, q26⟩ := list_of_len 7 l q25
  obtain ⟨c26, l, rfl, q27⟩ := list_of_len 6 l q26
  obtain ⟨c27, l, rfl, q28⟩ := list_of_len 5 l q27
  obtain ⟨c28, l, rfl, q29⟩ := list_of_len 4 l q28
  obtain ⟨c29, l, rfl, q30⟩ := list_of_len 3 l q29
  obtain ⟨c30, l, rfl, q31⟩ := list_of_len 2 l q30
  obtain ⟨c31, l, rfl, q32⟩ := list_of_len 1 l q31
  obtain ⟨c32, l, rfl, q33⟩ := list_of_len 0 l q32
  obtain rfl := List.length_eq_zero_iff.1 q33
  obtain ⟨_, e0, n0, rfl, -⟩ := kindAt_ok 4 67 0 _ _ _ _ h kind67_0
  obtain rfl : c0 = .int .i64 n0 := Option.some.inj e0
  obtain ⟨_, e1, n1, rfl, -⟩ := kindAt_ok 4 67 1 _ _ _ _ h kind67_1
  obtain rfl : c1 = .int .i64 n1 := Option.some.inj e1
  obtain ⟨_, e2, n2, rfl, -⟩ := kindAt_ok 4 67 2 _ _ _ _ h kind67_2
  obtain rfl : c2 = .int .u32 n2 := Option.some.inj e2
  obtain ⟨_, e3, n3, rfl, -⟩ := kindAt_ok 4 67 3 _ _ _ _ h kind67_3
  obtain rfl : c3 = .int .u32 n3 := Option.some.inj e3
  obtain ⟨_, e4, n4, rfl, -⟩ := kindAt_ok 4 67 4 _ _ _ _ h kind67_4
  obtain rfl : c4 = .int .i64 n4 := Option.some.inj e4
  obtain ⟨_, e5, n5, rfl, -⟩ := kindAt_ok 4 67 5 _ _ _ _ h kind67_5
  obtain rfl : c5 = .int .u32 n5 := Option.some.inj e5
  obtain ⟨_, e6, n6, rfl, -⟩ := kindAt_ok 4 67 6 _ _ _ _ h kind67_6
  obtain rfl : c6 = .int .i64 n6 := Option.some.inj e6
  obtain ⟨_, e7, n7, rfl, -⟩ := kindAt_ok 4 67 7 _ _ _ _ h kind67_7
  obtain rfl : c7 = .int .i64 n7 := Option.some.inj e7
  obtain ⟨_, e8, n8, rfl, -⟩ := kindAt_ok 4 67 8 _ _ _ _ h kind67_8
  obtain rfl : c8 = .int .i64 n8 := Option.some.inj e8
  obtain ⟨_, e9, n9, rfl⟩ := kindAt_ok 4 67 9 _ _ _ _ h kind67_9
  obtain rfl : c9 = .bool n9 := Option.some.inj e9
  obtain ⟨_, e10, n10, rfl⟩ := kindAt_ok 4 67 10 _ _ _ _ h kind67_10
  obtain rfl : c10 = .bool n10 := Option.some.inj e10
  obtain ⟨_, e11, n11, rfl, -⟩ := kindAt_ok 4 67 11 _ _ _ _ h kind67_11
  obtain rfl : c11 = .int .i64 n11 := Option.some.inj e11
  obtain ⟨_, e12, n12, rfl, -⟩ := kindAt_ok 4 67 12 _ _ _ _ h kind67_12
  obtain rfl : c12 = .int .i64 n12 := Option.some.inj e12
  obtain ⟨_, e13, n13, rfl, -⟩ := kindAt_ok 4 67 13 _ _ _ _ h kind67_13
  obtain rfl : c13 = .int .u32 n13 := Option.some.inj e13
  obtain ⟨_, e14, n14, rfl, -⟩ := kindAt_ok 4 67 14 _ _ _ _ h kind67_14
  obtain rfl : c14 = .int .u32 n14 := Option.some.inj e14
  obtain ⟨_, e15, n15, rfl, -⟩ := kindAt_ok 4 67 15 _ _ _ _ h kind67_15
  obtain rfl : c15 = .int .i64 n15 := Option.some.inj e15
  obtain ⟨_, e16, n16, rfl, -⟩ := kindAt_ok 4 67 16 _ _ _ _ h kind67_16
  obtain rfl : c16 = .int .u32 n16 := Option.some.inj e16
  obtain ⟨_, e17, n17, rfl, -⟩ := kindAt_ok 4 67 17 _ _ _ _ h kind67_17
  obtain rfl : c17 = .int .i64 n17 := Option.some.inj e17
  obtain ⟨_, e18, n18, rfl, -⟩ := kindAt_ok 4 67 18 _ _ _ _ h kind67_18
  obtain rfl : c18 = .int .i64 n18 := Option.some.inj e18
  obtain ⟨_, e19, n19, rfl, -⟩ := kindAt_ok 4 67 19 _ _ _ _ h kind67_19
  obtain rfl : c19 = .int .i64 n19 := Option.some.inj e19
  obtain ⟨_, e20, n20, rfl⟩ := kindAt_ok 4 67 20 _ _ _ _ h kind67_20
  obtain rfl : c20 = .bool n20 := Option.some.inj e20
  obtain ⟨_, e21, n21, rfl⟩ := kindAt_ok 4 67 21 _ _ _ _ h kind67_21
  obtain rfl : c21 = .bool n21 := Option.some.inj e21
  obtain ⟨_, e22, n22, rfl, -⟩ := kindAt_ok 4 67 22 _ _ _ _ h kind67_22
  obtain rfl : c22 = .int .i64 n22 := Option.some.inj e22
  obtain ⟨_, e23, n23, rfl, -⟩ := kindAt_ok 4 67 23 _ _ _ _ h kind67_23
  obtain rfl : c23 = .int .i64 n23 := Option.some.inj e23
  obtain ⟨_, e24, n24, rfl, -⟩ := kindAt_ok 4 67 24 _ _ _ _ h kind67_24
  obtain rfl : c24 = .int .u32 n24 := Option.some.inj e24
  obtain ⟨_, e25, n25, rfl, -⟩ := kindAt_ok 4 67 25 _ _ _ _ h kind67_25
  obtain rfl : c25 = .int .u32 n25 := Option.some.inj e25
  obtain ⟨_, e26, n26, rfl, -⟩ := kindAt_ok 4 67 26 _ _ _ _ h kind67_26
  obtain rfl : c26 = .int .i64 n26 := Option.some.inj e26
  obtain ⟨_, e27, n27, rfl, -⟩ := kindAt_ok 4 67 27 _ _ _ _ h kind67_27
  obtain rfl : c27 = .int .u32 n27 := Option.some.inj e27
  obtain ⟨_, e28, n28, rfl, -⟩ := kindAt_ok 4 67 28 _ _ _ _ h kind67_28
  obtain rfl : c28 = .int .i64 n28 := Option.some.inj e28
  obtain ⟨_, e29, n29, rfl, -⟩ := kindAt_ok 4 67 29 _ _ _ _ h kind67_29
  obtain rfl : c29 = .int .i64 n29 := Option.some.inj e29
  obtain ⟨_, e30, n30, rfl, -⟩ := kindAt_ok 4 67 30 _ _ _ _ h kind67_30
  obtain rfl : c30 = .int .i64 n30 := Option.some.inj e30
  obtain ⟨_, e31, n31, rfl⟩ := kindAt_ok 4 67 31 _ _ _ _ h kind67_31
  obtain rfl : c31 = .bool n31 := Option.some.inj e31
  obtain ⟨_, e32, n32, rfl⟩ := kindAt_ok 4 67 32 _ _ _ _ h kind67_32
  obtain rfl : c32 = .bool n32 := Option.some.inj e32
  exact ⟨⟨n0, n1, n2, n3, n4, n5, n6, n7, n8, n9, n10⟩, ⟨n11, n12, n13, n14, n15, n16, n17, n18, n19, n20, n21⟩, ⟨n22, n23, n24, n25, n26, n27, n28, n29, n30, n31, n32⟩, rfl⟩
end Go.Proofs.Ytfjddkjfkgdihaa
