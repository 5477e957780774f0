/- Layer 20 (mark): behind a value, behind a key; walked row by row (printed by g11.py). -/
import Derived.Test.YtibelcmdfkgonaaGreatK10
namespace Go.Proofs.YtibelcmdfkgonaaGreat
open Go.RowKit Go.BigFrame
set_option linter.unusedVariables false
set_option linter.unusedSimpArgs false
theorem valued76_bad (x : Nat) (k0 k1 k2 k3 k4 k5 k6 k7 k8 k9 k10 k11 k12 k13 k14 : Value) (v : Int) (hv : v / 4294967296 ≠ 0) (w : World) (h : w.heap[x]? = some (.cells #[k0, k1, k2, k3, k4, k5, k6, k7, k8, k9, k10, k11, k12, k13, k14] 149 (0, 0))) :
    Calls Tryz.prog 76 #[.pointer (some ⟨x, 0, none⟩), .int .u64 v] w (RowTo x #[k0, k1, .int .i64 4, k3, k4, k5, .bool true, k7, k8, k9, k10, k11, k12, k13, k14] w) := by
  have HF := Lib.hid (fail137 x k0 k1 k2 k3 k4 k5 k6 k7 k8 k9 k10 k11 k12 k13 k14 w h)
  have e1 : (v / 4294967296 != 0) = true := by rw [bne_iff_ne]; exact hv
  clear h hv
  go_enter Tryz.func76, Tryz.ntmps76
  go_wp2_with fail
  refine HF.out.mono ?_
  rintro e w' ⟨⟨u, rfl⟩, hr, hb⟩
  have H := Lib.hid (And.intro hr hb)
  clear hr hb
  go_wp2_with fail
  go_end0
  exact ⟨⟨_, rfl⟩, H.out.1, H.out.2⟩
theorem valued76_ok (x : Nat) (k0 k1 k2 k3 k4 k5 k6 k7 k8 k9 k10 k11 k12 k13 k14 : Value) (v : Int) (hv : v / 4294967296 = 0) (w : World) (h : w.heap[x]? = some (.cells #[k0, k1, k2, k3, k4, k5, k6, k7, k8, k9, k10, k11, k12, k13, k14] 149 (0, 0))) :
    Calls Tryz.prog 76 #[.pointer (some ⟨x, 0, none⟩), .int .u64 v] w (RowTo x #[k0, k1, .int .i64 3, k3, k4, k5, k6, k7, k8, k9, k10, k11, k12, k13, .int .u64 v] w) := by
  have HR := Lib.hid h
  have e1 : (v / 4294967296 != 0) = false := by rw [hv]; rfl
  have q2 := cell_row h 2 _ rfl
  have q14 := cell_row h 14 _ rfl
  have qf := free_row h
  clear h hv
  go_enter Tryz.func76, Tryz.ntmps76
  go_wp2_with fail
  go_end0
  exact ⟨⟨_, rfl⟩, heap_set _ (heap_set _ HR.out), but_set (but_set (But.refl _ _) _ _) _ _⟩

set_option maxRecDepth 100000 in
theorem keyed74_bad0 (x l : Nat) (v : Lv) (k1 k2 k3 k5 k6 k7 k8 k9 k10 k13 k14 : Value) (li ky kk : Int) (ab : Bool) (l0 : 0 ≤ li) (l1 : li ≤ 1000) (hk : U64 kk) (hb1 : 1 ≤ v.bu) (hA : kk / 4294967296 ≠ 0) (hli : ¬ 2 ≤ li) (w : World) (h : w.heap[x]? = some (.cells #[.pointer (some ⟨l, 0, none⟩), k1, k2, k3, .int .i64 li, k5, k6, k7, k8, k9, k10, .bool ab, .int .u64 ky, k13, k14] 149 (0, 0))) (hlay : LayAt w l v) (hxl : x ≠ l) :
    Calls Tryz.prog 74 #[.pointer (some ⟨x, 0, none⟩), .int .u64 kk] w (RowTo x #[.pointer (some ⟨l, 0, none⟩), k1, .int .i64 4, k3, .int .i64 li, k5, .bool true, k7, k8, k9, k10, .bool ab, .int .u64 ky, k13, k14] w) := by
  have HR := Lib.hid h
  have eA : (kk / 4294967296 != 0) = true := by rw [bne_iff_ne]; exact hA
  have e2 : decide (2 ≤ li) = false := bool_no hli
  have HF := Lib.hid fun w h => fail137 x (.pointer (some ⟨l, 0, none⟩)) k1 k2 k3 (.int .i64 li) k5 k6 k7 k8 k9 k10 (.bool ab) (.int .u64 ky) k13 k14 w h
  have q4 := cell_row h 4 _ rfl
  clear h hlay hA hli hb1 hk
  go_enter Tryz.func74, Tryz.ntmps74
  go_wp2_with fail
  go_quiet (fail)
  have HRY : Hid ((w.drewN nq).heap[x]? = some (.cells #[.pointer (some ⟨l, 0, none⟩), k1, k2, k3, .int .i64 li, k5, k6, k7, k8, k9, k10, .bool ab, .int .u64 ky, k13, k14] 149 (0, 0))) := Lib.hid HR.out
  have HBY := Lib.hid (but_drewN (But.refl x w) nq)
  clear q4
  generalize w.drewN nq = wy at *
  have q2 := cell_row HRY.out 2 _ rfl
  have q11 := cell_row HRY.out 11 _ rfl
  have q12 := cell_row HRY.out 12 _ rfl
  have qf := free_row HRY.out
  go_wp2_with fail
  refine (HF.out _ HRY.out).mono ?_
  rintro e w' ⟨⟨u, rfl⟩, hr, hb⟩
  have H := Lib.hid (And.intro hr (HBY.out.trans hb))
  clear hr hb q2 q11 q12 qf
  go_wp2_with fail
  go_end0
  exact ⟨⟨_, rfl⟩, H.out.1, H.out.2⟩
set_option maxRecDepth 100000 in
theorem keyed74_bad1 (x l : Nat) (v : Lv) (k1 k2 k3 k5 k6 k7 k8 k9 k10 k13 k14 : Value) (li ky kk : Int) (ab : Bool) (l0 : 0 ≤ li) (l1 : li ≤ 1000) (hk : U64 kk) (hb1 : 1 ≤ v.bu) (hA : kk / 4294967296 = 0) (hab : ab = true) (hB : kk ≤ ky) (hli : ¬ 2 ≤ li) (w : World) (h : w.heap[x]? = some (.cells #[.pointer (some ⟨l, 0, none⟩), k1, k2, k3, .int .i64 li, k5, k6, k7, k8, k9, k10, .bool ab, .int .u64 ky, k13, k14] 149 (0, 0))) (hlay : LayAt w l v) (hxl : x ≠ l) :
    Calls Tryz.prog 74 #[.pointer (some ⟨x, 0, none⟩), .int .u64 kk] w (RowTo x #[.pointer (some ⟨l, 0, none⟩), k1, .int .i64 4, k3, .int .i64 li, k5, .bool true, k7, k8, k9, k10, .bool ab, .int .u64 ky, k13, k14] w) := by
  have HR := Lib.hid h
  have eA : (kk / 4294967296 != 0) = false := by rw [hA]; rfl
  subst hab
  have eB : decide (kk ≤ ky) = true := bool_yes hB
  have e2 : decide (2 ≤ li) = false := bool_no hli
  have HF := Lib.hid fun w h => fail137 x (.pointer (some ⟨l, 0, none⟩)) k1 k2 k3 (.int .i64 li) k5 k6 k7 k8 k9 k10 (.bool true) (.int .u64 ky) k13 k14 w h
  have q4 := cell_row h 4 _ rfl
  clear h hlay hA hli hb1 hk hB
  go_enter Tryz.func74, Tryz.ntmps74
  go_wp2_with fail
  go_quiet (fail)
  have HRY : Hid ((w.drewN nq).heap[x]? = some (.cells #[.pointer (some ⟨l, 0, none⟩), k1, k2, k3, .int .i64 li, k5, k6, k7, k8, k9, k10, .bool true, .int .u64 ky, k13, k14] 149 (0, 0))) := Lib.hid HR.out
  have HBY := Lib.hid (but_drewN (But.refl x w) nq)
  clear q4
  generalize w.drewN nq = wy at *
  have q2 := cell_row HRY.out 2 _ rfl
  have q11 := cell_row HRY.out 11 _ rfl
  have q12 := cell_row HRY.out 12 _ rfl
  have qf := free_row HRY.out
  go_wp2_with fail
  refine (HF.out _ HRY.out).mono ?_
  rintro e w' ⟨⟨u, rfl⟩, hr, hb⟩
  have H := Lib.hid (And.intro hr (HBY.out.trans hb))
  clear hr hb q2 q11 q12 qf
  go_wp2_with fail
  go_end0
  exact ⟨⟨_, rfl⟩, H.out.1, H.out.2⟩
set_option maxRecDepth 100000 in
theorem keyed74_ok2 (x l : Nat) (v : Lv) (k1 k2 k3 k5 k6 k7 k8 k9 k10 k13 k14 : Value) (li ky kk : Int) (ab : Bool) (l0 : 0 ≤ li) (l1 : li ≤ 1000) (hk : U64 kk) (hb1 : 1 ≤ v.bu) (hA : kk / 4294967296 = 0) (hab : ab = false) (hli : ¬ 2 ≤ li) (w : World) (h : w.heap[x]? = some (.cells #[.pointer (some ⟨l, 0, none⟩), k1, k2, k3, .int .i64 li, k5, k6, k7, k8, k9, k10, .bool ab, .int .u64 ky, k13, k14] 149 (0, 0))) (hlay : LayAt w l v) (hxl : x ≠ l) :
    Calls Tryz.prog 74 #[.pointer (some ⟨x, 0, none⟩), .int .u64 kk] w (RowTo x #[.pointer (some ⟨l, 0, none⟩), k1, .int .i64 2, k3, .int .i64 li, k5, k6, k7, k8, k9, k10, .bool true, .int .u64 kk, k13, k14] w) := by
  have HR := Lib.hid h
  have eA : (kk / 4294967296 != 0) = false := by rw [hA]; rfl
  subst hab
  have e2 : decide (2 ≤ li) = false := bool_no hli
  have HF := Lib.hid fun w h => fail137 x (.pointer (some ⟨l, 0, none⟩)) k1 k2 k3 (.int .i64 li) k5 k6 k7 k8 k9 k10 (.bool false) (.int .u64 ky) k13 k14 w h
  have q4 := cell_row h 4 _ rfl
  clear h hlay hA hli hb1 hk
  go_enter Tryz.func74, Tryz.ntmps74
  go_wp2_with fail
  go_quiet (fail)
  have HRY : Hid ((w.drewN nq).heap[x]? = some (.cells #[.pointer (some ⟨l, 0, none⟩), k1, k2, k3, .int .i64 li, k5, k6, k7, k8, k9, k10, .bool false, .int .u64 ky, k13, k14] 149 (0, 0))) := Lib.hid HR.out
  have HBY := Lib.hid (but_drewN (But.refl x w) nq)
  clear q4
  generalize w.drewN nq = wy at *
  have q2 := cell_row HRY.out 2 _ rfl
  have q11 := cell_row HRY.out 11 _ rfl
  have q12 := cell_row HRY.out 12 _ rfl
  have qf := free_row HRY.out
  go_wp2_with fail
  go_end0
  exact ⟨⟨_, rfl⟩, heap_set _ (heap_set _ (heap_set _ HRY.out)), but_set (but_set (but_set HBY.out _ _) _ _) _ _⟩
set_option maxRecDepth 100000 in
theorem keyed74_ok3 (x l : Nat) (v : Lv) (k1 k2 k3 k5 k6 k7 k8 k9 k10 k13 k14 : Value) (li ky kk : Int) (ab : Bool) (l0 : 0 ≤ li) (l1 : li ≤ 1000) (hk : U64 kk) (hb1 : 1 ≤ v.bu) (hA : kk / 4294967296 = 0) (hab : ab = true) (hB : ¬ kk ≤ ky) (hli : ¬ 2 ≤ li) (w : World) (h : w.heap[x]? = some (.cells #[.pointer (some ⟨l, 0, none⟩), k1, k2, k3, .int .i64 li, k5, k6, k7, k8, k9, k10, .bool ab, .int .u64 ky, k13, k14] 149 (0, 0))) (hlay : LayAt w l v) (hxl : x ≠ l) :
    Calls Tryz.prog 74 #[.pointer (some ⟨x, 0, none⟩), .int .u64 kk] w (RowTo x #[.pointer (some ⟨l, 0, none⟩), k1, .int .i64 2, k3, .int .i64 li, k5, k6, k7, k8, k9, k10, .bool true, .int .u64 kk, k13, k14] w) := by
  have HR := Lib.hid h
  have eA : (kk / 4294967296 != 0) = false := by rw [hA]; rfl
  subst hab
  have eB : decide (kk ≤ ky) = false := bool_no hB
  have e2 : decide (2 ≤ li) = false := bool_no hli
  have HF := Lib.hid fun w h => fail137 x (.pointer (some ⟨l, 0, none⟩)) k1 k2 k3 (.int .i64 li) k5 k6 k7 k8 k9 k10 (.bool true) (.int .u64 ky) k13 k14 w h
  have q4 := cell_row h 4 _ rfl
  clear h hlay hA hli hb1 hk hB
  go_enter Tryz.func74, Tryz.ntmps74
  go_wp2_with fail
  go_quiet (fail)
  have HRY : Hid ((w.drewN nq).heap[x]? = some (.cells #[.pointer (some ⟨l, 0, none⟩), k1, k2, k3, .int .i64 li, k5, k6, k7, k8, k9, k10, .bool true, .int .u64 ky, k13, k14] 149 (0, 0))) := Lib.hid HR.out
  have HBY := Lib.hid (but_drewN (But.refl x w) nq)
  clear q4
  generalize w.drewN nq = wy at *
  have q2 := cell_row HRY.out 2 _ rfl
  have q11 := cell_row HRY.out 11 _ rfl
  have q12 := cell_row HRY.out 12 _ rfl
  have qf := free_row HRY.out
  go_wp2_with fail
  go_end0
  exact ⟨⟨_, rfl⟩, heap_set _ (heap_set _ (heap_set _ HRY.out)), but_set (but_set (but_set HBY.out _ _) _ _) _ _⟩
set_option maxRecDepth 100000 in
theorem keyed74_bad4 (x l : Nat) (v : Lv) (k1 k2 k3 k5 k6 k7 k8 k9 k10 k13 k14 : Value) (li ky kk : Int) (ab : Bool) (l0 : 0 ≤ li) (l1 : li ≤ 1000) (hk : U64 kk) (hb1 : 1 ≤ v.bu) (hA : kk / 4294967296 ≠ 0) (hli : 2 ≤ li) (w : World) (h : w.heap[x]? = some (.cells #[.pointer (some ⟨l, 0, none⟩), k1, k2, k3, .int .i64 li, k5, k6, k7, k8, k9, k10, .bool ab, .int .u64 ky, k13, k14] 149 (0, 0))) (hlay : LayAt w l v) (hxl : x ≠ l) :
    Calls Tryz.prog 74 #[.pointer (some ⟨x, 0, none⟩), .int .u64 kk] w (RowTo x #[.pointer (some ⟨l, 0, none⟩), k1, .int .i64 4, k3, .int .i64 li, k5, .bool true, k7, k8, k9, k10, .bool ab, .int .u64 ky, k13, k14] w) := by
  have HR := Lib.hid h
  have eA : (kk / 4294967296 != 0) = true := by rw [bne_iff_ne]; exact hA
  have e2 : decide (2 ≤ li) = true := bool_yes hli
  have HF := Lib.hid fun w h => fail137 x (.pointer (some ⟨l, 0, none⟩)) k1 k2 k3 (.int .i64 li) k5 k6 k7 k8 k9 k10 (.bool ab) (.int .u64 ky) k13 k14 w h
  have HU : Hid (IntKind.u32.wrap kk = kk % 4294967296) := Lib.hid (IntKind.wrap_u32 kk)
  have HC : Hid (∀ y : Over w.heap.size w, Calls Tryz.prog 70 #[.pointer (some ⟨l, 0, none⟩)] y.w (Gives (.agg #[.int .i64 v.th, .int .i64 v.sl, .int .i64 v.lo, .int .i64 v.bu]) y.w)) := Lib.hid fun y => config70 l v y.w (hlay.below y.below hlay.lt)
  have hbu1 := hlay.ok.bu1
  have HK : Hid (∀ w, Calls Tryz.prog 140 #[.int .u32 (IntKind.u32.wrap kk), .int .i64 v.bu] w (Says (.int .i64 (bucketI (kk % 4294967296) v.bu)) w)) := Lib.hid fun w => by rw [HU.out]; exact bucket140 _ _ (by omega) hb1 (by omega) w
  generalize bucketI (kk % 4294967296) v.bu = bk at *
  have c0 : ∀ y : Over w.heap.size w, y.w.cell? ⟨x, 0, none⟩ = some (.pointer (some ⟨l, 0, none⟩)) := fun y => (y.below.cell (p := ⟨x, 0, none⟩) (lt_row HR.out)).trans (cell_row HR.out 0 _ rfl)
  have c4 : ∀ y : Over w.heap.size w, y.w.cell? ⟨x, 4, none⟩ = some (.int .i64 li) := fun y => (y.below.cell (p := ⟨x, 4, none⟩) (lt_row HR.out)).trans (cell_row HR.out 4 _ rfl)
  clear h hlay hA hli hb1 hk
  have hfl := fun (a b c d : Value) (w : World) => fld23_3 a b c d w
  generalize v.th = th at *
  generalize v.sl = sl at *
  generalize v.lo = lo' at *
  generalize v.bu = bu at *
  go_enter Tryz.func74, Tryz.ntmps74
  go_wp2_with fail
  refine region_quiet_of (fun y : Over w.heap.size w => y.w) (by kernel_rfl) (by kernel_rfl) (Over.first _ _) (Over.first_w _ _) ?_
  repeat (first | go_big_quiet_skip | (go_big_quiet_want; go_big_quiet_op; first | go_big_quiet_on | go_big_quiet_call ((rename_i y; go_at_call 70; refine (HC.out y).mono ?_; rintro e w' ⟨rfl, hb⟩; exact ⟨rfl, y.on w' (hb.mono y.below.size), rfl⟩)) | go_big_quiet_call ((rename_i y; go_at_call 140; refine (HK.out _).mono ?_; rintro e w' ⟨rfl, rfl⟩; exact ⟨rfl, y, rfl⟩))))
  refine wpQuiet_nil ?_
  rintro _ ⟨y, rfl⟩
  have HRY := Lib.hid ((y.below.block x (lt_row HR.out)).trans HR.out)
  have HBY := Lib.hid (but_of_below (p := x) y.below)
  generalize y.w = wy at *
  clear c0 c4 HC HK
  have q2 := cell_row HRY.out 2 _ rfl
  have q11 := cell_row HRY.out 11 _ rfl
  have q12 := cell_row HRY.out 12 _ rfl
  have qf := free_row HRY.out
  go_wp2_with fail
  refine (HF.out _ HRY.out).mono ?_
  rintro e w' ⟨⟨u, rfl⟩, hr, hb⟩
  have H := Lib.hid (And.intro hr (HBY.out.trans hb))
  clear hr hb q2 q11 q12 qf
  go_wp2_with fail
  go_end0
  exact ⟨⟨_, rfl⟩, H.out.1, H.out.2⟩
set_option maxRecDepth 100000 in
theorem keyed74_bad5 (x l : Nat) (v : Lv) (k1 k2 k3 k5 k6 k7 k8 k9 k10 k13 k14 : Value) (li ky kk : Int) (ab : Bool) (l0 : 0 ≤ li) (l1 : li ≤ 1000) (hk : U64 kk) (hb1 : 1 ≤ v.bu) (hA : kk / 4294967296 = 0) (hab : ab = true) (hB : kk ≤ ky) (hli : 2 ≤ li) (w : World) (h : w.heap[x]? = some (.cells #[.pointer (some ⟨l, 0, none⟩), k1, k2, k3, .int .i64 li, k5, k6, k7, k8, k9, k10, .bool ab, .int .u64 ky, k13, k14] 149 (0, 0))) (hlay : LayAt w l v) (hxl : x ≠ l) :
    Calls Tryz.prog 74 #[.pointer (some ⟨x, 0, none⟩), .int .u64 kk] w (RowTo x #[.pointer (some ⟨l, 0, none⟩), k1, .int .i64 4, k3, .int .i64 li, k5, .bool true, k7, k8, k9, k10, .bool ab, .int .u64 ky, k13, k14] w) := by
  have HR := Lib.hid h
  have eA : (kk / 4294967296 != 0) = false := by rw [hA]; rfl
  subst hab
  have eB : decide (kk ≤ ky) = true := bool_yes hB
  have e2 : decide (2 ≤ li) = true := bool_yes hli
  have HF := Lib.hid fun w h => fail137 x (.pointer (some ⟨l, 0, none⟩)) k1 k2 k3 (.int .i64 li) k5 k6 k7 k8 k9 k10 (.bool true) (.int .u64 ky) k13 k14 w h
  have HU : Hid (IntKind.u32.wrap kk = kk % 4294967296) := Lib.hid (IntKind.wrap_u32 kk)
  have HC : Hid (∀ y : Over w.heap.size w, Calls Tryz.prog 70 #[.pointer (some ⟨l, 0, none⟩)] y.w (Gives (.agg #[.int .i64 v.th, .int .i64 v.sl, .int .i64 v.lo, .int .i64 v.bu]) y.w)) := Lib.hid fun y => config70 l v y.w (hlay.below y.below hlay.lt)
  have hbu1 := hlay.ok.bu1
  have HK : Hid (∀ w, Calls Tryz.prog 140 #[.int .u32 (IntKind.u32.wrap kk), .int .i64 v.bu] w (Says (.int .i64 (bucketI (kk % 4294967296) v.bu)) w)) := Lib.hid fun w => by rw [HU.out]; exact bucket140 _ _ (by omega) hb1 (by omega) w
  generalize bucketI (kk % 4294967296) v.bu = bk at *
  have c0 : ∀ y : Over w.heap.size w, y.w.cell? ⟨x, 0, none⟩ = some (.pointer (some ⟨l, 0, none⟩)) := fun y => (y.below.cell (p := ⟨x, 0, none⟩) (lt_row HR.out)).trans (cell_row HR.out 0 _ rfl)
  have c4 : ∀ y : Over w.heap.size w, y.w.cell? ⟨x, 4, none⟩ = some (.int .i64 li) := fun y => (y.below.cell (p := ⟨x, 4, none⟩) (lt_row HR.out)).trans (cell_row HR.out 4 _ rfl)
  clear h hlay hA hli hb1 hk hB
  have hfl := fun (a b c d : Value) (w : World) => fld23_3 a b c d w
  generalize v.th = th at *
  generalize v.sl = sl at *
  generalize v.lo = lo' at *
  generalize v.bu = bu at *
  go_enter Tryz.func74, Tryz.ntmps74
  go_wp2_with fail
  refine region_quiet_of (fun y : Over w.heap.size w => y.w) (by kernel_rfl) (by kernel_rfl) (Over.first _ _) (Over.first_w _ _) ?_
  repeat (first | go_big_quiet_skip | (go_big_quiet_want; go_big_quiet_op; first | go_big_quiet_on | go_big_quiet_call ((rename_i y; go_at_call 70; refine (HC.out y).mono ?_; rintro e w' ⟨rfl, hb⟩; exact ⟨rfl, y.on w' (hb.mono y.below.size), rfl⟩)) | go_big_quiet_call ((rename_i y; go_at_call 140; refine (HK.out _).mono ?_; rintro e w' ⟨rfl, rfl⟩; exact ⟨rfl, y, rfl⟩))))
  refine wpQuiet_nil ?_
  rintro _ ⟨y, rfl⟩
  have HRY := Lib.hid ((y.below.block x (lt_row HR.out)).trans HR.out)
  have HBY := Lib.hid (but_of_below (p := x) y.below)
  generalize y.w = wy at *
  clear c0 c4 HC HK
  have q2 := cell_row HRY.out 2 _ rfl
  have q11 := cell_row HRY.out 11 _ rfl
  have q12 := cell_row HRY.out 12 _ rfl
  have qf := free_row HRY.out
  go_wp2_with fail
  refine (HF.out _ HRY.out).mono ?_
  rintro e w' ⟨⟨u, rfl⟩, hr, hb⟩
  have H := Lib.hid (And.intro hr (HBY.out.trans hb))
  clear hr hb q2 q11 q12 qf
  go_wp2_with fail
  go_end0
  exact ⟨⟨_, rfl⟩, H.out.1, H.out.2⟩
set_option maxRecDepth 100000 in
theorem keyed74_ok6 (x l : Nat) (v : Lv) (k1 k2 k3 k5 k6 k7 k8 k9 k10 k13 k14 : Value) (li ky kk : Int) (ab : Bool) (l0 : 0 ≤ li) (l1 : li ≤ 1000) (hk : U64 kk) (hb1 : 1 ≤ v.bu) (hA : kk / 4294967296 = 0) (hab : ab = false) (hli : 2 ≤ li) (hot : bucketI kk v.bu = li - 2) (w : World) (h : w.heap[x]? = some (.cells #[.pointer (some ⟨l, 0, none⟩), k1, k2, k3, .int .i64 li, k5, k6, k7, k8, k9, k10, .bool ab, .int .u64 ky, k13, k14] 149 (0, 0))) (hlay : LayAt w l v) (hxl : x ≠ l) :
    Calls Tryz.prog 74 #[.pointer (some ⟨x, 0, none⟩), .int .u64 kk] w (RowTo x #[.pointer (some ⟨l, 0, none⟩), k1, .int .i64 2, k3, .int .i64 li, k5, k6, k7, k8, k9, k10, .bool true, .int .u64 kk, k13, k14] w) := by
  have HR := Lib.hid h
  have eA : (kk / 4294967296 != 0) = false := by rw [hA]; rfl
  subst hab
  have e2 : decide (2 ≤ li) = true := bool_yes hli
  have HF := Lib.hid fun w h => fail137 x (.pointer (some ⟨l, 0, none⟩)) k1 k2 k3 (.int .i64 li) k5 k6 k7 k8 k9 k10 (.bool false) (.int .u64 ky) k13 k14 w h
  have HU : Hid (IntKind.u32.wrap kk = kk % 4294967296) := Lib.hid (IntKind.wrap_u32 kk)
  have HC : Hid (∀ y : Over w.heap.size w, Calls Tryz.prog 70 #[.pointer (some ⟨l, 0, none⟩)] y.w (Gives (.agg #[.int .i64 v.th, .int .i64 v.sl, .int .i64 v.lo, .int .i64 v.bu]) y.w)) := Lib.hid fun y => config70 l v y.w (hlay.below y.below hlay.lt)
  have hbu1 := hlay.ok.bu1
  have HK : Hid (∀ w, Calls Tryz.prog 140 #[.int .u32 (IntKind.u32.wrap kk), .int .i64 v.bu] w (Says (.int .i64 (bucketI (kk % 4294967296) v.bu)) w)) := Lib.hid fun w => by rw [HU.out]; exact bucket140 _ _ (by omega) hb1 (by omega) w
  have hkk : kk % 4294967296 = kk := by have := hk.1; have := hk.2; omega
  rw [hkk] at HK
  clear hkk
  have eo : (bucketI kk v.bu != li - 2) = false := by rw [hot]; simp
  generalize bucketI kk v.bu = bk at *
  have c0 : ∀ y : Over w.heap.size w, y.w.cell? ⟨x, 0, none⟩ = some (.pointer (some ⟨l, 0, none⟩)) := fun y => (y.below.cell (p := ⟨x, 0, none⟩) (lt_row HR.out)).trans (cell_row HR.out 0 _ rfl)
  have c4 : ∀ y : Over w.heap.size w, y.w.cell? ⟨x, 4, none⟩ = some (.int .i64 li) := fun y => (y.below.cell (p := ⟨x, 4, none⟩) (lt_row HR.out)).trans (cell_row HR.out 4 _ rfl)
  clear h hlay hA hli hb1 hk hot
  have hfl := fun (a b c d : Value) (w : World) => fld23_3 a b c d w
  generalize v.th = th at *
  generalize v.sl = sl at *
  generalize v.lo = lo' at *
  generalize v.bu = bu at *
  go_enter Tryz.func74, Tryz.ntmps74
  go_wp2_with fail
  refine region_quiet_of (fun y : Over w.heap.size w => y.w) (by kernel_rfl) (by kernel_rfl) (Over.first _ _) (Over.first_w _ _) ?_
  repeat (first | go_big_quiet_skip | (go_big_quiet_want; go_big_quiet_op; first | go_big_quiet_on | go_big_quiet_call ((rename_i y; go_at_call 70; refine (HC.out y).mono ?_; rintro e w' ⟨rfl, hb⟩; exact ⟨rfl, y.on w' (hb.mono y.below.size), rfl⟩)) | go_big_quiet_call ((rename_i y; go_at_call 140; refine (HK.out _).mono ?_; rintro e w' ⟨rfl, rfl⟩; exact ⟨rfl, y, rfl⟩))))
  refine wpQuiet_nil ?_
  rintro _ ⟨y, rfl⟩
  have HRY := Lib.hid ((y.below.block x (lt_row HR.out)).trans HR.out)
  have HBY := Lib.hid (but_of_below (p := x) y.below)
  generalize y.w = wy at *
  clear c0 c4 HC HK
  have q2 := cell_row HRY.out 2 _ rfl
  have q11 := cell_row HRY.out 11 _ rfl
  have q12 := cell_row HRY.out 12 _ rfl
  have qf := free_row HRY.out
  go_wp2_with fail
  go_end0
  exact ⟨⟨_, rfl⟩, heap_set _ (heap_set _ (heap_set _ HRY.out)), but_set (but_set (but_set HBY.out _ _) _ _) _ _⟩
set_option maxRecDepth 100000 in
theorem keyed74_ok7 (x l : Nat) (v : Lv) (k1 k2 k3 k5 k6 k7 k8 k9 k10 k13 k14 : Value) (li ky kk : Int) (ab : Bool) (l0 : 0 ≤ li) (l1 : li ≤ 1000) (hk : U64 kk) (hb1 : 1 ≤ v.bu) (hA : kk / 4294967296 = 0) (hab : ab = true) (hB : ¬ kk ≤ ky) (hli : 2 ≤ li) (hot : bucketI kk v.bu = li - 2) (w : World) (h : w.heap[x]? = some (.cells #[.pointer (some ⟨l, 0, none⟩), k1, k2, k3, .int .i64 li, k5, k6, k7, k8, k9, k10, .bool ab, .int .u64 ky, k13, k14] 149 (0, 0))) (hlay : LayAt w l v) (hxl : x ≠ l) :
    Calls Tryz.prog 74 #[.pointer (some ⟨x, 0, none⟩), .int .u64 kk] w (RowTo x #[.pointer (some ⟨l, 0, none⟩), k1, .int .i64 2, k3, .int .i64 li, k5, k6, k7, k8, k9, k10, .bool true, .int .u64 kk, k13, k14] w) := by
  have HR := Lib.hid h
  have eA : (kk / 4294967296 != 0) = false := by rw [hA]; rfl
  subst hab
  have eB : decide (kk ≤ ky) = false := bool_no hB
  have e2 : decide (2 ≤ li) = true := bool_yes hli
  have HF := Lib.hid fun w h => fail137 x (.pointer (some ⟨l, 0, none⟩)) k1 k2 k3 (.int .i64 li) k5 k6 k7 k8 k9 k10 (.bool true) (.int .u64 ky) k13 k14 w h
  have HU : Hid (IntKind.u32.wrap kk = kk % 4294967296) := Lib.hid (IntKind.wrap_u32 kk)
  have HC : Hid (∀ y : Over w.heap.size w, Calls Tryz.prog 70 #[.pointer (some ⟨l, 0, none⟩)] y.w (Gives (.agg #[.int .i64 v.th, .int .i64 v.sl, .int .i64 v.lo, .int .i64 v.bu]) y.w)) := Lib.hid fun y => config70 l v y.w (hlay.below y.below hlay.lt)
  have hbu1 := hlay.ok.bu1
  have HK : Hid (∀ w, Calls Tryz.prog 140 #[.int .u32 (IntKind.u32.wrap kk), .int .i64 v.bu] w (Says (.int .i64 (bucketI (kk % 4294967296) v.bu)) w)) := Lib.hid fun w => by rw [HU.out]; exact bucket140 _ _ (by omega) hb1 (by omega) w
  have hkk : kk % 4294967296 = kk := by have := hk.1; have := hk.2; omega
  rw [hkk] at HK
  clear hkk
  have eo : (bucketI kk v.bu != li - 2) = false := by rw [hot]; simp
  generalize bucketI kk v.bu = bk at *
  have c0 : ∀ y : Over w.heap.size w, y.w.cell? ⟨x, 0, none⟩ = some (.pointer (some ⟨l, 0, none⟩)) := fun y => (y.below.cell (p := ⟨x, 0, none⟩) (lt_row HR.out)).trans (cell_row HR.out 0 _ rfl)
  have c4 : ∀ y : Over w.heap.size w, y.w.cell? ⟨x, 4, none⟩ = some (.int .i64 li) := fun y => (y.below.cell (p := ⟨x, 4, none⟩) (lt_row HR.out)).trans (cell_row HR.out 4 _ rfl)
  clear h hlay hA hli hb1 hk hB hot
  have hfl := fun (a b c d : Value) (w : World) => fld23_3 a b c d w
  generalize v.th = th at *
  generalize v.sl = sl at *
  generalize v.lo = lo' at *
  generalize v.bu = bu at *
  go_enter Tryz.func74, Tryz.ntmps74
  go_wp2_with fail
  refine region_quiet_of (fun y : Over w.heap.size w => y.w) (by kernel_rfl) (by kernel_rfl) (Over.first _ _) (Over.first_w _ _) ?_
  repeat (first | go_big_quiet_skip | (go_big_quiet_want; go_big_quiet_op; first | go_big_quiet_on | go_big_quiet_call ((rename_i y; go_at_call 70; refine (HC.out y).mono ?_; rintro e w' ⟨rfl, hb⟩; exact ⟨rfl, y.on w' (hb.mono y.below.size), rfl⟩)) | go_big_quiet_call ((rename_i y; go_at_call 140; refine (HK.out _).mono ?_; rintro e w' ⟨rfl, rfl⟩; exact ⟨rfl, y, rfl⟩))))
  refine wpQuiet_nil ?_
  rintro _ ⟨y, rfl⟩
  have HRY := Lib.hid ((y.below.block x (lt_row HR.out)).trans HR.out)
  have HBY := Lib.hid (but_of_below (p := x) y.below)
  generalize y.w = wy at *
  clear c0 c4 HC HK
  have q2 := cell_row HRY.out 2 _ rfl
  have q11 := cell_row HRY.out 11 _ rfl
  have q12 := cell_row HRY.out 12 _ rfl
  have qf := free_row HRY.out
  go_wp2_with fail
  go_end0
  exact ⟨⟨_, rfl⟩, heap_set _ (heap_set _ (heap_set _ HRY.out)), but_set (but_set (but_set HBY.out _ _) _ _) _ _⟩
set_option maxRecDepth 100000 in
theorem keyed74_bad8 (x l : Nat) (v : Lv) (k1 k2 k3 k5 k6 k7 k8 k9 k10 k13 k14 : Value) (li ky kk : Int) (ab : Bool) (l0 : 0 ≤ li) (l1 : li ≤ 1000) (hk : U64 kk) (hb1 : 1 ≤ v.bu) (hA : kk / 4294967296 = 0) (hab : ab = false) (hli : 2 ≤ li) (hot : bucketI kk v.bu ≠ li - 2) (w : World) (h : w.heap[x]? = some (.cells #[.pointer (some ⟨l, 0, none⟩), k1, k2, k3, .int .i64 li, k5, k6, k7, k8, k9, k10, .bool ab, .int .u64 ky, k13, k14] 149 (0, 0))) (hlay : LayAt w l v) (hxl : x ≠ l) :
    Calls Tryz.prog 74 #[.pointer (some ⟨x, 0, none⟩), .int .u64 kk] w (RowTo x #[.pointer (some ⟨l, 0, none⟩), k1, .int .i64 4, k3, .int .i64 li, k5, .bool true, k7, k8, k9, k10, .bool ab, .int .u64 ky, k13, k14] w) := by
  have HR := Lib.hid h
  have eA : (kk / 4294967296 != 0) = false := by rw [hA]; rfl
  subst hab
  have e2 : decide (2 ≤ li) = true := bool_yes hli
  have HF := Lib.hid fun w h => fail137 x (.pointer (some ⟨l, 0, none⟩)) k1 k2 k3 (.int .i64 li) k5 k6 k7 k8 k9 k10 (.bool false) (.int .u64 ky) k13 k14 w h
  have HU : Hid (IntKind.u32.wrap kk = kk % 4294967296) := Lib.hid (IntKind.wrap_u32 kk)
  have HC : Hid (∀ y : Over w.heap.size w, Calls Tryz.prog 70 #[.pointer (some ⟨l, 0, none⟩)] y.w (Gives (.agg #[.int .i64 v.th, .int .i64 v.sl, .int .i64 v.lo, .int .i64 v.bu]) y.w)) := Lib.hid fun y => config70 l v y.w (hlay.below y.below hlay.lt)
  have hbu1 := hlay.ok.bu1
  have HK : Hid (∀ w, Calls Tryz.prog 140 #[.int .u32 (IntKind.u32.wrap kk), .int .i64 v.bu] w (Says (.int .i64 (bucketI (kk % 4294967296) v.bu)) w)) := Lib.hid fun w => by rw [HU.out]; exact bucket140 _ _ (by omega) hb1 (by omega) w
  have hkk : kk % 4294967296 = kk := by have := hk.1; have := hk.2; omega
  rw [hkk] at HK
  clear hkk
  have eo : (bucketI kk v.bu != li - 2) = true := by rw [bne_iff_ne]; exact hot
  generalize bucketI kk v.bu = bk at *
  have c0 : ∀ y : Over w.heap.size w, y.w.cell? ⟨x, 0, none⟩ = some (.pointer (some ⟨l, 0, none⟩)) := fun y => (y.below.cell (p := ⟨x, 0, none⟩) (lt_row HR.out)).trans (cell_row HR.out 0 _ rfl)
  have c4 : ∀ y : Over w.heap.size w, y.w.cell? ⟨x, 4, none⟩ = some (.int .i64 li) := fun y => (y.below.cell (p := ⟨x, 4, none⟩) (lt_row HR.out)).trans (cell_row HR.out 4 _ rfl)
  clear h hlay hA hli hb1 hk hot
  have hfl := fun (a b c d : Value) (w : World) => fld23_3 a b c d w
  generalize v.th = th at *
  generalize v.sl = sl at *
  generalize v.lo = lo' at *
  generalize v.bu = bu at *
  go_enter Tryz.func74, Tryz.ntmps74
  go_wp2_with fail
  refine region_quiet_of (fun y : Over w.heap.size w => y.w) (by kernel_rfl) (by kernel_rfl) (Over.first _ _) (Over.first_w _ _) ?_
  repeat (first | go_big_quiet_skip | (go_big_quiet_want; go_big_quiet_op; first | go_big_quiet_on | go_big_quiet_call ((rename_i y; go_at_call 70; refine (HC.out y).mono ?_; rintro e w' ⟨rfl, hb⟩; exact ⟨rfl, y.on w' (hb.mono y.below.size), rfl⟩)) | go_big_quiet_call ((rename_i y; go_at_call 140; refine (HK.out _).mono ?_; rintro e w' ⟨rfl, rfl⟩; exact ⟨rfl, y, rfl⟩))))
  refine wpQuiet_nil ?_
  rintro _ ⟨y, rfl⟩
  have HRY := Lib.hid ((y.below.block x (lt_row HR.out)).trans HR.out)
  have HBY := Lib.hid (but_of_below (p := x) y.below)
  generalize y.w = wy at *
  clear c0 c4 HC HK
  have q2 := cell_row HRY.out 2 _ rfl
  have q11 := cell_row HRY.out 11 _ rfl
  have q12 := cell_row HRY.out 12 _ rfl
  have qf := free_row HRY.out
  go_wp2_with fail
  refine (HF.out _ HRY.out).mono ?_
  rintro e w' ⟨⟨u, rfl⟩, hr, hb⟩
  have H := Lib.hid (And.intro hr (HBY.out.trans hb))
  clear hr hb q2 q11 q12 qf
  go_wp2_with fail
  go_end0
  exact ⟨⟨_, rfl⟩, H.out.1, H.out.2⟩
set_option maxRecDepth 100000 in
theorem keyed74_bad9 (x l : Nat) (v : Lv) (k1 k2 k3 k5 k6 k7 k8 k9 k10 k13 k14 : Value) (li ky kk : Int) (ab : Bool) (l0 : 0 ≤ li) (l1 : li ≤ 1000) (hk : U64 kk) (hb1 : 1 ≤ v.bu) (hA : kk / 4294967296 = 0) (hab : ab = true) (hB : ¬ kk ≤ ky) (hli : 2 ≤ li) (hot : bucketI kk v.bu ≠ li - 2) (w : World) (h : w.heap[x]? = some (.cells #[.pointer (some ⟨l, 0, none⟩), k1, k2, k3, .int .i64 li, k5, k6, k7, k8, k9, k10, .bool ab, .int .u64 ky, k13, k14] 149 (0, 0))) (hlay : LayAt w l v) (hxl : x ≠ l) :
    Calls Tryz.prog 74 #[.pointer (some ⟨x, 0, none⟩), .int .u64 kk] w (RowTo x #[.pointer (some ⟨l, 0, none⟩), k1, .int .i64 4, k3, .int .i64 li, k5, .bool true, k7, k8, k9, k10, .bool ab, .int .u64 ky, k13, k14] w) := by
  have HR := Lib.hid h
  have eA : (kk / 4294967296 != 0) = false := by rw [hA]; rfl
  subst hab
  have eB : decide (kk ≤ ky) = false := bool_no hB
  have e2 : decide (2 ≤ li) = true := bool_yes hli
  have HF := Lib.hid fun w h => fail137 x (.pointer (some ⟨l, 0, none⟩)) k1 k2 k3 (.int .i64 li) k5 k6 k7 k8 k9 k10 (.bool true) (.int .u64 ky) k13 k14 w h
  have HU : Hid (IntKind.u32.wrap kk = kk % 4294967296) := Lib.hid (IntKind.wrap_u32 kk)
  have HC : Hid (∀ y : Over w.heap.size w, Calls Tryz.prog 70 #[.pointer (some ⟨l, 0, none⟩)] y.w (Gives (.agg #[.int .i64 v.th, .int .i64 v.sl, .int .i64 v.lo, .int .i64 v.bu]) y.w)) := Lib.hid fun y => config70 l v y.w (hlay.below y.below hlay.lt)
  have hbu1 := hlay.ok.bu1
  have HK : Hid (∀ w, Calls Tryz.prog 140 #[.int .u32 (IntKind.u32.wrap kk), .int .i64 v.bu] w (Says (.int .i64 (bucketI (kk % 4294967296) v.bu)) w)) := Lib.hid fun w => by rw [HU.out]; exact bucket140 _ _ (by omega) hb1 (by omega) w
  have hkk : kk % 4294967296 = kk := by have := hk.1; have := hk.2; omega
  rw [hkk] at HK
  clear hkk
  have eo : (bucketI kk v.bu != li - 2) = true := by rw [bne_iff_ne]; exact hot
  generalize bucketI kk v.bu = bk at *
  have c0 : ∀ y : Over w.heap.size w, y.w.cell? ⟨x, 0, none⟩ = some (.pointer (some ⟨l, 0, none⟩)) := fun y => (y.below.cell (p := ⟨x, 0, none⟩) (lt_row HR.out)).trans (cell_row HR.out 0 _ rfl)
  have c4 : ∀ y : Over w.heap.size w, y.w.cell? ⟨x, 4, none⟩ = some (.int .i64 li) := fun y => (y.below.cell (p := ⟨x, 4, none⟩) (lt_row HR.out)).trans (cell_row HR.out 4 _ rfl)
  clear h hlay hA hli hb1 hk hB hot
  have hfl := fun (a b c d : Value) (w : World) => fld23_3 a b c d w
  generalize v.th = th at *
  generalize v.sl = sl at *
  generalize v.lo = lo' at *
  generalize v.bu = bu at *
  go_enter Tryz.func74, Tryz.ntmps74
  go_wp2_with fail
  refine region_quiet_of (fun y : Over w.heap.size w => y.w) (by kernel_rfl) (by kernel_rfl) (Over.first _ _) (Over.first_w _ _) ?_
  repeat (first | go_big_quiet_skip | (go_big_quiet_want; go_big_quiet_op; first | go_big_quiet_on | go_big_quiet_call ((rename_i y; go_at_call 70; refine (HC.out y).mono ?_; rintro e w' ⟨rfl, hb⟩; exact ⟨rfl, y.on w' (hb.mono y.below.size), rfl⟩)) | go_big_quiet_call ((rename_i y; go_at_call 140; refine (HK.out _).mono ?_; rintro e w' ⟨rfl, rfl⟩; exact ⟨rfl, y, rfl⟩))))
  refine wpQuiet_nil ?_
  rintro _ ⟨y, rfl⟩
  have HRY := Lib.hid ((y.below.block x (lt_row HR.out)).trans HR.out)
  have HBY := Lib.hid (but_of_below (p := x) y.below)
  generalize y.w = wy at *
  clear c0 c4 HC HK
  have q2 := cell_row HRY.out 2 _ rfl
  have q11 := cell_row HRY.out 11 _ rfl
  have q12 := cell_row HRY.out 12 _ rfl
  have qf := free_row HRY.out
  go_wp2_with fail
  refine (HF.out _ HRY.out).mono ?_
  rintro e w' ⟨⟨u, rfl⟩, hr, hb⟩
  have H := Lib.hid (And.intro hr (HBY.out.trans hb))
  clear hr hb q2 q11 q12 qf
  go_wp2_with fail
  go_end0
  exact ⟨⟨_, rfl⟩, H.out.1, H.out.2⟩
end Go.Proofs.YtibelcmdfkgonaaGreat
