/- Walks of history.Ahead, history.Overlaps. -/
import Derived.Test.YtfjddkjfkgdihaaC7
namespace Go.Proofs.Ytfjddkjfkgdihaa
open Go.RowKit Go.BigFrame
set_option linter.unusedVariables false

def CallD.aheadB (a b : CallD) : Bool := a.en != -1 && decide (a.en ≤ b.be)

set_option maxRecDepth 100000 in
theorem ahead_any (a b : CallD) (w : World) : Calls Try.prog 42 #[.agg a.cells, .agg b.cells] w (BoolOn (a.aheadB b) w) := by
  obtain ⟨r, hr⟩ : ∃ r, r = a.aheadB b := ⟨_, rfl⟩
  rw [← hr]
  unfold CallD.aheadB at hr
  obtain ⟨th, ki, ky, va, rk, rv, be, en, wh, cr, kp⟩ := a
  obtain ⟨th', ki', ky', va', rk', rv', be', en', wh', cr', kp'⟩ := b
  simp only [CallD.cells] at *
  have HR := Lib.hid hr; clear hr
  by_cases h1 : en = -1
  · subst h1
    have HF : Hid (r = false) := Lib.hid (by rw [HR.out]; rfl)
    go_enter Try.func42, Try.ntmps42
    go_wp2
    go_ret
    exact ⟨by rw [HF.out]; rfl, ((Below.refl _ _).alloc (Nat.le_refl _) _).alloc (by simp) _⟩
  · have b1 : (en != -1) = true := by simp [h1]
    have HF : Hid (r = decide (en ≤ be')) := Lib.hid (by rw [HR.out, b1]; rfl)
    clear h1
    go_enter Try.func42, Try.ntmps42
    go_wp2
    go_ret
    exact ⟨by rw [HF.out]; rfl, ((Below.refl _ _).alloc (Nat.le_refl _) _).alloc (by simp) _⟩

theorem info71 : (Try.prog.info? 71).map (fun i => (i.zero, i.size, i.bytes)) = some (some (.agg #[.int .i64 0, .int .i64 0]), 2, 16) := by kernel_rfl

def overB (c : Nat → CallD) (i k : Nat) : Bool := !(c i).aheadB (c k) && !(c k).aheadB (c i)
/-- The pairs that a loop has found: with i, below n. -/
def ovIn (c : Nat → CallD) (i : Nat) : Nat → List (Nat × Nat)
  | 0 => []
  | n + 1 => ovIn c i n ++ if i < n ∧ overB c i n = true then [(i, n)] else []
def ovTo (c : Nat → CallD) (len : Nat) : Nat → List (Nat × Nat)
  | 0 => []
  | i + 1 => ovTo c len i ++ ovIn c i len
def pairs (l : List (Nat × Nat)) : List Value := l.flatMap fun p => [.int .i64 p.1, .int .i64 p.2]
theorem pairs_append (l m : List (Nat × Nat)) : pairs (l ++ m) = pairs l ++ pairs m := by simp [pairs]
theorem ovIn_low (c : Nat → CallD) (i n : Nat) (h : n ≤ i + 1) : ovIn c i n = [] := by
  induction n with
  | zero => rfl
  | succ n ih => rw [ovIn, ih (by omega), if_neg (by omega)]; rfl
theorem ovIn_len (c : Nat → CallD) (i n : Nat) : (ovIn c i n).length ≤ n := by
  induction n with
  | zero => simp [ovIn]
  | succ n ih => rw [ovIn, List.length_append]; split <;> simp <;> omega
theorem ovTo_len (c : Nat → CallD) (len i : Nat) : (ovTo c len i).length ≤ i * len := by
  induction i with
  | zero => simp [ovTo]
  | succ i ih => rw [ovTo, List.length_append, Nat.succ_mul]; have := ovIn_len c i len; omega

def OverTo (c : Nat → CallD) (len : Nat) (w : World) (e : Ending) (w' : World) : Prop :=
  ∃ v, e = .returned v ∧ Below w.heap.size w w' ∧ w'.ownsRow w.heap.size 71 2 v (ovTo c len len).length (pairs (ovTo c len len))

/-- A block of another type is not the one that a slice owns. -/
theorem own_ne {w : World} {base : Nat} {e t : TypeId} {size : Nat} {v : Value} {n : Nat} {xs : List Value} (h : w.ownsRow base e size v n xs) {G : Nat} {cs : Array Value} (hG : w.heap[G]? = some (.cells cs t)) (ht : ¬ t = e) : some G ≠ v.ownBlock := by
  rcases h.2 with ⟨rfl, _⟩ | ⟨g, cap, cur, rfl, _, hg, _⟩
  · simp [Value.ownBlock]
  · simp only [Value.ownBlock, ne_eq, Option.some.injEq]
    intro e1
    subst e1
    rw [hG] at hg
    simp only [Option.some.injEq, Obj.cells.injEq] at hg
    exact ht hg.2.1
theorem callAt_of_block {w : World} {G : Nat} {c : CallD} {t : TypeId} (h : w.heap[G]? = some (.cells c.cells t)) : CallAt w G 0 c := by
  have e : ∀ j, w.cell? ⟨G, j, none⟩ = c.cells[j]? := fun j => cell_of_row w G j c.cells t (0, 0) h
  unfold CallAt
  simp only [e]
  exact ⟨rfl, rfl, rfl, rfl, rfl, rfl, rfl, rfl, rfl, rfl, rfl⟩
/-- What is owned stays owned where all that was there is as it was. -/
theorem own_below {w w' : World} {base : Nat} {e : TypeId} {size : Nat} {v : Value} {n : Nat} {xs : List Value} (h : w.ownsRow base e size v n xs) (hb : Below w.heap.size w w') : w'.ownsRow base e size v n xs :=
  h.kept (row := none) ⟨hb.os, hb.tape, hb.output, hb.size, fun k hk _ => hb.block k hk⟩ (by cases hv : v.ownBlock <;> simp)

set_option maxRecDepth 100000 in
set_option maxHeartbeats 4000000 in
theorem overlaps_any (b off len cap : Nat) (c : Nat → CallD) (w : World) (hl : len ≤ 100) (hb : b < w.heap.size) (hc : ∀ i, i < len → CallAt w b (off + i * 11) (c i)) :
    Calls Try.prog 43 #[.slice (some ⟨b, off, none⟩) len cap] w (OverTo c len w) := by
  obtain ⟨i71, hi, hz0, hz1, hz2⟩ := info_parts info71
  have HC := Lib.hid hc; clear hc
  have HBB := Lib.hid hb; clear hb
  obtain ⟨B, hB⟩ : ∃ B, B = w.heap.size := ⟨_, rfl⟩
  rw [← hB] at HBB
  have HB := Lib.hid hB; clear hB
  go_enter Try.func43, Try.ntmps43
  go_wp2_with fail
  go_loopw [3, 9] (fun v i wr => ∃ k : Nat, k ≤ len ∧ i = .int .i64 k ∧ Hid (wr.ownsRow B 71 2 v (ovTo c len k).length (pairs (ovTo c len k))) ∧ Hid (Below B w wr)) (fun _ i _ => len - (intOf i).toNat)
  case atStart => exact ⟨0, Nat.zero_le _, rfl, World.ownsRow_nil _ _ _ _, Below.refl _ _⟩
  case round =>
    obtain ⟨k, hk, rfl, HO, HBE⟩ := hrel
    by_cases hlt : k < len
    · have hsz := HBE.out.size
      have hBw : B ≤ wr.heap.size := by rw [HB.out]; exact hsz
      obtain ⟨d0, d1, d2, d3, d4, d5, d6, d7, d8, d9, d10⟩ := (HC.out k hlt).of (w' := wr) fun o => HBE.out.cell (p := ⟨b, o, none⟩) HBB.out
      have HBW : Hid (b < wr.heap.size) := Lib.hid (by have := HBB.out; omega)
      go_wp2_with fail
      -- INNER
      obtain ⟨G, hG⟩ : ∃ G, G = wr.heap.size := ⟨_, rfl⟩
      have HGB : Hid ((wr.alloc (.cells #[.int .i64 (c k).th, .int .i64 (c k).ki, .int .u32 (c k).ky, .int .u32 (c k).va, .int .i64 (c k).rk, .int .u32 (c k).rv, .int .i64 (c k).be, .int .i64 (c k).en, .int .i64 (c k).wh, .bool (c k).cr, .bool (c k).kp] 65)).heap[G]? = some (.cells (c k).cells 65)) := Lib.hid (by rw [hG]; exact heap_alloc_new wr _)
      rw [← hG]
      clear hG
      clear d0 d1 d2 d3 d4 d5 d6 d7 d8 d9 d10
      go_loopw [3, 6] (fun v i wr => ∃ j : Nat, k < j ∧ j ≤ len ∧ i = .int .i64 j ∧ Hid (wr.ownsRow B 71 2 v (ovTo c len k ++ ovIn c k j).length (pairs (ovTo c len k ++ ovIn c k j))) ∧ Hid (Below B w wr) ∧ Hid (wr.heap[G]? = some (.cells (c k).cells 65))) (fun _ i _ => len - (intOf i).toNat)
      case atStart => exact ⟨k + 1, by omega, by omega, by go_num, Lib.hid (by rw [ovIn_low c k (k + 1) (by omega), List.append_nil]; exact HO.out.alloc _), Lib.hid (HBE.out.alloc hBw _), HGB⟩
      case round =>
        obtain ⟨j, hkj, hj, rfl, HOI, HBI, HGI⟩ := hrel
        have hBi : B ≤ wr.heap.size := by rw [HB.out]; exact HBI.out.size
        by_cases hjl : j < len
        · have HD : Hid (∀ x : Over wr.heap.size wr, CallAt x.w b (off + j * 11) (c j)) := Lib.hid fun x =>
            (HC.out j hjl).of fun o => (HBI.out.trans (x.below.mono hBi)).cell (p := ⟨b, o, none⟩) HBB.out
          have HE : Hid (∀ x : Over wr.heap.size wr, CallAt x.w G 0 (c k)) := Lib.hid fun x =>
            callAt_of_block (by rw [x.below.block G (Array.getElem?_eq_some_iff.1 HGI.out).1]; exact HGI.out)
          have i0 : (0 : Int) ≤ (j : Int) := by omega
          have i1 : (j : Int) < (len : Int) := by omega
          have HLN : Hid ((ovTo c len k ++ ovIn c k j).length ≤ 10100) := Lib.hid (by
            rw [List.length_append]; have h1 := ovTo_len c len k; have h2 := ovIn_len c k j
            have h3 : k * len ≤ 100 * 100 := Nat.mul_le_mul (by omega) hl
            omega)
          have H1 := Lib.hid fun w => ahead_any (c k) (c j) w
          have H2 := Lib.hid fun w => ahead_any (c j) (c k) w
          simp only [CallD.cells] at H1 H2
          have HOVB : Hid (overB c k j = (!(c k).aheadB (c j) && !(c j).aheadB (c k))) := Lib.hid rfl
          have d0 := fun x => (HD.out x).1
          have d1 := fun x => (HD.out x).2.1
          have d2 := fun x => (HD.out x).2.2.1
          have d3 := fun x => (HD.out x).2.2.2.1
          have d4 := fun x => (HD.out x).2.2.2.2.1
          have d5 := fun x => (HD.out x).2.2.2.2.2.1
          have d6 := fun x => (HD.out x).2.2.2.2.2.2.1
          have d7 := fun x => (HD.out x).2.2.2.2.2.2.2.1
          have d8 := fun x => (HD.out x).2.2.2.2.2.2.2.2.1
          have d9 := fun x => (HD.out x).2.2.2.2.2.2.2.2.2.1
          have d10 := fun x => (HD.out x).2.2.2.2.2.2.2.2.2.2
          have e0 := fun x => (HE.out x).1
          have e1 := fun x => (HE.out x).2.1
          have e2 := fun x => (HE.out x).2.2.1
          have e3 := fun x => (HE.out x).2.2.2.1
          have e4 := fun x => (HE.out x).2.2.2.2.1
          have e5 := fun x => (HE.out x).2.2.2.2.2.1
          have e6 := fun x => (HE.out x).2.2.2.2.2.2.1
          have e7 := fun x => (HE.out x).2.2.2.2.2.2.2.1
          have e8 := fun x => (HE.out x).2.2.2.2.2.2.2.2.1
          have e9 := fun x => (HE.out x).2.2.2.2.2.2.2.2.2.1
          have e10 := fun x => (HE.out x).2.2.2.2.2.2.2.2.2.2
          simp only [Nat.zero_add] at e1 e2 e3 e4 e5 e6 e7 e8 e9 e10
          generalize (c k).aheadB (c j) = a1 at *
          generalize (c j).aheadB (c k) = a2 at *
          cases a1
          · cases a2
            · have HOVB2 := HOVB
              clear HOVB
              have HOVB : Hid (overB c k j = true) := Lib.hid (by rw [HOVB2.out]; rfl)
              have HOV : Hid (ovIn c k (j + 1) = ovIn c k j ++ [(k, j)]) := Lib.hid (by rw [ovIn, if_pos ⟨by omega, HOVB.out⟩])
              go_wp2_with fail
              refine region_quiet_of (fun x : Over wr.heap.size wr => x.w) (by kernel_rfl) (by kernel_rfl) (Over.first _ _) (Over.first_w _ _) ?_
              repeat (first | go_big_quiet_skip | (go_big_quiet_want; go_big_quiet_op; first | go_big_quiet_on | go_big_quiet_call ((rename_i x; go_at_call 42; (first | (with_reducible refine (H1.out _).mono ?_) | (with_reducible refine (H2.out _).mono ?_)); rintro e w' ⟨rfl, hb⟩; exact ⟨rfl, x.on w' (hb.mono x.below.size), rfl⟩))))
              refine wpQuiet_nil ?_
              rintro _ ⟨x, rfl⟩
              have HOX := Lib.hid (own_below HOI.out x.below)
              have HBX := Lib.hid (HBI.out.trans (x.below.mono hBi))
              have HGX : Hid (x.w.heap[G]? = some (.cells (c k).cells 65)) := Lib.hid (by rw [x.below.block G (Array.getElem?_eq_some_iff.1 HGI.out).1]; exact HGI.out)
              have hBx : B ≤ x.w.heap.size := by rw [HB.out]; exact HBX.out.size
              obtain ⟨W, hW⟩ : ∃ W, W = x.w := ⟨_, rfl⟩
              rw [← hW] at HOX HBX HGX hBx ⊢
              clear hW d0 d1 d2 d3 d4 d5 d6 d7 d8 d9 d10 e0 e1 e2 e3 e4 e5 e6 e7 e8 e9 e10
              go_wp2_with (at_builtin; refine wpList_push rfl _ _ 69 rfl B 71 i71 (.agg #[.int .i64 0, .int .i64 0]) 2 16 Try.underlying69 hi hz0 hz1 hz2 rfl (by decide) W hBx u3 (ovTo c len k ++ ovIn c k j).length (pairs (ovTo c len k ++ ovIn c k j)) rfl HOX.out #[.int .i64 k, .int .i64 j] 1 1 rfl rfl (by simp [Value.oneCell']) (by have := HLN.out; unfold maxLen; omega) (by have := HLN.out; omega) ?_; intro v' w' hown hgr hbel hne; have HO' := Lib.hid hown; have HB' := Lib.hid (hbel B w HBX.out (Nat.le_refl _)); have HG' := Lib.hid hgr; clear hown hgr hbel hne)
              go_wp2_with fail
              go_roundw
              case rel =>
                refine ⟨j + 1, by omega, by omega, by go_num, Lib.hid ?_, HB', Lib.hid ?_⟩
                · rw [HOV.out, ← List.append_assoc, pairs_append, List.length_append]; exact HO'.out
                · rw [HG'.out.block G (Array.getElem?_eq_some_iff.1 HGX.out).1 (own_ne HOX.out HGX.out (by decide))]; exact HGX.out
              case measure => simp [intOf]; omega
            · have HOVB2 := HOVB
              clear HOVB
              have HOVB : Hid (overB c k j = false) := Lib.hid (by rw [HOVB2.out]; rfl)
              have HOV : Hid (ovIn c k (j + 1) = ovIn c k j) := Lib.hid (by rw [ovIn, if_neg (by simp [HOVB.out]), List.append_nil])
              go_wp2_with fail
              refine region_quiet_of (fun x : Over wr.heap.size wr => x.w) (by kernel_rfl) (by kernel_rfl) (Over.first _ _) (Over.first_w _ _) ?_
              repeat (first | go_big_quiet_skip | (go_big_quiet_want; go_big_quiet_op; first | go_big_quiet_on | go_big_quiet_call ((rename_i x; go_at_call 42; (first | (with_reducible refine (H1.out _).mono ?_) | (with_reducible refine (H2.out _).mono ?_)); rintro e w' ⟨rfl, hb⟩; exact ⟨rfl, x.on w' (hb.mono x.below.size), rfl⟩))))
              refine wpQuiet_nil ?_
              rintro _ ⟨x, rfl⟩
              have HOX := Lib.hid (own_below HOI.out x.below)
              have HBX := Lib.hid (HBI.out.trans (x.below.mono hBi))
              have HGX : Hid (x.w.heap[G]? = some (.cells (c k).cells 65)) := Lib.hid (by rw [x.below.block G (Array.getElem?_eq_some_iff.1 HGI.out).1]; exact HGI.out)
              have hBx : B ≤ x.w.heap.size := by rw [HB.out]; exact HBX.out.size
              obtain ⟨W, hW⟩ : ∃ W, W = x.w := ⟨_, rfl⟩
              rw [← hW] at HOX HBX HGX hBx ⊢
              clear hW d0 d1 d2 d3 d4 d5 d6 d7 d8 d9 d10 e0 e1 e2 e3 e4 e5 e6 e7 e8 e9 e10
              go_wp2_with fail
              go_roundw
              case rel => exact ⟨j + 1, by omega, by omega, by go_num, Lib.hid (by rw [HOV.out]; exact HOX.out), HBX, HGX⟩
              case measure => simp [intOf]; omega
          · have HOVB2 := HOVB
            clear HOVB
            have HOVB : Hid (overB c k j = false) := Lib.hid (by rw [HOVB2.out]; rfl)
            have HOV : Hid (ovIn c k (j + 1) = ovIn c k j) := Lib.hid (by rw [ovIn, if_neg (by simp [HOVB.out]), List.append_nil])
            go_wp2_with fail
            refine region_quiet_of (fun x : Over wr.heap.size wr => x.w) (by kernel_rfl) (by kernel_rfl) (Over.first _ _) (Over.first_w _ _) ?_
            repeat (first | go_big_quiet_skip | (go_big_quiet_want; go_big_quiet_op; first | go_big_quiet_on | go_big_quiet_call ((rename_i x; go_at_call 42; (first | (with_reducible refine (H1.out _).mono ?_) | (with_reducible refine (H2.out _).mono ?_)); rintro e w' ⟨rfl, hb⟩; exact ⟨rfl, x.on w' (hb.mono x.below.size), rfl⟩))))
            refine wpQuiet_nil ?_
            rintro _ ⟨x, rfl⟩
            have HOX := Lib.hid (own_below HOI.out x.below)
            have HBX := Lib.hid (HBI.out.trans (x.below.mono hBi))
            have HGX : Hid (x.w.heap[G]? = some (.cells (c k).cells 65)) := Lib.hid (by rw [x.below.block G (Array.getElem?_eq_some_iff.1 HGI.out).1]; exact HGI.out)
            have hBx : B ≤ x.w.heap.size := by rw [HB.out]; exact HBX.out.size
            obtain ⟨W, hW⟩ : ∃ W, W = x.w := ⟨_, rfl⟩
            rw [← hW] at HOX HBX HGX hBx ⊢
            clear hW d0 d1 d2 d3 d4 d5 d6 d7 d8 d9 d10 e0 e1 e2 e3 e4 e5 e6 e7 e8 e9 e10
            go_wp2_with fail
            go_roundw
            case rel => exact ⟨j + 1, by omega, by omega, by go_num, Lib.hid (by rw [HOV.out]; exact HOX.out), HBX, HGX⟩
            case measure => simp [intOf]; omega
        · obtain rfl : j = len := by omega
          go_wp2_with fail
          go_roundw
          case rel => exact ⟨k + 1, by omega, by go_num, Lib.hid (by rw [ovTo]; exact HOI.out), HBI⟩
          case measure => simp [intOf]; omega
    · obtain rfl : k = len := by omega
      go_wp2_with fail
      go_ret
      exact ⟨_, rfl, by rw [← HB.out]; exact HBE.out, by rw [← HB.out]; exact HO.out⟩
end Go.Proofs.Ytfjddkjfkgdihaa
