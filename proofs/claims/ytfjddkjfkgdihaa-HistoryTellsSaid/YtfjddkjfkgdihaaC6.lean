/- Walk of history.Right. -/
import Derived.Test.YtfjddkjfkgdihaaC5
import Derived.Test.YtfjddkjfkgdihaaIm
import Derived.Maps.Own
import Derived.WalkSmall
namespace Go.Proofs.Ytfjddkjfkgdihaa
open Go.RowKit Go.BigFrame
set_option linter.unusedVariables false

/-- A call's cells, from an address on. -/
def CallAt (w : World) (b o : Nat) (c : CallD) : Prop :=
  w.cell? ⟨b, o, none⟩ = some (.int .i64 c.th) ∧ w.cell? ⟨b, o + 1, none⟩ = some (.int .i64 c.ki) ∧ w.cell? ⟨b, o + 2, none⟩ = some (.int .u32 c.ky) ∧ w.cell? ⟨b, o + 3, none⟩ = some (.int .u32 c.va) ∧
  w.cell? ⟨b, o + 4, none⟩ = some (.int .i64 c.rk) ∧ w.cell? ⟨b, o + 5, none⟩ = some (.int .u32 c.rv) ∧ w.cell? ⟨b, o + 6, none⟩ = some (.int .i64 c.be) ∧ w.cell? ⟨b, o + 7, none⟩ = some (.int .i64 c.en) ∧
  w.cell? ⟨b, o + 8, none⟩ = some (.int .i64 c.wh) ∧ w.cell? ⟨b, o + 9, none⟩ = some (.bool c.cr) ∧ w.cell? ⟨b, o + 10, none⟩ = some (.bool c.kp)
theorem CallAt.of {w w' : World} {b o : Nat} {c : CallD} (h : CallAt w b o c) (he : ∀ o, w'.cell? ⟨b, o, none⟩ = w.cell? ⟨b, o, none⟩) : CallAt w' b o c := by
  unfold CallAt at *; simp only [he]; exact h
/-- The slice value reads as the calls c. -/
def CallsAt (w : World) (a : Option Addr) (len cap : Nat) (c : Nat → CallD) : Prop :=
  len ≤ cap ∧ cap ≤ maxLen ∧ ∀ i, i < len → ∃ b off, a = some ⟨b, off, none⟩ ∧ b < w.heap.size ∧ CallAt w b (off + i * 11) (c i)

/-- The last of the first k calls that is a thread's. -/
def lastOf (c : Nat → CallD) : Nat → Int → Option Nat
  | 0, _ => none
  | k + 1, t => if t = (c k).th then some k else lastOf c k t
def okAt (c : Nat → CallD) (k : Nat) : Bool :=
  (c k).mayB && !(decide (0 < k) && decide ((c k).be < (c (k - 1)).be)) && (match lastOf c k (c k).th with | none => true | some j => !(!(c j).cr && decide ((c k).be < (c j).en)))
def rightTo (c : Nat → CallD) : Nat → Bool
  | 0 => true
  | k + 1 => rightTo c k && okAt c k
theorem rightTo_false (c : Nat → CallD) (k n : Nat) (hk : k < n) (h : okAt c k = false) : rightTo c n = false := by
  induction n with
  | zero => omega
  | succ n ih =>
    unfold rightTo
    by_cases e : k = n
    · subst e; rw [h]; simp
    · rw [ih (by omega)]; simp
theorem lastOf_lt (c : Nat → CallD) (k : Nat) (t : Int) (j : Nat) (h : lastOf c k t = some j) : j < k ∧ (c j).th = t := by
  induction k with
  | zero => cases h
  | succ k ih =>
    unfold lastOf at h
    split at h
    · rename_i e; cases h; exact ⟨by omega, e.symm⟩
    · have := ih h; omega

def callZ : Value := .agg #[.int .i64 0, .int .i64 0, .int .u32 0, .int .u32 0, .int .i64 0, .int .u32 0, .int .i64 0, .int .i64 0, .int .i64 0, .bool false, .bool false]
theorem zero65 (w : World) : (zeroValue 65).run Try.prog w = .ok callZ w := by kernel_rfl

/-- What the map holds behind k rounds. -/
def lastM (c : Nat → CallD) (k : Nat) : Int → Option Value := fun t => (lastOf c k t).map fun j => .agg (c j).cells
theorem lastM_succ (c : Nat → CallD) (k : Nat) : (fun x => if x = (c k).th then some (Value.agg (c k).cells) else lastM c k x) = lastM c (k + 1) := by
  funext x; unfold lastM; simp only [lastOf]; split <;> rfl

theorem im_after {wr w2 : World} {B : Nat} {f : Int → Option Value} (h : IMap wr B f) (o1 o2 : Obj) (hb2 : Below ((wr.alloc o1).alloc o2).heap.size ((wr.alloc o1).alloc o2) w2) (n : Nat) : IMap (w2.drewN n) B f := by
  have h1 := h.of_block (w' := wr.alloc o1) (heap_alloc_old _ _ h.lt)
  have h2 := h1.of_block (w' := (wr.alloc o1).alloc o2) (heap_alloc_old _ _ h1.lt)
  exact (h2.below hb2 h2.lt).of_block rfl
theorem cell_after {wr w2 : World} {b : Nat} (hb : b < wr.heap.size) (o1 o2 : Obj) (hb2 : Below ((wr.alloc o1).alloc o2).heap.size ((wr.alloc o1).alloc o2) w2) (o : Nat) : w2.cell? ⟨b, o, none⟩ = wr.cell? ⟨b, o, none⟩ := by
  rw [hb2.cell (p := ⟨b, o, none⟩) (by simp; omega), World.cell?_alloc_past _ _ _ (by simp; omega), World.cell?_alloc_past _ _ _ hb]
theorem below_after {w wr w2 : World} {B : Nat} (h : Below B w wr) (hB : B ≤ wr.heap.size) (o1 o2 : Obj) (hb2 : Below ((wr.alloc o1).alloc o2).heap.size ((wr.alloc o1).alloc o2) w2) (n : Nat) : Below B w (w2.drewN n) :=
  below_drewN (((h.alloc hB _).alloc (by simp; omega) _).trans (hb2.mono (by simp; omega))) n

set_option maxRecDepth 100000 in
set_option maxHeartbeats 4000000 in
theorem right_any (b off len cap : Nat) (c : Nat → CallD) (w : World) (hl : len ≤ 100) (hb : b < w.heap.size) (hc : ∀ i, i < len → CallAt w b (off + i * 11) (c i)) :
    Calls Try.prog 40 #[.slice (some ⟨b, off, none⟩) len cap] w (BoolOn (rightTo c len) w) := by
  have hmm := @run_makeMap Try.prog
  have HC := Lib.hid hc; clear hc
  have HBB := Lib.hid hb; clear hb
  obtain ⟨r, hr⟩ : ∃ r, r = rightTo c len := ⟨_, rfl⟩
  rw [← hr]
  have HR := Lib.hid hr; clear hr
  have HM0 := Lib.hid (IMap.made w)
  have HB0 := Lib.hid ((Below.refl w.heap.size w).alloc (Nat.le_refl _) (.map #[] 0))
  obtain ⟨B, hB⟩ : ∃ B, B = w.heap.size := ⟨_, rfl⟩
  rw [← hB] at HM0 HB0 HBB
  have HB := Lib.hid hB; clear hB
  go_enter Try.func40, Try.ntmps40
  go_wp2_with fail
  rw [← HB.out]
  go_loopw [11] (fun i wr => ∃ k : Nat, k ≤ len ∧ i = .int .i64 k ∧ Hid (rightTo c k = true) ∧ Hid (IMap wr B (lastM c k)) ∧ Hid (Below B w wr)) (fun i _ => len - (intOf i).toNat)
  case atStart => exact ⟨0, Nat.zero_le _, rfl, Lib.hid rfl, HM0, HB0⟩
  case round =>
    obtain ⟨k, hk, rfl, HRT, HIM, HBE⟩ := hrel
    by_cases hlt : k < len
    · obtain ⟨d0, d1, d2, d3, d4, d5, d6, d7, d8, d9, d10⟩ := (HC.out k hlt).of (w' := wr) fun o => HBE.out.cell (p := ⟨b, o, none⟩) HBB.out
      have HMAY := Lib.hid fun w => may_any (c k) w
      simp only [CallD.cells] at HMAY
      have HOK : Hid (okAt c k = ((c k).mayB && !(decide (0 < k) && decide ((c k).be < (c (k - 1)).be)) && (match lastOf c k (c k).th with | none => true | some j => !(!(c j).cr && decide ((c k).be < (c j).en))))) := Lib.hid rfl
      have HRF : Hid (okAt c k = false → r = false) := Lib.hid fun h => by rw [HR.out]; exact rightTo_false c k len hlt h
      have HRT2 : Hid (okAt c k = true → rightTo c (k + 1) = true) := Lib.hid fun h => by unfold rightTo; rw [HRT.out, h]; rfl
      have HUP := Lib.hid (lastM_succ c k)
      have hsz := HBE.out.size
      have hBw := HIM.out.lt
      have HBW : Hid (b < wr.heap.size) := Lib.hid (by have := HBB.out; omega)
      cases hlo : lastOf c k (c k).th with
      | none =>
        rw [hlo] at HOK
        have hlk : ∀ o, (Instr.lookup 96 (.map (some B)) (.int .i64 (c k).th) true).run Try.prog (wr.alloc o) = .ok (.tuple #[callZ, .bool false]) (wr.alloc o) := fun o => by
          have := (HIM.out.of_block (w' := wr.alloc o) (heap_alloc_old _ _ HIM.out.lt)).lookup (P := Try.prog) Try.underlying96 Try.underlying3 (zero65 _) (c k).th
          rw [this]; simp [lastM, hlo]
        unfold callZ at hlk
        clear hlo
        generalize (c k).mayB = mb at *
        cases mb
        · have HF : Hid (r = false) := Lib.hid (HRF.out (by rw [HOK.out]; rfl))
          go_wp2_with (go_at_call 38; refine (HMAY.out _).mono ?_; rintro e w2 ⟨rfl, hb2⟩)
          go_ret
          exact ⟨by rw [HF.out]; rfl, by rw [← HB.out]; exact ((HBE.out.alloc (by omega) _).alloc (by simp; omega) _).trans (hb2.mono (by simp; omega))⟩
        · by_cases hk0 : k = 0
          · have HK0 : Hid (okAt c k = true) := Lib.hid (by rw [HOK.out, hk0]; rfl)
            have hz1 : decide (0 < k) = false := by simp [hk0]
            have hz2 : decide ((0 : Int) < (k : Int)) = false := by simp [hk0]
            clear hk0
            have HK : Hid (okAt c k = true) := Lib.hid (by rw [HK0.out])
            go_wp2_with (go_at_call 38; refine (HMAY.out _).mono ?_; rintro e w2 ⟨rfl, hb2⟩; have hcw := fun (b' o : Nat) (h : b' < _) => hb2.cell (p := ⟨b', o, none⟩) h; have hs2 := hb2.size; have hold := cell_after (HBW.out) _ _ hb2; have HB2 := Lib.hid hb2; clear hb2)
            go_quiet (fail)
            have HIM2 := Lib.hid (im_after HIM.out _ _ HB2.out nq)
            have HBE2 := Lib.hid (below_after HBE.out (by omega) _ _ HB2.out nq)
            go_wp2_with (at_mapUpdate; refine wpList_update_im Try.underlying96 Try.underlying3 _ rfl _ _ _ rfl B (lastM c k) rfl HIM2.out (c k).th _ rfl rfl ?_; intro w3 him3 hgr3; have HIM3 := Lib.hid him3; have HGR3 := Lib.hid hgr3; clear him3 hgr3)
            go_roundw
            case rel => exact ⟨k + 1, by omega, by go_num, Lib.hid (HRT2.out HK.out), Lib.hid (by rw [← HUP.out]; exact HIM3.out), Lib.hid (HBE2.out.grown HGR3.out (by rw [HB.out]; exact HBE2.out.size) (fun q hq => by cases hq; exact Nat.le_refl _))⟩
            case measure => simp [intOf]; omega
          · have hk1 : 0 < k := by omega
            have hk2 : (0 : Int) < (k : Int) := by omega
            have hk3 : ((k : Int) - 1).toNat = k - 1 := by omega
            have hk4 : (0 : Int) ≤ (k : Int) - 1 := by omega
            have hk5 : (k : Int) - 1 < (len : Int) := by omega
            have hk8 : (1 : Int) ≤ (k : Int) := by omega
            have hk9 : 1 ≤ k := by omega
            have hk7 : IntKind.i64.wrap ((k : Int) - 1) = (k : Int) - 1 := IntWalk.i64_in _ (by omega)
            obtain ⟨-, -, -, -, -, -, e6, -, -, -, -⟩ := (HC.out (k - 1) (by omega)).of (w' := wr) fun o => HBE.out.cell (p := ⟨b, o, none⟩) HBB.out
            by_cases hbe : (c k).be < (c (k - 1)).be
            · have HF : Hid (r = false) := Lib.hid (HRF.out (by rw [HOK.out]; simp [hk1, hbe]))
              generalize (c (k - 1)).be = pb at *
              go_wp2_with (go_at_call 38; refine (HMAY.out _).mono ?_; rintro e w2 ⟨rfl, hb2⟩; have hcw := fun (b' o : Nat) (h : b' < _) => hb2.cell (p := ⟨b', o, none⟩) h; have hs2 := hb2.size; have hold := cell_after (HBW.out) _ _ hb2; have HB2 := Lib.hid hb2; clear hb2)
              go_quiet (fail)
              have HIM2 := Lib.hid (im_after HIM.out _ _ HB2.out nq)
              have HBE2 := Lib.hid (below_after HBE.out (by omega) _ _ HB2.out nq)
              go_wp2_with fail
              go_ret
              exact ⟨by rw [HF.out]; rfl, by rw [← HB.out]; exact HBE2.out⟩
            · have HK0 : Hid (okAt c k = true) := Lib.hid (by rw [HOK.out]; simp [hbe])
              have hbe' : (c (k - 1)).be ≤ (c k).be := by omega
              clear hbe
              generalize (c (k - 1)).be = pb at *
              have HK : Hid (okAt c k = true) := Lib.hid (by rw [HK0.out])
              go_wp2_with (go_at_call 38; refine (HMAY.out _).mono ?_; rintro e w2 ⟨rfl, hb2⟩; have hcw := fun (b' o : Nat) (h : b' < _) => hb2.cell (p := ⟨b', o, none⟩) h; have hs2 := hb2.size; have hold := cell_after (HBW.out) _ _ hb2; have HB2 := Lib.hid hb2; clear hb2)
              go_quiet (fail)
              have HIM2 := Lib.hid (im_after HIM.out _ _ HB2.out nq)
              have HBE2 := Lib.hid (below_after HBE.out (by omega) _ _ HB2.out nq)
              go_wp2_with (at_mapUpdate; refine wpList_update_im Try.underlying96 Try.underlying3 _ rfl _ _ _ rfl B (lastM c k) rfl HIM2.out (c k).th _ rfl rfl ?_; intro w3 him3 hgr3; have HIM3 := Lib.hid him3; have HGR3 := Lib.hid hgr3; clear him3 hgr3)
              go_roundw
              case rel => exact ⟨k + 1, by omega, by go_num, Lib.hid (HRT2.out HK.out), Lib.hid (by rw [← HUP.out]; exact HIM3.out), Lib.hid (HBE2.out.grown HGR3.out (by rw [HB.out]; exact HBE2.out.size) (fun q hq => by cases hq; exact Nat.le_refl _))⟩
              case measure => simp [intOf]; omega
      | some j =>
        have hjk := lastOf_lt c k _ j hlo
        rw [hlo] at HOK
        rcases hcj : c j with ⟨jth, jki, jky, jva, jrk, jrv, jbe, jen, jwh, jcr, jkp⟩
        have hlk : ∀ o, (Instr.lookup 96 (.map (some B)) (.int .i64 (c k).th) true).run Try.prog (wr.alloc o) = .ok (.tuple #[.agg #[.int .i64 jth, .int .i64 jki, .int .u32 jky, .int .u32 jva, .int .i64 jrk, .int .u32 jrv, .int .i64 jbe, .int .i64 jen, .int .i64 jwh, .bool jcr, .bool jkp], .bool true]) (wr.alloc o) := fun o => by
          have := (HIM.out.of_block (w' := wr.alloc o) (heap_alloc_old _ _ HIM.out.lt)).lookup (P := Try.prog) Try.underlying96 Try.underlying3 (zero65 _) (c k).th
          rw [this]; simp [lastM, hlo, hcj, CallD.cells]
        simp only [hcj] at HOK
        clear hlo hcj hjk
        generalize (c k).mayB = mb at *
        cases mb
        · have HF : Hid (r = false) := Lib.hid (HRF.out (by rw [HOK.out]; rfl))
          go_wp2_with (go_at_call 38; refine (HMAY.out _).mono ?_; rintro e w2 ⟨rfl, hb2⟩)
          go_ret
          exact ⟨by rw [HF.out]; rfl, by rw [← HB.out]; exact ((HBE.out.alloc (by omega) _).alloc (by simp; omega) _).trans (hb2.mono (by simp; omega))⟩
        · by_cases hk0 : k = 0
          · have HK0 : Hid (okAt c k = (!(!jcr && decide ((c k).be < jen)))) := Lib.hid (by rw [HOK.out, hk0]; rfl)
            have hz1 : decide (0 < k) = false := by simp [hk0]
            have hz2 : decide ((0 : Int) < (k : Int)) = false := by simp [hk0]
            clear hk0
            cases jcr
            · by_cases hen : (c k).be < jen
              · have HF : Hid (r = false) := Lib.hid (HRF.out (by rw [HK0.out]; simp [hen]))
                go_wp2_with (go_at_call 38; refine (HMAY.out _).mono ?_; rintro e w2 ⟨rfl, hb2⟩; have hcw := fun (b' o : Nat) (h : b' < _) => hb2.cell (p := ⟨b', o, none⟩) h; have hs2 := hb2.size; have hold := cell_after (HBW.out) _ _ hb2; have HB2 := Lib.hid hb2; clear hb2)
                go_quiet (fail)
                have HIM2 := Lib.hid (im_after HIM.out _ _ HB2.out nq)
                have HBE2 := Lib.hid (below_after HBE.out (by omega) _ _ HB2.out nq)
                go_wp2_with fail
                go_ret
                exact ⟨by rw [HF.out]; rfl, by rw [← HB.out]; exact HBE2.out⟩
              · have HK : Hid (okAt c k = true) := Lib.hid (by rw [HK0.out]; simp [hen])
                have hen' : jen ≤ (c k).be := by omega
                clear hen
                go_wp2_with (go_at_call 38; refine (HMAY.out _).mono ?_; rintro e w2 ⟨rfl, hb2⟩; have hcw := fun (b' o : Nat) (h : b' < _) => hb2.cell (p := ⟨b', o, none⟩) h; have hs2 := hb2.size; have hold := cell_after (HBW.out) _ _ hb2; have HB2 := Lib.hid hb2; clear hb2)
                go_quiet (fail)
                have HIM2 := Lib.hid (im_after HIM.out _ _ HB2.out nq)
                have HBE2 := Lib.hid (below_after HBE.out (by omega) _ _ HB2.out nq)
                go_wp2_with (at_mapUpdate; refine wpList_update_im Try.underlying96 Try.underlying3 _ rfl _ _ _ rfl B (lastM c k) rfl HIM2.out (c k).th _ rfl rfl ?_; intro w3 him3 hgr3; have HIM3 := Lib.hid him3; have HGR3 := Lib.hid hgr3; clear him3 hgr3)
                go_roundw
                case rel => exact ⟨k + 1, by omega, by go_num, Lib.hid (HRT2.out HK.out), Lib.hid (by rw [← HUP.out]; exact HIM3.out), Lib.hid (HBE2.out.grown HGR3.out (by rw [HB.out]; exact HBE2.out.size) (fun q hq => by cases hq; exact Nat.le_refl _))⟩
                case measure => simp [intOf]; omega
            · have HK : Hid (okAt c k = true) := Lib.hid (by rw [HK0.out]; rfl)
              go_wp2_with (go_at_call 38; refine (HMAY.out _).mono ?_; rintro e w2 ⟨rfl, hb2⟩; have hcw := fun (b' o : Nat) (h : b' < _) => hb2.cell (p := ⟨b', o, none⟩) h; have hs2 := hb2.size; have hold := cell_after (HBW.out) _ _ hb2; have HB2 := Lib.hid hb2; clear hb2)
              go_quiet (fail)
              have HIM2 := Lib.hid (im_after HIM.out _ _ HB2.out nq)
              have HBE2 := Lib.hid (below_after HBE.out (by omega) _ _ HB2.out nq)
              go_wp2_with (at_mapUpdate; refine wpList_update_im Try.underlying96 Try.underlying3 _ rfl _ _ _ rfl B (lastM c k) rfl HIM2.out (c k).th _ rfl rfl ?_; intro w3 him3 hgr3; have HIM3 := Lib.hid him3; have HGR3 := Lib.hid hgr3; clear him3 hgr3)
              go_roundw
              case rel => exact ⟨k + 1, by omega, by go_num, Lib.hid (HRT2.out HK.out), Lib.hid (by rw [← HUP.out]; exact HIM3.out), Lib.hid (HBE2.out.grown HGR3.out (by rw [HB.out]; exact HBE2.out.size) (fun q hq => by cases hq; exact Nat.le_refl _))⟩
              case measure => simp [intOf]; omega
          · have hk1 : 0 < k := by omega
            have hk2 : (0 : Int) < (k : Int) := by omega
            have hk3 : ((k : Int) - 1).toNat = k - 1 := by omega
            have hk4 : (0 : Int) ≤ (k : Int) - 1 := by omega
            have hk5 : (k : Int) - 1 < (len : Int) := by omega
            have hk8 : (1 : Int) ≤ (k : Int) := by omega
            have hk9 : 1 ≤ k := by omega
            have hk7 : IntKind.i64.wrap ((k : Int) - 1) = (k : Int) - 1 := IntWalk.i64_in _ (by omega)
            obtain ⟨-, -, -, -, -, -, e6, -, -, -, -⟩ := (HC.out (k - 1) (by omega)).of (w' := wr) fun o => HBE.out.cell (p := ⟨b, o, none⟩) HBB.out
            by_cases hbe : (c k).be < (c (k - 1)).be
            · have HF : Hid (r = false) := Lib.hid (HRF.out (by rw [HOK.out]; simp [hk1, hbe]))
              generalize (c (k - 1)).be = pb at *
              go_wp2_with (go_at_call 38; refine (HMAY.out _).mono ?_; rintro e w2 ⟨rfl, hb2⟩; have hcw := fun (b' o : Nat) (h : b' < _) => hb2.cell (p := ⟨b', o, none⟩) h; have hs2 := hb2.size; have hold := cell_after (HBW.out) _ _ hb2; have HB2 := Lib.hid hb2; clear hb2)
              go_quiet (fail)
              have HIM2 := Lib.hid (im_after HIM.out _ _ HB2.out nq)
              have HBE2 := Lib.hid (below_after HBE.out (by omega) _ _ HB2.out nq)
              go_wp2_with fail
              go_ret
              exact ⟨by rw [HF.out]; rfl, by rw [← HB.out]; exact HBE2.out⟩
            · have HK0 : Hid (okAt c k = (!(!jcr && decide ((c k).be < jen)))) := Lib.hid (by rw [HOK.out]; simp [hbe])
              have hbe' : (c (k - 1)).be ≤ (c k).be := by omega
              clear hbe
              generalize (c (k - 1)).be = pb at *
              cases jcr
              · by_cases hen : (c k).be < jen
                · have HF : Hid (r = false) := Lib.hid (HRF.out (by rw [HK0.out]; simp [hen]))
                  go_wp2_with (go_at_call 38; refine (HMAY.out _).mono ?_; rintro e w2 ⟨rfl, hb2⟩; have hcw := fun (b' o : Nat) (h : b' < _) => hb2.cell (p := ⟨b', o, none⟩) h; have hs2 := hb2.size; have hold := cell_after (HBW.out) _ _ hb2; have HB2 := Lib.hid hb2; clear hb2)
                  go_quiet (fail)
                  have HIM2 := Lib.hid (im_after HIM.out _ _ HB2.out nq)
                  have HBE2 := Lib.hid (below_after HBE.out (by omega) _ _ HB2.out nq)
                  go_wp2_with fail
                  go_ret
                  exact ⟨by rw [HF.out]; rfl, by rw [← HB.out]; exact HBE2.out⟩
                · have HK : Hid (okAt c k = true) := Lib.hid (by rw [HK0.out]; simp [hen])
                  have hen' : jen ≤ (c k).be := by omega
                  clear hen
                  go_wp2_with (go_at_call 38; refine (HMAY.out _).mono ?_; rintro e w2 ⟨rfl, hb2⟩; have hcw := fun (b' o : Nat) (h : b' < _) => hb2.cell (p := ⟨b', o, none⟩) h; have hs2 := hb2.size; have hold := cell_after (HBW.out) _ _ hb2; have HB2 := Lib.hid hb2; clear hb2)
                  go_quiet (fail)
                  have HIM2 := Lib.hid (im_after HIM.out _ _ HB2.out nq)
                  have HBE2 := Lib.hid (below_after HBE.out (by omega) _ _ HB2.out nq)
                  go_wp2_with (at_mapUpdate; refine wpList_update_im Try.underlying96 Try.underlying3 _ rfl _ _ _ rfl B (lastM c k) rfl HIM2.out (c k).th _ rfl rfl ?_; intro w3 him3 hgr3; have HIM3 := Lib.hid him3; have HGR3 := Lib.hid hgr3; clear him3 hgr3)
                  go_roundw
                  case rel => exact ⟨k + 1, by omega, by go_num, Lib.hid (HRT2.out HK.out), Lib.hid (by rw [← HUP.out]; exact HIM3.out), Lib.hid (HBE2.out.grown HGR3.out (by rw [HB.out]; exact HBE2.out.size) (fun q hq => by cases hq; exact Nat.le_refl _))⟩
                  case measure => simp [intOf]; omega
              · have HK : Hid (okAt c k = true) := Lib.hid (by rw [HK0.out]; rfl)
                go_wp2_with (go_at_call 38; refine (HMAY.out _).mono ?_; rintro e w2 ⟨rfl, hb2⟩; have hcw := fun (b' o : Nat) (h : b' < _) => hb2.cell (p := ⟨b', o, none⟩) h; have hs2 := hb2.size; have hold := cell_after (HBW.out) _ _ hb2; have HB2 := Lib.hid hb2; clear hb2)
                go_quiet (fail)
                have HIM2 := Lib.hid (im_after HIM.out _ _ HB2.out nq)
                have HBE2 := Lib.hid (below_after HBE.out (by omega) _ _ HB2.out nq)
                go_wp2_with (at_mapUpdate; refine wpList_update_im Try.underlying96 Try.underlying3 _ rfl _ _ _ rfl B (lastM c k) rfl HIM2.out (c k).th _ rfl rfl ?_; intro w3 him3 hgr3; have HIM3 := Lib.hid him3; have HGR3 := Lib.hid hgr3; clear him3 hgr3)
                go_roundw
                case rel => exact ⟨k + 1, by omega, by go_num, Lib.hid (HRT2.out HK.out), Lib.hid (by rw [← HUP.out]; exact HIM3.out), Lib.hid (HBE2.out.grown HGR3.out (by rw [HB.out]; exact HBE2.out.size) (fun q hq => by cases hq; exact Nat.le_refl _))⟩
                case measure => simp [intOf]; omega
    · obtain rfl : k = len := by omega
      go_wp2_with fail
      go_ret
      exact ⟨by rw [HR.out, HRT.out]; rfl, by rw [← HB.out]; exact HBE.out⟩
end Go.Proofs.Ytfjddkjfkgdihaa
