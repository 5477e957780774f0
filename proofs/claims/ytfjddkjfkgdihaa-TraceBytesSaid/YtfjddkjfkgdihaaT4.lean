/- Walk of the law TraceReads. -/
import Derived.Test.YtfjddkjfkgdihaaT3
namespace Go.Proofs.Ytfjddkjfkgdihaa
open Go.RowKit Go.BigFrame
set_option linter.unusedVariables false

theorem reads_long (a : Option Addr) (len cap : Nat) (hl : 100 < len) (hc : len ≤ 9223372036854775807) (w : World) :
    Calls Try.prog 6 #[.slice a len cap] w (AwakeTo w) := by
  go_enter Try.func6, Try.ntmps6
  go_wp2_with (go_at_call 25; refine (awake37_any _).mono ?_; rintro e w' ⟨rfl, hb⟩)
  go_ret
  exact ⟨rfl, hb⟩

def ReadTo (v : Int) (ra : Option Addr) (rl rc : Nat) (w : World) (e : Ending) (w' : World) : Prop :=
  e = .returned (.tuple #[.int .u64 v, .slice ra rl rc, .bool true]) ∧ ∃ n, w' = w.drewN n

/-- Both halves of the bytes, as the statement cuts them. -/
theorem reads_parts (bl off len cap : Nat) (z : Nat → Int) (k : Nat) (w : World) (hk : k ≤ len) (hlc : len ≤ cap) (hcm : cap ≤ 9223372036854775807) (hbl : bl < w.heap.size) (hz : ∀ i, i < len → w.cell? ⟨bl, off + i, none⟩ = some (.int .u8 (z i)))
    (ra : Option Addr) (hra : ra = if cap = k then some ⟨bl, off, none⟩ else some ⟨bl, off + k, none⟩) :
    RdB .u8 w.heap.size w ra (len - k) (cap - k) ((List.range (len - k)).map fun i => z (k + i)) ∧ (∀ c, k ≤ c → c ≤ maxLen → RdB .u8 w.heap.size w (some ⟨bl, off, none⟩) k c ((List.range k).map z)) := by
  refine ⟨⟨by simp, by omega, by unfold maxLen; omega, Nat.le_refl _, ?_⟩, fun c h1 h2 => ⟨by simp, h1, h2, Nat.le_refl _, .inr ⟨bl, off, rfl, hbl, fun i hi => ?_⟩⟩⟩
  · by_cases h0 : len - k = 0
    · exact .inl h0
    · refine .inr ⟨bl, off + k, by rw [hra, if_neg (by omega)], hbl, fun i hi => ?_⟩
      rw [Nat.add_assoc, hz (k + i) (by omega)]
      simp [List.getD_eq_getElem?_getD, hi]
  · rw [hz i (by omega)]
    simp [List.getD_eq_getElem?_getD, hi]

set_option maxRecDepth 100000 in
theorem reads_core (bl off len cap : Nat) (k : Nat) (n : Nat) (ra : Option Addr) (L M : List Int) (w : World) (hl : len ≤ 100) (hlc : len ≤ cap) (hcm : cap ≤ 9223372036854775807) (k1 : 1 ≤ k) (k2 : k ≤ len)
    (HY : Hid (Calls Try.prog 26 #[.slice (some ⟨bl, off, none⟩) len cap] w (ReadTo n ra (len - k) (cap - k) w)))
    (HR : Hid (∀ w, Calls Try.prog 27 #[.int .u64 n] w (NumberTo n w))) (HL : Hid (numB n = L)) (HLk : Hid (L.length = k))
    (HP : Hid (RdB .u8 w.heap.size w ra (len - k) (cap - k) M)) (HF : Hid (∀ c, k ≤ c → c ≤ maxLen → RdB .u8 w.heap.size w (some ⟨bl, off, none⟩) k c L))
    (hra : Hid (ra = if cap = k then some ⟨bl, off, none⟩ else some ⟨bl, off + k, none⟩)) :
    Calls Try.prog 6 #[.slice (some ⟨bl, off, none⟩) len cap] w (AwakeTo w) := by
  obtain ⟨B, hB⟩ : ∃ B, B = w.heap.size := ⟨_, rfl⟩
  have HB := Lib.hid hB; clear hB
  go_enter Try.func6, Try.ntmps6
  go_wp2_with (first | (go_at_call 26; refine HY.out.mono ?_; rintro e w1 ⟨rfl, nd, rfl⟩) | fail)
  refine (HR.out _).mono ?_
  rintro e w2 ⟨v1, rfl, hbel, hown⟩
  rw [HL.out, HLk.out] at hown
  obtain ⟨a1, cap1, rfl, hr⟩ := rdB_of_own (k := .u8) hown
  have HBEL := Lib.hid hbel
  have HRD := Lib.hid hr
  clear hbel hown hr
  go_wp2_with fail
  have B0 : Below w.heap.size w w2 := (below_drewN (Below.refl _ _) nd).trans HBEL.out
  have hD : w.heap.size ≤ w2.heap.size := B0.size
  have hcv1 : ∀ x : Over w2.heap.size w2, (convert 40 9 (.slice a1 k cap1)).run Try.prog x.w = .ok (.string (strOfNums L)) x.w := fun x =>
    (HRD.out.below x.below).conv 40 9 5 Try.underlying40 Try.underlying5 Try.underlying9
  have hcv2 : ∀ x : Over w2.heap.size w2, (convert 40 9 (.slice (some ⟨bl, off, none⟩) k cap)).run Try.prog x.w = .ok (.string (strOfNums L)) x.w := fun x =>
    ((HF.out cap (by omega) (by unfold maxLen; omega)).below (B0.trans (x.below.mono hD))).conv 40 9 5 Try.underlying40 Try.underlying5 Try.underlying9
  have hcv3 : ∀ x : Over w2.heap.size w2, (convert 40 9 (.slice ra (len - k) (cap - k))).run Try.prog x.w = .ok (.string (strOfNums M)) x.w := fun x =>
    (HP.out.below (B0.trans (x.below.mono hD))).conv 40 9 5 Try.underlying40 Try.underlying5 Try.underlying9
  have hra' := hra.out.symm
  have hsum : IntKind.i64.wrap ((k : Int) + ((len - k : Nat) : Int)) = (len : Int) := by rw [IntWalk.i64_in _ (by omega)]; omega
  have hk0 : (0 : Int) ≤ (k : Int) := by omega
  have hk1 : (k : Int) ≤ (len : Int) := by omega
  have hk2 : (k : Int) ≤ (cap : Int) := by omega
  have HBB := Lib.hid B0
  clear B0 hD
  refine region_quiet_of (fun x : Over w2.heap.size w2 => x.w) (by kernel_rfl) (by kernel_rfl) (Over.first _ _) (Over.first_w _ _) ?_
  repeat (first | go_big_quiet_skip | (go_big_quiet_want; go_big_quiet_op; first | go_big_quiet_on | go_big_quiet_call ((rename_i x; go_at_call 25; refine (awake37_any _).mono ?_; rintro e w' ⟨rfl, hb⟩; exact ⟨rfl, x.on w' (hb.mono x.below.size), rfl⟩)))) 
  refine wpQuiet_nil ?_
  rintro _ ⟨x, rfl⟩
  go_wp2
  go_ret
  exact ⟨rfl, HBB.out.trans (x.below.mono HBB.out.size)⟩

theorem reads_yes (bl off len cap : Nat) (z : Nat → Int) (k : Nat) (w : World) (hl : len ≤ 100) (hlc : len ≤ cap) (hcm : cap ≤ 9223372036854775807) (hbl : bl < w.heap.size) (hz : ∀ i, i < len → w.cell? ⟨bl, off + i, none⟩ = some (.int .u8 (z i)))
    (hb : ∀ i, 0 ≤ z i ∧ z i ≤ 255) (hh : Hit z len k) : Calls Try.prog 6 #[.slice (some ⟨bl, off, none⟩) len cap] w (AwakeTo w) := by
  have hlt := hh.lt hb
  have hN := hh.numB hb
  obtain ⟨n, hn⟩ := Int.eq_ofNat_of_zero_le (vs_lo k z)
  have hy := read_yes bl off len cap z k w hlc hcm hz hb hh
  obtain ⟨p1, p2⟩ := reads_parts bl off len cap z k w hh.le hlc hcm hbl hz _ rfl
  rw [hn, Int.toNat_natCast] at hN
  unfold ReadYes cutV at hy
  rw [hn] at hy
  exact reads_core bl off len cap k n _ _ _ w hl hlc hcm hh.stops.one hh.le hy (fun w => refNumber_any n (by omega) w) hN (by simp [Hid]) p1 p2 rfl
end Go.Proofs.Ytfjddkjfkgdihaa
