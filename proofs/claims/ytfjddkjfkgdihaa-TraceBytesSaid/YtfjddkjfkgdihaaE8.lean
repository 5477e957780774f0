/- Walks of the reader's methods (layer 37): a byte, a number, one below another one, a place. -/
import Derived.Test.YtfjddkjfkgdihaaE3
import Derived.Test.YtfjddkjfkgdihaaT5
import Derived.WalkLawsBesides
import Derived.Deep.RegionWith
import Derived.Outline
namespace Go.Proofs.Ytfjddkjfkgdihaa
open Go.RowKit Go.BigFrame
set_option linter.unusedVariables false
set_option linter.unusedSimpArgs false

/-- The reader at block p: the bytes M are yet to come, they lie below B ≤ p; 'last' is the last place. -/
structure RdrAt (w : World) (B p : Nat) (M : List Int) (last : Int) (a : Option Addr) (len cap : Nat) : Prop where
  lt : p < w.heap.size
  le : B ≤ p
  rest : w.cell? ⟨p, 0, none⟩ = some (.slice a len cap)
  last : w.cell? ⟨p, 1, none⟩ = some (.int .i64 last)
  free : ∀ j, w.frozen? ⟨p, j, none⟩ = false
  reads : RdB .u8 B w a len cap M
  bytes : ∀ c ∈ M, 0 ≤ c ∧ c ≤ 255

def noTrace : Value := .iface 119 (.agg #[])
/-- It panics with noTrace; nothing but block p has turned. -/
def Falls (p : Nat) (w : World) (e : Ending) (w' : World) : Prop := e = .panicked [{ v := noTrace, recovered := false }] ∧ But p p w w'
theorem But.reads {k : IntKind} {B p : Nat} {w w' : World} {a : Option Addr} {len cap : Nat} {M : List Int} (h : RdB k B w a len cap M) (hb : But p p w w') (hp : B ≤ p) : RdB k B w' a len cap M := by
  obtain ⟨h1, h2, h3, h4, h5⟩ := h
  refine ⟨h1, h2, h3, Nat.le_trans h4 hb.size, ?_⟩
  rcases h5 with h5 | ⟨b, off, e, hlt, hc⟩
  · exact .inl h5
  · exact .inr ⟨b, off, e, hlt, fun i hi => by rw [cell_of_heap (hb.block b (by omega) (by omega) (by omega))]; exact hc i hi⟩

def ByteTo (B p : Nat) (c : Int) (r : List Int) (last : Int) (w : World) (e : Ending) (w' : World) : Prop :=
  e = .returned (.int .i64 c) ∧ But p p w w' ∧ ∃ a len cap, RdrAt w' B p r last a len cap

theorem byte_no (B p : Nat) (last : Int) (a : Option Addr) (len cap : Nat) (w : World) (h : RdrAt w B p [] last a len cap) :
    Calls Try.prog 87 #[.pointer (some ⟨p, 0, none⟩)] w (Falls p w) := by
  have hl : len = 0 := by have := h.reads.1; simpa using this.symm
  subst hl
  have x0 := h.rest
  clear h
  go_enter Try.func87, Try.ntmps87
  go_wp2
  exact ⟨rfl, rfl, But.refl _ _ _⟩

theorem rdB_tail {k : IntKind} {B : Nat} {w : World} {b off len cap : Nat} {c : Int} {r : List Int} (h : RdB k B w (some ⟨b, off, none⟩) len cap (c :: r)) :
    RdB k B w (if cap = 1 then some ⟨b, off, none⟩ else some ⟨b, off + 1, none⟩) (len - 1) (cap - 1) r := by
  obtain ⟨h1, h2, h3, h4, h5⟩ := h
  simp only [List.length_cons] at h1
  refine ⟨by omega, by omega, by omega, h4, ?_⟩
  by_cases h0 : len - 1 = 0
  · exact .inl h0
  · refine .inr ⟨b, off + 1, by rw [if_neg (by omega)], ?_, fun i hi => ?_⟩
    · rcases h5 with h5 | ⟨b', off', e, hlt, -⟩
      · omega
      · cases e; exact hlt
    · rcases h5 with h5 | ⟨b', off', e, hlt, hc⟩
      · omega
      · cases e
        have := hc (i + 1) (by omega)
        rw [show off + 1 + i = off + (i + 1) from by omega]
        simpa using this
theorem RdrAt.set {w : World} {B p : Nat} {M r : List Int} {last : Int} {a a' : Option Addr} {len cap len' cap' : Nat} (h : RdrAt w B p M last a len cap) (hr : RdB .u8 B w a' len' cap' r) (hb : ∀ c ∈ r, 0 ≤ c ∧ c ≤ 255) (n : Nat) :
    RdrAt ((w.drewN n).setCell ⟨p, 0, none⟩ (.slice a' len' cap')) B p r last a' len' cap' := by
  have hbut : But p p w ((w.drewN n).setCell ⟨p, 0, none⟩ (.slice a' len' cap')) := ((But.refl p p w).drewN n).set1 0 _
  refine ⟨by simpa using h.lt, h.le, ?_, ?_, fun j => ?_, hbut.reads hr h.le, hb⟩
  · exact World.cell?_setCell_same (w.drewN n) _ _ (show (w.drewN n).cell? ⟨p, 0, none⟩ = some (.slice a len cap) from h.rest)
  · rw [cell_set_ne (by decide)]; exact h.last
  · rw [World.frozen?_setCell]; exact h.free j
theorem RdrAt.setLast {w : World} {B p : Nat} {M : List Int} {last l' : Int} {a : Option Addr} {len cap : Nat} (h : RdrAt w B p M last a len cap) (n : Nat) :
    RdrAt ((w.drewN n).setCell ⟨p, 1, none⟩ (.int .i64 l')) B p M l' a len cap := by
  have hbut : But p p w ((w.drewN n).setCell ⟨p, 1, none⟩ (.int .i64 l')) := ((But.refl p p w).drewN n).set1 1 _
  refine ⟨by simpa using h.lt, h.le, ?_, ?_, fun j => ?_, hbut.reads h.reads h.le, h.bytes⟩
  · rw [cell_set_ne (by decide)]; exact h.rest
  · exact World.cell?_setCell_same (w.drewN n) _ _ (show (w.drewN n).cell? ⟨p, 1, none⟩ = some (.int .i64 last) from h.last)
  · rw [World.frozen?_setCell]; exact h.free j

theorem byte_yes (B p : Nat) (c : Int) (r : List Int) (last : Int) (a : Option Addr) (len cap : Nat) (w : World) (h : RdrAt w B p (c :: r) last a len cap) :
    Calls Try.prog 87 #[.pointer (some ⟨p, 0, none⟩)] w (ByteTo B p c r last w) := by
  have hr := h.reads
  obtain ⟨h1, h2, h3, h4, h5⟩ := h.reads
  simp only [List.length_cons] at h1
  unfold maxLen at h3
  rcases h5 with h5 | ⟨b, off, rfl, hlt, hc⟩
  · omega
  have hby := h.bytes c (by simp)
  have x0 := h.rest
  have z0 := h.free 0
  have c0 := hc 0 (by omega)
  rw [List.getD_cons_zero, Nat.add_zero] at c0
  have HH := Lib.hid h
  have HR := Lib.hid (rdB_tail hr)
  have hpb : p ≠ b := by have := h.le; omega
  have l1 : 1 ≤ len := by omega
  have l2 : ((len : Int) == 0) = false := by simp; omega
  have l3 : (len == 0) = false := by simp; omega
  have HL := Lib.hid h1
  obtain ⟨by0, by1⟩ := hby
  clear h h1 hr hc
  by_cases hcap : cap = 1
  · subst hcap
    obtain rfl : len = 1 := by omega
    go_enter Try.func87, Try.ntmps87
    go_wp2
    go_ret
    exact ⟨rfl, (But.refl p p w).set1 0 _, _, _, _, HH.out.set (n := 0) HR.out (fun x hx => HH.out.bytes x (by simp [hx]))⟩
  · have hc2 : ¬ 1 = cap := by omega
    have hR2 := HR.out
    rw [if_neg hcap] at hR2
    have HR2 := Lib.hid hR2
    clear hR2 HR
    go_enter Try.func87, Try.ntmps87
    go_wp2
    go_ret
    exact ⟨rfl, (But.refl p p w).set1 0 _, _, _, _, HH.out.set (n := 0) HR2.out (fun x hx => HH.out.bytes x (by simp [hx]))⟩

/-- What is read out of a number's bytes with more behind. -/
theorem readN_yes (n : Nat) (hn : n < 18446744073709551616) (M : List Int) (hM : ∀ c ∈ M, 0 ≤ c ∧ c ≤ 255) (B : Nat) (a : Option Addr) (len cap : Nat) (w : World) (h : RdB .u8 B w a len cap (numB n ++ M)) :
    ∃ ra rl rc, Calls Try.prog 26 #[.slice a len cap] w (ReadTo n ra rl rc w) ∧ RdB .u8 B w ra rl rc M := by
  obtain ⟨h1, h2, h3, h4, h5⟩ := h
  have hLp : 1 ≤ (numB n).length := List.length_pos_iff.2 (numB_ne n)
  rw [List.length_append] at h1
  rcases h5 with h5 | ⟨b, off, rfl, hb, hc⟩
  · omega
  let z : Nat → Int := fun i => (numB n ++ M).getD i 0
  have hz : ∀ i, 0 ≤ z i ∧ z i ≤ 255 := fun i => by
    by_cases hi : i < (numB n ++ M).length
    · have hm : z i ∈ numB n ++ M := by
        simp only [z, List.getD_eq_getElem?_getD, List.getElem?_eq_getElem hi, Option.getD_some]; exact List.getElem_mem hi
      rcases List.mem_append.1 hm with h | h
      · exact numB_bytes n _ h
      · exact hM _ h
    · simp only [z, List.getD_eq_getElem?_getD, List.getElem?_eq_none (by omega : (numB n ++ M).length ≤ i), Option.getD_none]; omega
  obtain ⟨hh, hv⟩ := hit_of_numB n hn z len (fun i hi => by
    simp only [z, List.getD_eq_getElem?_getD, List.getElem?_append_left hi]) (by omega)
  have hy := read_yes b off len cap z (numB n).length w h2 (by unfold maxLen at h3; omega) hc hz hh
  unfold ReadYes cutV at hy
  rw [hv] at hy
  refine ⟨_, _, _, hy, ?_⟩
  refine ⟨by omega, by omega, by omega, h4, ?_⟩
  by_cases h0 : len - (numB n).length = 0
  · exact .inl h0
  · refine .inr ⟨b, off + (numB n).length, by rw [if_neg (by omega)], hb, fun i hi => ?_⟩
    rw [Nat.add_assoc, hc _ (by omega)]
    simp [List.getD_eq_getElem?_getD, List.getElem?_append_right]
theorem readN_no (M : List Int) (hM : ∀ c ∈ M, 0 ≤ c ∧ c ≤ 255) (B : Nat) (a : Option Addr) (len cap : Nat) (w : World) (h : RdB .u8 B w a len cap M) (hno : ∀ n r, n < 18446744073709551616 → M ≠ numB n ++ r) :
    Calls Try.prog 26 #[.slice a len cap] w (ReadNo w) := by
  obtain ⟨h1, h2, h3, h4, h5⟩ := h
  by_cases h0 : len = 0
  · subst h0; exact read_nil a cap w
  rcases h5 with h5 | ⟨b, off, rfl, hb, hc⟩
  · omega
  have hz : ∀ i, 0 ≤ M.getD i 0 ∧ M.getD i 0 ≤ 255 := fun i => by
    by_cases hi : i < M.length
    · simp only [List.getD_eq_getElem?_getD, List.getElem?_eq_getElem hi, Option.getD_some]; exact hM _ (List.getElem_mem hi)
    · simp only [List.getD_eq_getElem?_getD, List.getElem?_eq_none (by omega : M.length ≤ i), Option.getD_none]; omega
  refine read_no b off len cap (fun i => M.getD i 0) w (by omega) h2 (by unfold maxLen at h3; omega) hc hz (fun k hk => ?_)
  have e := hk.numB hz
  have hlt := hk.lt hz
  have hlo := vs_lo k (fun i => M.getD i 0)
  refine hno (vs (fun i => M.getD i 0) k).toNat (M.drop k) (by omega) ?_
  rw [e]
  apply List.ext_getElem?
  intro i
  have hkl := hk.le
  by_cases hi : i < k
  · rw [List.getElem?_append_left (by simpa using hi)]
    simp [hi, List.getD_eq_getElem?_getD, show i < M.length by omega]
  · rw [List.getElem?_append_right (by simpa using hi)]
    simp only [List.length_map, List.length_range, List.getElem?_drop]
    congr 1; omega

def NumberTo86 (B p n : Nat) (r : List Int) (last : Int) (w : World) (e : Ending) (w' : World) : Prop :=
  e = .returned (.int .u64 n) ∧ But p p w w' ∧ ∃ a len cap, RdrAt w' B p r last a len cap

set_option maxRecDepth 100000 in
theorem rnum_yes (B p n : Nat) (hn : n < 18446744073709551616) (r : List Int) (last : Int) (a : Option Addr) (len cap : Nat) (w : World) (h : RdrAt w B p (numB n ++ r) last a len cap) :
    Calls Try.prog 86 #[.pointer (some ⟨p, 0, none⟩)] w (NumberTo86 B p n r last w) := by
  have hbr : ∀ c ∈ r, 0 ≤ c ∧ c ≤ 255 := fun c hc => h.bytes c (List.mem_append.2 (.inr hc))
  obtain ⟨ra, rl, rc, hcall, hrd⟩ := readN_yes n hn r hbr B a len cap w h.reads
  have x0 := h.rest
  have z0 := h.free 0
  have HH := Lib.hid h
  have HC := Lib.hid hcall
  have HR := Lib.hid hrd
  have HB := Lib.hid hbr
  clear h hcall hrd hbr
  go_enter Try.func86, Try.ntmps86
  go_wp2_with fail
  refine HC.out.mono ?_
  rintro e w1 ⟨rfl, nd, rfl⟩
  go_wp2
  go_ret
  exact ⟨rfl, ((But.refl p p w).drewN nd).set1 0 _, _, _, _, HH.out.set HR.out HB.out nd⟩
set_option maxRecDepth 100000 in
theorem rnum_no (B p : Nat) (M : List Int) (last : Int) (a : Option Addr) (len cap : Nat) (w : World) (h : RdrAt w B p M last a len cap) (hno : ∀ n r, n < 18446744073709551616 → M ≠ numB n ++ r) :
    Calls Try.prog 86 #[.pointer (some ⟨p, 0, none⟩)] w (Falls p w) := by
  have HC := Lib.hid (readN_no M h.bytes B a len cap w h.reads hno)
  have x0 := h.rest
  clear h hno
  go_enter Try.func86, Try.ntmps86
  go_wp2_with fail
  refine HC.out.mono ?_
  rintro e w1 ⟨rfl, rfl⟩
  go_wp2
  exact ⟨rfl, rfl, But.refl _ _ _⟩

def BelowTo (B p n : Nat) (r : List Int) (last : Int) (w : World) (e : Ending) (w' : World) : Prop :=
  e = .returned (.int .i64 n) ∧ But p p w w' ∧ ∃ a len cap, RdrAt w' B p r last a len cap
theorem below_yes (B p n most : Nat) (hn : n < most) (hm : most ≤ 4194304) (r : List Int) (last : Int) (a : Option Addr) (len cap : Nat) (w : World) (h : RdrAt w B p (numB n ++ r) last a len cap) :
    Calls Try.prog 71 #[.pointer (some ⟨p, 0, none⟩), .int .u64 most] w (BelowTo B p n r last w) := by
  have HC := Lib.hid (rnum_yes B p n (by omega) r last a len cap w h)
  clear h
  have e1 : decide ((most : Int) ≤ (n : Int)) = false := by simp; omega
  have e2 : decide (most ≤ n) = false := by simp; omega
  go_enter Try.func71, Try.ntmps71
  go_wp2_with fail
  refine HC.out.mono ?_
  rintro e w1 ⟨rfl, hb, hr⟩
  have HB := Lib.hid hb; have HR := Lib.hid hr
  clear hb hr
  go_wp2
  go_ret
  exact ⟨rfl, HB.out, HR.out⟩
theorem below_no (B p most : Nat) (hm : most ≤ 4194304) (M : List Int) (last : Int) (a : Option Addr) (len cap : Nat) (w : World) (h : RdrAt w B p M last a len cap) (hno : ∀ n r, n < most → M ≠ numB n ++ r) :
    Calls Try.prog 71 #[.pointer (some ⟨p, 0, none⟩), .int .u64 most] w (Falls p w) := by
  by_cases hex : ∃ n r, n < 18446744073709551616 ∧ M = numB n ++ r
  · obtain ⟨n, r, hn, rfl⟩ := hex
    have hmn : most ≤ n := by
      rcases Nat.lt_or_ge n most with h | h
      · exact absurd rfl (hno n r h)
      · exact h
    have HC := Lib.hid (rnum_yes B p n hn r last a len cap w h)
    clear h hno
    have e1 : decide ((most : Int) ≤ (n : Int)) = true := by simp; omega
    have e2 : decide (most ≤ n) = true := by simp; omega
    go_enter Try.func71, Try.ntmps71
    go_wp2_with fail
    refine HC.out.mono ?_
    rintro e w1 ⟨rfl, hb, hr⟩
    have HB := Lib.hid hb
    clear hb hr
    go_wp2
    exact ⟨rfl, rfl, HB.out⟩
  · have HC := Lib.hid (rnum_no B p M last a len cap w h (fun n r hn e => hex ⟨n, r, hn, e⟩))
    clear h hno hex
    go_enter Try.func71, Try.ntmps71
    go_wp2_with fail
    refine HC.out.mono ?_
    rintro e w1 ⟨rfl, hb⟩
    exact ⟨rfl, rfl, hb⟩

def PlaceTo (B p : Nat) (r : List Int) (last : Int) (w : World) (e : Ending) (w' : World) : Prop :=
  e = .returned (.int .i64 last) ∧ But p p w w' ∧ ∃ a len cap, RdrAt w' B p r last a len cap
theorem uns_bd (n : Nat) (h : n ≤ 4294967296) : -2147483649 ≤ uns n ∧ uns n ≤ 2147483648 := by unfold uns; split <;> omega
theorem But.trans {b g : Nat} {x y z : World} (h : But b g x y) (k : But b g y z) : But b g x z :=
  ⟨k.os.trans h.os, k.tape.trans h.tape, k.output.trans h.output, Nat.le_trans h.size k.size, fun i hi h1 h2 => (k.block i (Nat.lt_of_lt_of_le hi h.size) h1 h2).trans (h.block i hi h1 h2)⟩

set_option maxRecDepth 100000 in
set_option maxHeartbeats 1000000 in
theorem place_yes (B p n : Nat) (hn : n ≤ 4294967296) (r : List Int) (last : Int) (l0 : -1073741824 ≤ last) (l1 : last ≤ 1073741824) (a : Option Addr) (len cap : Nat) (w : World) (h : RdrAt w B p (numB n ++ r) last a len cap) :
    Calls Try.prog 88 #[.pointer (some ⟨p, 0, none⟩)] w (PlaceTo B p r (last + uns n) w) := by
  have HC := Lib.hid (rnum_yes B p n (by omega) r last a len cap w h)
  clear h
  obtain ⟨u0, u1⟩ := uns_bd n hn
  have HU := Lib.hid fun w => unsigned_any n (by omega) (by omega) w
  have e1 : decide ((4294967296 : Int) < (n : Int)) = false := by simp; omega
  have e2 : decide (4294967296 < n) = false := by simp; omega
  clear hn
  generalize uns n = u at *
  go_enter Try.func88, Try.ntmps88
  go_wp2_with fail
  refine HC.out.mono ?_
  rintro e w1 ⟨rfl, hb, a1, len1, cap1, hr⟩
  have HB := Lib.hid hb; have HR := Lib.hid hr
  have x1 := hr.last
  have z1 := hr.free 1
  clear hb hr
  have wsum : IntKind.i64.wrap (last + u) = last + u := IntWalk.i64_in _ (by omega)
  go_wp2_with fail
  go_region_with (go_at_call 31; refine (HU.out _).mono ?_; rintro e w' ⟨rfl, rfl⟩)
  all_goals
    go_wp2
    go_ret
    exact ⟨rfl, HB.out.trans (((But.refl p p w1).drewN 1).set1 1 _), _, _, _, HR.out.setLast 1⟩
theorem place_no (B p : Nat) (M : List Int) (last : Int) (a : Option Addr) (len cap : Nat) (w : World) (h : RdrAt w B p M last a len cap) (hno : ∀ n r, n ≤ 4294967296 → M ≠ numB n ++ r) :
    Calls Try.prog 88 #[.pointer (some ⟨p, 0, none⟩)] w (Falls p w) := by
  by_cases hex : ∃ n r, n < 18446744073709551616 ∧ M = numB n ++ r
  · obtain ⟨n, r, hn, rfl⟩ := hex
    have hmn : 4294967296 < n := by
      rcases Nat.lt_or_ge 4294967296 n with h | h
      · exact h
      · exact absurd rfl (hno n r h)
    have HC := Lib.hid (rnum_yes B p n hn r last a len cap w h)
    clear h hno
    have e1 : decide ((4294967296 : Int) < (n : Int)) = true := by simp; omega
    have e2 : decide (4294967296 < n) = true := by simp; omega
    clear hn hmn
    go_enter Try.func88, Try.ntmps88
    go_wp2_with fail
    refine HC.out.mono ?_
    rintro e w1 ⟨rfl, hb, hr⟩
    have HB := Lib.hid hb
    clear hb hr
    go_wp2
    exact ⟨rfl, rfl, HB.out⟩
  · have HC := Lib.hid (rnum_no B p M last a len cap w h (fun n r hn e => hex ⟨n, r, hn, e⟩))
    clear h hno hex
    go_enter Try.func88, Try.ntmps88
    go_wp2_with fail
    refine HC.out.mono ?_
    rintro e w1 ⟨rfl, hb⟩
    exact ⟨rfl, rfl, hb⟩
end Go.Proofs.Ytfjddkjfkgdihaa
