/- Layers 3, 7: an access to a line is noted; passing words; whole parts.
   Layers 3, 7: passing words; rows of words that are alike.
   Layer 4: a word of the device.
   Layer 4, 7: a word put; a word peeked at.
   Layer 7: a word peeked at.
   Layer 7: a word put, lasting or passing.
   Layer 7: the functions that tell what an access puts.
   Layer 4: all is taken out of a set.
   Layer 4: a line is written back.
   A memory as a whole: what lies in it, and what of the heap it owns.
   DERIVED: THE SHELF's CONTRACTS AT THIS DUMP, IN PLAIN WORDS (tools/lay-plain.mjs out of 'TryzShelf2.lean', which tools/lay-shelf.mjs wrote): THE SAME DECLARATIONS UNDER THE SAME NAMES: 'import', 'namespace', 'open', 'def', 'theorem' AND NOTHING ELSE: no command of the shelf's: FOR A HAND-IN. Each laying: the table of numbers ('.._ren') and one theorem, a field a fact of the dump's own or the kernel's comparison; each contract: ONE APPLICATION. -/
import Derived.Test.YtkdcfijebgeajaaGreatJ2
import Derived.Ground.Names2Prog
import Derived.Shelf.Slices.SearchI
import Derived.Shelf.Slices.Empties
import Derived.Test.YtkdcfijebgeajaaGreatProg
namespace Go.Proofs.YtkdcfijebgeajaaGreat
open Go.RowKit Go.BigFrame
set_option linter.unusedVariables false
set_option linter.unusedSimpArgs false
theorem Noted.from {W W1 W' : World} {m : Nat} {dv pv : Value} {ck bd : Int} {x : Acc} {e : Ending} (h : Noted W1 m dv pv ck bd x e W') (hb : But m W W1) : Noted W m dv pv ck bd x e W' :=
  ⟨h.1, h.2.1, hb.trans h.2.2⟩
set_option maxRecDepth 100000 in
theorem line56 (m : Nat) (dv pv : Value) (ck bd : Int) (c0 : 0 ≤ ck) (c1 : ck ≤ 1000000) (b0 : 0 ≤ bd) (b1 : bd ≤ 1000000) (x0 x : Acc) (er : Int) (W : World) (h : MemRow W m dv pv ck bd x0) :
    Calls Tryz.prog 349 #[.pointer (some ⟨m, 0, none⟩), .agg x.cells, .int .i64 er] W (Noted W m dv pv ck (if er == 0 then bd else bd + 1) ⟨x.ki, x.th, x.pl, x.ol, x.ne, er == 0⟩) := by
  have hlt : m < W.heap.size := (Array.getElem?_eq_some_iff.1 h).1
  have HH := Lib.hid h
  clear h
  have H73 : Hid (∀ o, Calls Tryz.prog 171 #[.pointer (some ⟨m, 0, none⟩), .agg #[.int .i64 x.ki, .int .i64 x.th, .int .i64 x.pl, .int .u64 x.ol, .int .u64 x.ne, .bool (er == 0)], .bool (er == 0)] (W.alloc o) (Noted W m dv pv ck (if er == 0 then bd else bd + 1) ⟨x.ki, x.th, x.pl, x.ol, x.ne, er == 0⟩)) := Lib.hid fun o =>
    (count73 m dv pv ck bd c0 c1 b0 b1 x0 ⟨x.ki, x.th, x.pl, x.ol, x.ne, er == 0⟩ (er == 0) (W.alloc o) ((Below.heap_alloc _ _ _ hlt).trans HH.out)).mono fun e w hn => hn.from ((But.refl m W).alloc o)
  generalize (if er == 0 then bd else bd + 1) = bd' at *
  obtain ⟨y, hy⟩ : ∃ y, y = (⟨x.ki, x.th, x.pl, x.ol, x.ne, er == 0⟩ : Acc) := ⟨_, rfl⟩
  rw [← hy] at H73 ⊢
  clear hy
  simp only [Acc.cells]
  go_enter Tryz.func349, Tryz.ntmps349
  go_wp2_with fail
  refine (H73.out _).mono ?_
  rintro e w' hn
  obtain ⟨⟨v, rfl⟩, hr, hb⟩ := hn
  have HR := Lib.hid hr
  have HB := Lib.hid hb
  clear hr hb
  go_wp2_with fail
  go_end0
  exact ⟨⟨_, rfl⟩, HR.out, HB.out⟩
theorem whole49 (n : Nat) (hn : n ≤ 9223372036854775807) (w : World) : Calls Tryz.prog 146 #[.int .i64 n, .int .i64 8] w (Says (.int .i64 (if (n : Int) % 8 ≠ 0 then 3 else if 262144 < (n : Int) / 8 then 2 else 0)) w) := by
  have e1 : (n : Int).tdiv 8 = (n : Int) / 8 := Int.tdiv_eq_ediv_of_nonneg (by omega)
  have e2 : (n : Int).tmod 8 = (n : Int) % 8 := Int.tmod_eq_emod_of_nonneg (by omega)
  by_cases h3 : (n : Int) % 8 = 0
  · have d3 : ((n : Int) % 8 != 0) = false := by simp [h3]
    rw [if_neg (fun h => h h3)]
    by_cases h4 : 262144 < (n : Int) / 8
    · have d4 : decide (262144 < (n : Int) / 8) = true := bool_yes h4
      rw [if_pos h4]
      go_enter Tryz.func146, Tryz.ntmps146
      go_wp2_with fail
      go_ret
      exact ⟨rfl, rfl⟩
    · have d4 : decide (262144 < (n : Int) / 8) = false := bool_no h4
      rw [if_neg h4]
      go_enter Tryz.func146, Tryz.ntmps146
      go_wp2_with fail
      go_ret
      exact ⟨rfl, rfl⟩
  · have d3 : ((n : Int) % 8 != 0) = true := by simp [h3]
    rw [if_pos h3]
    go_enter Tryz.func146, Tryz.ntmps146
    go_wp2_with fail
    go_ret
    exact ⟨rfl, rfl⟩
end Go.Proofs.YtkdcfijebgeajaaGreat

namespace Go.Proofs.YtkdcfijebgeajaaGreat
open Go.RowKit Go.BigFrame
set_option linter.unusedVariables false
set_option linter.unusedSimpArgs false
/-- An answer; the world as it was but for draws. -/
def Tells (v : Value) (w : World) (e : Ending) (w' : World) : Prop := e = .returned v ∧ Below w.heap.size w w' ∧ w'.heap = w.heap
theorem pass46 (m : Nat) (a : Option Addr) (np cap : Nat) (hnp : np ≤ 262144) (at_ : Int) (q0 : -9223372036854775808 ≤ at_) (q1 : at_ ≤ 9223372036854775807) (w : World) (h : w.cell? ⟨m, 1, none⟩ = some (.slice a np cap)) :
    Calls Tryz.prog 218 #[.pointer (some ⟨m, 0, none⟩), .int .i64 at_] w (Tells (.tuple #[.int .i64 (-1 - at_), .bool (decide (at_ < 0 ∧ -1 - at_ < (np : Int)))]) w) := by
  have w1 : wrap64 (-1 - at_) = -1 - at_ := by unfold wrap64; omega
  by_cases h0 : at_ < 0
  · have d0 : decide (at_ < 0) = true := bool_yes h0
    rw [show decide (at_ < 0 ∧ -1 - at_ < (np : Int)) = decide (-1 - at_ < (np : Int)) by simp [h0]]
    go_enter Tryz.func218, Tryz.ntmps218
    go_wp2_with fail
    go_quiet (fail)
    go_wp2_with fail
    go_ret2
    exact ⟨rfl, ⟨rfl, rfl, rfl, Nat.le_refl _, fun _ _ => rfl⟩, rfl⟩
  · have d0 : decide (at_ < 0) = false := bool_no h0
    rw [show decide (at_ < 0 ∧ -1 - at_ < (np : Int)) = false by simp [h0]]
    go_enter Tryz.func218, Tryz.ntmps218
    go_wp2_with fail
    go_quiet (fail)
    go_wp2_with fail
    go_ret2
    exact ⟨rfl, ⟨rfl, rfl, rfl, Nat.le_refl _, fun _ _ => rfl⟩, rfl⟩
/-- Two rows of n words, alike. -/
def AlikeAt (W : World) (a b : Option Addr) (n : Nat) (l : Nat → Int) : Prop :=
  0 < n → ∃ g h, a = some ⟨g, 0, none⟩ ∧ b = some ⟨h, 0, none⟩ ∧ g < W.heap.size ∧ h < W.heap.size ∧ ∀ j, j < n → W.cell? ⟨g, j, none⟩ = some (.int .u64 (l j)) ∧ W.cell? ⟨h, j, none⟩ = some (.int .u64 (l j))
set_option maxRecDepth 100000 in
theorem same12 (a b : Option Addr) (n ca cb : Nat) (hn : n ≤ 2097152) (l : Nat → Int) (W : World) (h : AlikeAt W a b n l) :
    Calls Tryz.prog 29 #[.slice a n ca, .slice b n cb] W (Gives (.bool true) W) := by
  have HA := Lib.hid h
  clear h
  go_enter Tryz.func29, Tryz.ntmps29
  go_wp2_with fail
  go_loopw [5] (fun i wr => ∃ k : Nat, k ≤ n ∧ i = .int .i64 k ∧ Hid (Below W.heap.size W wr)) (fun i _ => n - (intOf i).toNat)
  case atStart => exact ⟨0, Nat.zero_le _, rfl, Lib.hid (Below.refl _ _)⟩
  case round =>
    obtain ⟨k, hk, rfl, HB⟩ := hrel
    by_cases hlt : k < n
    · obtain ⟨g, h, rfl, rfl, hg, hh, hc⟩ := HA.out (by omega)
      obtain ⟨x, y⟩ := hc k hlt
      have x' : wr.cell? ⟨g, k, none⟩ = some (.int .u64 (l k)) := (HB.out.cell (p := ⟨g, k, none⟩) hg).trans x
      have y' : wr.cell? ⟨h, k, none⟩ = some (.int .u64 (l k)) := (HB.out.cell (p := ⟨h, k, none⟩) hh).trans y
      have e1 : decide ((k : Int) < (n : Int)) = true := by simp; omega
      have e2 : (0 : Int) ≤ (k : Int) := by omega
      have e3 : (k : Int) < (n : Int) := by omega
      clear hc x y
      generalize l k = v at *
      go_wp2_with fail
      go_quiet (fail)
      go_wp2_with fail
      go_roundw
      case rel => exact ⟨k + 1, by omega, by go_num, Lib.hid (HB.out.trans ⟨rfl, rfl, rfl, Nat.le_refl _, fun _ _ => rfl⟩)⟩
      case measure => simp [intOf]; omega
    · obtain rfl : k = n := by omega
      have e1 : decide ((k : Int) < (k : Int)) = false := by simp
      go_wp2_with fail
      go_ret
      exact ⟨rfl, HB.out⟩
end Go.Proofs.YtkdcfijebgeajaaGreat

namespace Go.Proofs.YtkdcfijebgeajaaGreat
open Go.RowKit Go.BigFrame
set_option linter.unusedVariables false
set_option linter.unusedSimpArgs false
theorem load45_no (d : Nat) (a : Option Addr) (n cap : Nat) (hn : n ≤ 262144) (at_ : Int) (q1 : at_ ≤ 9223372036854775807) (w : World) (h : w.cell? ⟨d, 1, none⟩ = some (.slice a n cap)) (he : wordE n at_ = 5) :
    Calls Tryz.prog 217 #[.pointer (some ⟨d, 0, none⟩), .int .i64 at_] w (Says (.tuple #[.int .u64 0, .int .i64 5]) w) := by
  have HW := Lib.hid (word59 d a n cap hn at_ q1 w h)
  rw [he] at HW
  clear he
  go_enter Tryz.func217, Tryz.ntmps217
  go_wp2_with fail
  refine HW.out.mono ?_
  rintro e w' ⟨rfl, hw⟩
  cases hw
  go_wp2_with fail
  go_ret2
  exact ⟨rfl, rfl⟩
theorem load45_yes (d s : Nat) (n cap : Nat) (hn : n ≤ 262144) (k : Nat) (hk : k / 8 < n) (v : Int) (w : World) (h : w.cell? ⟨d, 1, none⟩ = some (.slice (some ⟨s, 0, none⟩) n cap)) (hv : w.cell? ⟨s, k, none⟩ = some (.int .u64 v)) :
    Calls Tryz.prog 217 #[.pointer (some ⟨d, 0, none⟩), .int .i64 k] w (Says (.tuple #[.int .u64 v, .int .i64 0]) w) := by
  have HW := Lib.hid (word59 d (some ⟨s, 0, none⟩) n cap hn k (by omega) w h)
  rw [show wordE n (k : Int) = 0 by rw [wordE, if_neg (by omega)]] at HW
  have e1 : (k : Int).tdiv 8 = ((k / 8 : Nat) : Int) := by rw [Int.tdiv_eq_ediv_of_nonneg (by omega)]; omega
  have e2 : (k : Int).tmod 8 = ((k % 8 : Nat) : Int) := by rw [Int.tmod_eq_emod_of_nonneg (by omega)]; omega
  have e3 : (k : Int) / 8 = ((k / 8 : Nat) : Int) := by omega
  have e4 : (k : Int) % 8 = ((k % 8 : Nat) : Int) := by omega
  obtain ⟨i, hi⟩ : ∃ i, i = k / 8 := ⟨_, rfl⟩
  obtain ⟨r, hr⟩ : ∃ r, r = k % 8 := ⟨_, rfl⟩
  have hv' : w.cell? ⟨s, i * 8 + r, none⟩ = some (.int .u64 v) := by rw [show i * 8 + r = k by omega]; exact hv
  rw [← hi] at e1 e3 hk
  rw [← hr] at e2 e4
  have f1 : (0 : Int) ≤ (i : Int) := by omega
  have f2 : (i : Int) < (n : Int) := by omega
  have f3 : (0 : Int) ≤ (r : Int) := by omega
  have f4 : (r : Int) < 8 := by omega
  have f5 : r < 8 := by omega
  clear hi hr hv
  go_enter Tryz.func217, Tryz.ntmps217
  go_wp2_with fail
  refine HW.out.mono ?_
  rintro e w' ⟨rfl, hw⟩
  cases hw
  go_wp2_with fail
  go_ret2
  exact ⟨rfl, rfl⟩
end Go.Proofs.YtkdcfijebgeajaaGreat

namespace Go.Proofs.YtkdcfijebgeajaaGreat
open Go.RowKit Go.BigFrame
set_option linter.unusedVariables false
set_option linter.unusedSimpArgs false
theorem store85_yes (d s : Nat) (n cap : Nat) (hn : n ≤ 262144) (k : Nat) (hk : k / 8 < n) (v u : Int) (w : World) (h : w.cell? ⟨d, 1, none⟩ = some (.slice (some ⟨s, 0, none⟩) n cap)) (hv : w.cell? ⟨s, k, none⟩ = some (.int .u64 u)) (hf : ∀ j, w.frozen? ⟨s, j, none⟩ = false) :
    Calls Tryz.prog 219 #[.pointer (some ⟨d, 0, none⟩), .int .i64 k, .int .u64 v] w fun e w' => e = .returned (.int .i64 0) ∧ w' = w.setCell ⟨s, k, none⟩ (.int .u64 v) := by
  have HW := Lib.hid (word59 d (some ⟨s, 0, none⟩) n cap hn k (by omega) w h)
  rw [show wordE n (k : Int) = 0 by rw [wordE, if_neg (by omega)]] at HW
  have e1 : (k : Int).tdiv 8 = ((k / 8 : Nat) : Int) := by rw [Int.tdiv_eq_ediv_of_nonneg (by omega)]; omega
  have e2 : (k : Int).tmod 8 = ((k % 8 : Nat) : Int) := by rw [Int.tmod_eq_emod_of_nonneg (by omega)]; omega
  have e3 : (k : Int) / 8 = ((k / 8 : Nat) : Int) := by omega
  have e4 : (k : Int) % 8 = ((k % 8 : Nat) : Int) := by omega
  obtain ⟨i, hi⟩ : ∃ i, i = k / 8 := ⟨_, rfl⟩
  obtain ⟨r, hr⟩ : ∃ r, r = k % 8 := ⟨_, rfl⟩
  have hir : i * 8 + r = k := by omega
  have hv' : w.cell? ⟨s, i * 8 + r, none⟩ = some (.int .u64 u) := by rw [hir]; exact hv
  have HIR := Lib.hid hir
  rw [← hi] at e1 e3 hk
  rw [← hr] at e2 e4
  have f1 : (0 : Int) ≤ (i : Int) := by omega
  have f2 : (i : Int) < (n : Int) := by omega
  have f3 : (0 : Int) ≤ (r : Int) := by omega
  have f4 : (r : Int) < 8 := by omega
  have f5 : r < 8 := by omega
  clear hi hr hv hir
  rw [← HIR.out]
  rw [HIR.out]
  go_enter Tryz.func219, Tryz.ntmps219
  go_wp2_with fail
  refine HW.out.mono ?_
  rintro e w' ⟨rfl, hw⟩
  cases hw
  go_wp2_with fail
  go_ret
  exact ⟨rfl, by rw [HIR.out]⟩
end Go.Proofs.YtkdcfijebgeajaaGreat

namespace Go.Proofs.YtkdcfijebgeajaaGreat
open Go.RowKit Go.BigFrame
set_option linter.unusedVariables false
set_option linter.unusedSimpArgs false
/-- What a memory's words are: n lines that are seen, np passing words. -/
structure WordsAt (W : World) (m d s n cap : Nat) (pa : Option Addr) (np pc : Nat) (seen pass : Nat → Int) : Prop where
  dv : W.cell? ⟨m, 0, none⟩ = some (.pointer (some ⟨d, 0, none⟩))
  ps : W.cell? ⟨m, 1, none⟩ = some (.slice pa np pc)
  sn : W.cell? ⟨d, 1, none⟩ = some (.slice (some ⟨s, 0, none⟩) n cap)
  sw : ∀ k, k / 8 < n → W.cell? ⟨s, k, none⟩ = some (.int .u64 (seen k))
  pw : 0 < np → ∃ g, pa = some ⟨g, 0, none⟩ ∧ ∀ k, k < np → W.cell? ⟨g, k, none⟩ = some (.int .u64 (pass k))
/-- What is at a word, and whether there is one. -/
def peekV (n np : Nat) (seen pass : Nat → Int) (at_ : Int) : Int × Bool :=
  if 0 ≤ at_ then (if at_ / 8 < (n : Int) then (seen at_.toNat, true) else (0, false))
  else if -1 - at_ < (np : Int) then (pass (-1 - at_).toNat, true) else (0, false)
theorem cell_same {w w' : World} (h : w'.heap = w.heap) (a : Addr) : w'.cell? a = w.cell? a := by unfold World.cell?; rw [h]
set_option maxRecDepth 100000 in
theorem peek29 (m d s n cap : Nat) (hn : n ≤ 262144) (pa : Option Addr) (np pc : Nat) (hnp : np ≤ 262144) (seen pass : Nat → Int) (at_ : Int) (q0 : -9223372036854775808 ≤ at_) (q1 : at_ ≤ 9223372036854775807) (w : World) (h : WordsAt w m d s n cap pa np pc seen pass) :
    Calls Tryz.prog 169 #[.pointer (some ⟨m, 0, none⟩), .int .i64 at_] w (Tells (.tuple #[.int .u64 (peekV n np seen pass at_).1, .bool (peekV n np seen pass at_).2]) w) := by
  have x0 := h.dv
  have x1 := h.ps
  have HH := Lib.hid h
  clear h
  by_cases h0 : 0 ≤ at_
  · have d0 : decide (0 ≤ at_) = true := bool_yes h0
    by_cases h1 : at_ / 8 < (n : Int)
    · have HL := Lib.hid (load45_yes d s n cap hn at_.toNat (by omega) (seen at_.toNat) w HH.out.sn (HH.out.sw _ (by omega)))
      rw [show ((at_.toNat : Nat) : Int) = at_ by omega] at HL
      rw [show peekV n np seen pass at_ = (seen at_.toNat, true) by rw [peekV, if_pos h0, if_pos h1]]
      generalize seen at_.toNat = v at *
      go_enter Tryz.func169, Tryz.ntmps169
      go_wp2_with fail
      refine HL.out.mono ?_
      rintro e w' ⟨rfl, hw⟩
      cases hw
      go_wp2_with fail
      go_ret2
      exact ⟨rfl, Below.refl _ _, rfl⟩
    · have HL := Lib.hid (load45_no d (some ⟨s, 0, none⟩) n cap hn at_ q1 w HH.out.sn (by rw [wordE, if_pos (by omega)]))
      rw [show peekV n np seen pass at_ = (0, false) by rw [peekV, if_pos h0, if_neg h1]]
      go_enter Tryz.func169, Tryz.ntmps169
      go_wp2_with fail
      refine HL.out.mono ?_
      rintro e w' ⟨rfl, hw⟩
      cases hw
      go_wp2_with fail
      go_ret2
      exact ⟨rfl, Below.refl _ _, rfl⟩
  · have d0 : decide (0 ≤ at_) = false := bool_no h0
    have HP := Lib.hid (pass46 m pa np pc hnp at_ q0 q1 w x1)
    by_cases h1 : -1 - at_ < (np : Int)
    · rw [show decide (at_ < 0 ∧ -1 - at_ < (np : Int)) = true from bool_yes ⟨by omega, h1⟩] at HP
      obtain ⟨g, hg, hc⟩ := HH.out.pw (by omega)
      have hc1 := hc (-1 - at_).toNat (by omega)
      rw [show peekV n np seen pass at_ = (pass (-1 - at_).toNat, true) by rw [peekV, if_neg h0, if_pos h1]]
      generalize pass (-1 - at_).toNat = v at *
      subst hg
      obtain ⟨k, hk⟩ := Int.eq_ofNat_of_zero_le (show 0 ≤ -1 - at_ by omega)
      rw [hk] at HP hc1
      have hc2 : w.cell? ⟨g, k, none⟩ = some (.int .u64 v) := hc1
      have f1 : (0 : Int) ≤ (k : Int) := by omega
      have f2 : (k : Int) < (np : Int) := by omega
      clear hc hc1 hk
      go_enter Tryz.func169, Tryz.ntmps169
      go_wp2_with fail
      refine HP.out.mono ?_
      rintro e w1 ⟨rfl, hb, hh⟩
      have c1 : w1.cell? ⟨m, 1, none⟩ = some (.slice (some ⟨g, 0, none⟩) np pc) := (cell_same hh _).trans x1
      have c2 : w1.cell? ⟨g, k, none⟩ = some (.int .u64 v) := (cell_same hh _).trans hc2
      have HB := Lib.hid hb
      have HHH := Lib.hid hh
      clear hb hh
      go_wp2_with fail
      go_ret2
      exact ⟨rfl, HB.out, HHH.out⟩
    · rw [show decide (at_ < 0 ∧ -1 - at_ < (np : Int)) = false from bool_no (by omega)] at HP
      rw [show peekV n np seen pass at_ = (0, false) by rw [peekV, if_neg h0, if_neg h1]]
      go_enter Tryz.func169, Tryz.ntmps169
      go_wp2_with fail
      refine HP.out.mono ?_
      rintro e w1 ⟨rfl, hb, hh⟩
      have HB := Lib.hid hb
      have HHH := Lib.hid hh
      clear hb hh
      go_wp2_with fail
      go_ret2
      exact ⟨rfl, HB.out, HHH.out⟩
end Go.Proofs.YtkdcfijebgeajaaGreat

namespace Go.Proofs.YtkdcfijebgeajaaGreat
open Go.RowKit Go.BigFrame
set_option linter.unusedVariables false
set_option linter.unusedSimpArgs false
/-- A cell is put, but for draws. -/
def Puts (b j : Nat) (v : Int) (w : World) (e : Ending) (w' : World) : Prop := (∃ x, e = .returned x) ∧ ∃ w1, w1.heap = w.heap ∧ Below w.heap.size w w1 ∧ w' = w1.setCell ⟨b, j, none⟩ (.int .u64 v)
set_option maxRecDepth 100000 in
theorem put72_seen (m d s n cap : Nat) (hn : n ≤ 262144) (pa : Option Addr) (np pc : Nat) (seen pass : Nat → Int) (k : Nat) (hk : k / 8 < n) (v : Int) (w : World) (h : WordsAt w m d s n cap pa np pc seen pass) (hf : ∀ j, w.frozen? ⟨s, j, none⟩ = false) :
    Calls Tryz.prog 170 #[.pointer (some ⟨m, 0, none⟩), .int .i64 k, .int .u64 v] w (Puts s k v w) := by
  have x0 := h.dv
  have HL := Lib.hid (store85_yes d s n cap hn k hk v (seen k) w h.sn (h.sw k hk) hf)
  have d0 : decide ((0 : Int) ≤ (k : Int)) = true := bool_yes (by omega)
  clear h hf hk
  go_enter Tryz.func170, Tryz.ntmps170
  go_wp2_with fail
  refine HL.out.mono ?_
  rintro e w' ⟨rfl, hw⟩
  have HW := Lib.hid hw
  clear hw
  go_wp2_with fail
  go_end0
  exact ⟨⟨_, rfl⟩, w, rfl, Below.refl _ _, HW.out⟩
set_option maxRecDepth 100000 in
theorem put72_pass (m d s n cap : Nat) (g np pc : Nat) (hnp : np ≤ 262144) (seen pass : Nat → Int) (k : Nat) (hk : k < np) (v : Int) (w : World) (h : WordsAt w m d s n cap (some ⟨g, 0, none⟩) np pc seen pass) (hf : ∀ j, w.frozen? ⟨g, j, none⟩ = false) :
    Calls Tryz.prog 170 #[.pointer (some ⟨m, 0, none⟩), .int .i64 (-1 - (k : Int)), .int .u64 v] w (Puts g k v w) := by
  have x1 := h.ps
  have HP := Lib.hid (pass46 m (some ⟨g, 0, none⟩) np pc hnp (-1 - (k : Int)) (by omega) (by omega) w x1)
  rw [show decide (-1 - (k : Int) < 0 ∧ -1 - (-1 - (k : Int)) < (np : Int)) = true from bool_yes (by omega), show (-1 - (-1 - (k : Int)) : Int) = k by omega] at HP
  obtain ⟨g', hg, hc⟩ := h.pw (by omega)
  cases hg
  have hc2 := hc k hk
  generalize pass k = u at *
  have f1 : (0 : Int) ≤ (k : Int) := by omega
  have f2 : (k : Int) < (np : Int) := by omega
  have d0 : decide ((0 : Int) ≤ -1 - (k : Int)) = false := bool_no (by omega)
  have HF := Lib.hid hf
  clear h hc hf
  generalize (-1 - (k : Int)) = at_ at *
  go_enter Tryz.func170, Tryz.ntmps170
  go_wp2_with fail
  refine HP.out.mono ?_
  rintro e w1 ⟨rfl, hb, hh⟩
  have c1 : w1.cell? ⟨m, 1, none⟩ = some (.slice (some ⟨g, 0, none⟩) np pc) := (cell_same hh _).trans x1
  have c2 : w1.cell? ⟨g, k, none⟩ = some (.int .u64 u) := (cell_same hh _).trans hc2
  have c3 : w1.frozen? ⟨g, k, none⟩ = false := by have := HF.out k; unfold World.frozen? at this ⊢; rw [hh]; exact this
  have HB := Lib.hid hb
  have HHH := Lib.hid hh
  clear hb hh
  go_wp2_with fail
  go_end0
  exact ⟨⟨_, rfl⟩, w1, HHH.out, HB.out, rfl⟩
end Go.Proofs.YtkdcfijebgeajaaGreat

namespace Go.Proofs.YtkdcfijebgeajaaGreat
open Go.RowKit Go.BigFrame
set_option linter.unusedVariables false
set_option linter.unusedSimpArgs false
theorem loads53 (x : Int) (w : World) : Calls Tryz.prog 215 #[.int .u64 x] w (Tells (.tuple #[.int .u64 0, .bool false]) w) := by
  go_enter Tryz.func215, Tryz.ntmps215
  go_wp2_with fail
  go_ret2
  exact ⟨rfl, Below.refl _ _, rfl⟩
theorem stores54 (x v : Int) (b : Nat) (w : World) (h : w.cell? ⟨b, 0, none⟩ = some (.int .u64 v)) : Calls Tryz.prog 110 #[.int .u64 x, .pointer (some ⟨b, 0, none⟩)] w (Tells (.tuple #[.int .u64 v, .bool true]) w) := by
  go_enter Tryz.func110, Tryz.ntmps110
  go_wp2_with fail
  go_ret2
  exact ⟨rfl, Below.refl _ _, rfl⟩
theorem swaps55 (x v o : Int) (b c : Nat) (w : World) (h : w.cell? ⟨b, 0, none⟩ = some (.int .u64 v)) (k : w.cell? ⟨c, 0, none⟩ = some (.int .u64 o)) :
    Calls Tryz.prog 354 #[.int .u64 x, .pointer (some ⟨b, 0, none⟩), .pointer (some ⟨c, 0, none⟩)] w (Tells (.tuple #[.int .u64 v, .bool (x == o)]) w) := by
  go_enter Tryz.func354, Tryz.ntmps354
  go_wp2_with fail
  go_quiet (fail)
  go_wp2_with fail
  go_ret2
  exact ⟨rfl, ⟨rfl, rfl, rfl, Nat.le_refl _, fun _ _ => rfl⟩, rfl⟩
end Go.Proofs.YtkdcfijebgeajaaGreat

namespace Go.Proofs.YtkdcfijebgeajaaGreat
open Go.RowKit Go.BigFrame
set_option linter.unusedVariables false
set_option linter.unusedSimpArgs false
theorem take77 (f t : Nat) (a : Option Addr) (n cap : Nat) (w : World) (h : w.cell? ⟨f, t, none⟩ = some (.slice a n cap)) (hf : w.frozen? ⟨f, t, none⟩ = false) :
    Calls Tryz.prog 227 #[.pointer (some ⟨f, t, none⟩)] w fun e w' => e = .returned (.slice a n cap) ∧ w' = w.setCell ⟨f, t, none⟩ (.slice none 0 0) := by
  go_enter Tryz.func227, Tryz.ntmps227
  go_wp2_with fail
  go_ret
  exact ⟨rfl, rfl⟩
end Go.Proofs.YtkdcfijebgeajaaGreat

namespace Go.Proofs.YtkdcfijebgeajaaGreat
open Go.RowKit Go.BigFrame
set_option linter.unusedVariables false
set_option linter.unusedSimpArgs false
/-- Eight words from one place on. -/
def Eight (W : World) (b o : Nat) (l : Nat → Int) : Prop := ∀ r, r < 8 → W.cell? ⟨b, o + r, none⟩ = some (.int .u64 (l r))
theorem Eight.cells {W : World} {b o : Nat} {l : Nat → Int} (h : Eight W b o l) : W.cell? ⟨b, o, none⟩ = some (.int .u64 (l 0)) ∧ W.cell? ⟨b, o + 1, none⟩ = some (.int .u64 (l 1)) ∧ W.cell? ⟨b, o + 2, none⟩ = some (.int .u64 (l 2)) ∧ W.cell? ⟨b, o + 3, none⟩ = some (.int .u64 (l 3)) ∧
    W.cell? ⟨b, o + 4, none⟩ = some (.int .u64 (l 4)) ∧ W.cell? ⟨b, o + 5, none⟩ = some (.int .u64 (l 5)) ∧ W.cell? ⟨b, o + 6, none⟩ = some (.int .u64 (l 6)) ∧ W.cell? ⟨b, o + 7, none⟩ = some (.int .u64 (l 7)) :=
  ⟨h 0 (by omega), h 1 (by omega), h 2 (by omega), h 3 (by omega), h 4 (by omega), h 5 (by omega), h 6 (by omega), h 7 (by omega)⟩
/-- Eight words put, from one place on. -/
def put8 (w : World) (b o : Nat) (l : Nat → Int) : World :=
  (((((((w.setCell ⟨b, o, none⟩ (.int .u64 (l 0))).setCell ⟨b, o + 1, none⟩ (.int .u64 (l 1))).setCell ⟨b, o + 2, none⟩ (.int .u64 (l 2))).setCell ⟨b, o + 3, none⟩ (.int .u64 (l 3))).setCell ⟨b, o + 4, none⟩ (.int .u64 (l 4))).setCell ⟨b, o + 5, none⟩ (.int .u64 (l 5))).setCell ⟨b, o + 6, none⟩ (.int .u64 (l 6))).setCell ⟨b, o + 7, none⟩ (.int .u64 (l 7))
theorem put8_heap {w : World} {b o g : Nat} {l : Nat → Int} (h : g ≠ b) : (put8 w b o l).heap[g]? = w.heap[g]? := by
  unfold put8
  rw [heap_set_other h, heap_set_other h, heap_set_other h, heap_set_other h, heap_set_other h, heap_set_other h, heap_set_other h, heap_set_other h]
/-- But for draws. -/
def Draws (w w1 : World) : Prop := w1.heap = w.heap ∧ Below w.heap.size w w1
set_option maxRecDepth 100000 in
set_option maxHeartbeats 1000000 in
theorem back78 (d kb sb wb : Nat) (n ck cs cw : Nat) (hn : n ≤ 262144) (i : Nat) (hi : i < n) (lk ls : Nat → Int) (c : Int) (c0 : 0 ≤ c) (c1 : c ≤ 1000000) (w : World)
    (h0 : w.cell? ⟨d, 0, none⟩ = some (.slice (some ⟨kb, 0, none⟩) n ck)) (h1 : w.cell? ⟨d, 1, none⟩ = some (.slice (some ⟨sb, 0, none⟩) n cs)) (h2 : w.cell? ⟨d, 2, none⟩ = some (.slice (some ⟨wb, 0, none⟩) n cw))
    (hk : Eight w kb (i * 8) lk) (hs : Eight w sb (i * 8) ls) (hw : w.cell? ⟨wb, i, none⟩ = some (.int .i64 c)) (fk : ∀ j, w.frozen? ⟨kb, j, none⟩ = false) (fw : ∀ j, w.frozen? ⟨wb, j, none⟩ = false) (e1 : kb ≠ d) (e2 : wb ≠ kb) (e3 : wb ≠ d) (e4 : sb ≠ kb) :
    Calls Tryz.prog 132 #[.pointer (some ⟨d, 0, none⟩), .int .i64 i] w fun e w' => (∃ x, e = .returned x) ∧ ∃ w1, Draws (put8 w kb (i * 8) ls) w1 ∧ w' = w1.setCell ⟨wb, i, none⟩ (.int .i64 (c + 1)) := by
  obtain ⟨k0, k1, k2, k3, k4, k5, k6, k7⟩ := hk.cells
  obtain ⟨s0, s1, s2, s3, s4, s5, s6, s7⟩ := hs.cells
  have f1 : (0 : Int) ≤ (i : Int) := by omega
  have f2 : (i : Int) < (n : Int) := by omega
  clear hk hs
  go_enter Tryz.func132, Tryz.ntmps132
  go_wp2_with fail
  go_region
  obtain ⟨W, hW⟩ : ∃ W, W = put8 w kb (i * 8) ls := ⟨_, rfl⟩
  have g2 : W.cell? ⟨d, 2, none⟩ = some (.slice (some ⟨wb, 0, none⟩) n cw) := by rw [hW]; exact (cell_of_heap (put8_heap (Ne.symm e1)) 2).trans h2
  have gw : W.cell? ⟨wb, i, none⟩ = some (.int .i64 c) := by rw [hW]; exact (cell_of_heap (put8_heap e2) i).trans hw
  have gf : W.frozen? ⟨wb, i, none⟩ = false := by rw [hW]; exact (frozen_of_heap (put8_heap e2) i).trans (fw i)
  have HW := Lib.hid hW
  simp only [put8] at hW
  rw [← hW]
  clear hW k0 k1 k2 k3 k4 k5 k6 k7 s0 s1 s2 s3 s4 s5 s6 s7 h0 h1 h2 hw fk fw
  go_wp2_with fail
  go_end0
  exact ⟨⟨_, rfl⟩, W.drew, ⟨show W.heap = _ from congrArg World.heap HW.out, by rw [← HW.out]; exact ⟨rfl, rfl, rfl, Nat.le_refl _, fun _ _ => rfl⟩⟩, rfl⟩
end Go.Proofs.YtkdcfijebgeajaaGreat

namespace Go.Proofs.YtkdcfijebgeajaaGreat
open Go.RowKit Go.BigFrame
set_option linter.unusedVariables false
set_option linter.unusedSimpArgs false
theorem enters_at {P : Program} {f : FuncId} {fn : Func} {c : Code} (hf : P.funcs[f]? = some fn) (hname : (fn.name == "runtime.NumGoroutine") = false) (hb : fn.body = some c) (args : Array Value) (w : World) :
    (callFunc f args).run P w = .ok (.enter f args) w := by
  have h1 : fn.name ≠ "runtime.NumGoroutine" := by simpa using hname
  simp [callFunc, hf, h1, hb]
/-- A function with one place turned. -/
def upd {α : Type} (f : Nat → α) (j : Nat) (v : α) : Nat → α := fun k => if k = j then v else f k
theorem upd_at {α : Type} (f : Nat → α) (j : Nat) (v : α) : upd f j v j = v := by simp [upd]
theorem upd_ne {α : Type} (f : Nat → α) {j k : Nat} (v : α) (h : k ≠ j) : upd f j v k = f k := by simp [upd, h]
theorem upd_map {α β : Type} (g : α → β) (f : Nat → α) (j : Nat) (v : α) : (fun k => g (upd f j v k)) = upd (fun k => g (f k)) j (g v) := by
  funext k; unfold upd; split <;> rfl
/-- A block whose first n cells are told, none of it frozen. -/
def RowAt (W : World) (b n : Nat) (f : Nat → Value) : Prop := ∃ c t, W.heap[b]? = some (.cells c t (0, 0)) ∧ ∀ k, k < n → c[k]? = some (f k)
theorem RowAt.lt {W : World} {b n : Nat} {f : Nat → Value} (h : RowAt W b n f) : b < W.heap.size := by
  obtain ⟨c, t, h1, _⟩ := h; exact (Array.getElem?_eq_some_iff.1 h1).1
theorem RowAt.cell {W : World} {b n : Nat} {f : Nat → Value} (h : RowAt W b n f) {k : Nat} (hk : k < n) : W.cell? ⟨b, k, none⟩ = some (f k) := by
  obtain ⟨c, t, h1, h2⟩ := h
  rw [cell_of_row _ _ k _ _ _ h1]; exact h2 k hk
theorem RowAt.free {W : World} {b n : Nat} {f : Nat → Value} (h : RowAt W b n f) (j : Nat) : W.frozen? ⟨b, j, none⟩ = false := by
  obtain ⟨c, t, h1, h2⟩ := h
  unfold World.frozen?; rw [h1]; simp
theorem RowAt.keep {W W' : World} {b n : Nat} {f : Nat → Value} (h : RowAt W b n f) (e : W'.heap[b]? = W.heap[b]?) : RowAt W' b n f := by
  obtain ⟨c, t, h1, h2⟩ := h; exact ⟨c, t, e.trans h1, h2⟩
theorem RowAt.set {W : World} {b n : Nat} {f : Nat → Value} (h : RowAt W b n f) (j : Nat) (v : Value) : RowAt (W.setCell ⟨b, j, none⟩ v) b n (upd f j v) := by
  obtain ⟨c, t, h1, h2⟩ := h
  refine ⟨_, t, heap_set v h1, fun k hk => ?_⟩
  rw [Array.getElem?_setIfInBounds]
  have hk' : k < c.size := (Array.getElem?_eq_some_iff.1 (h2 k hk)).1
  by_cases e : k = j
  · subst e; simp [upd, hk']
  · rw [if_neg (Ne.symm e), upd_ne _ _ e]; exact h2 k hk
theorem RowAt.mono {W : World} {b n m : Nat} {f : Nat → Value} (h : RowAt W b n f) (hm : m ≤ n) : RowAt W b m f := by
  obtain ⟨c, t, h1, h2⟩ := h; exact ⟨c, t, h1, fun k hk => h2 k (by omega)⟩
theorem RowAt.congr {W : World} {b n : Nat} {f g : Nat → Value} (h : RowAt W b n f) (e : ∀ k, k < n → f k = g k) : RowAt W b n g := by
  obtain ⟨c, t, h1, h2⟩ := h; exact ⟨c, t, h1, fun k hk => by rw [← e k hk]; exact h2 k hk⟩
/-- Nothing but the blocks of F has turned. -/
structure Turn (F : Nat → Prop) (w w' : World) : Prop where
  os : w'.os = w.os
  tape : w'.tape = w.tape
  output : w'.output = w.output
  size : w.heap.size ≤ w'.heap.size
  block : ∀ k, k < w.heap.size → ¬ F k → w'.heap[k]? = w.heap[k]?
theorem Turn.refl (F : Nat → Prop) (w : World) : Turn F w w := ⟨rfl, rfl, rfl, Nat.le_refl _, fun _ _ _ => rfl⟩
theorem Turn.trans {F G : Nat → Prop} {x y z : World} (h : Turn F x y) (k : Turn G y z) (hs : ∀ i, i < x.heap.size → G i → F i) : Turn F x z :=
  ⟨k.os.trans h.os, k.tape.trans h.tape, k.output.trans h.output, Nat.le_trans h.size k.size, fun i hi h1 => (k.block i (Nat.lt_of_lt_of_le hi h.size) (fun g => h1 (hs i hi g))).trans (h.block i hi h1)⟩
theorem Turn.mono {F G : Nat → Prop} {x y : World} (h : Turn F x y) (hs : ∀ i, i < x.heap.size → F i → G i) : Turn G x y :=
  ⟨h.os, h.tape, h.output, h.size, fun i hi h1 => h.block i hi fun f => h1 (hs i hi f)⟩
theorem Turn.of_below {F : Nat → Prop} {w w' : World} (h : Below w.heap.size w w') : Turn F w w' := ⟨h.os, h.tape, h.output, h.size, fun k hk _ => h.block k hk⟩
theorem Turn.of_but {F : Nat → Prop} {p : Nat} {w w' : World} (h : But p w w') (hp : p < w.heap.size → F p) : Turn F w w' :=
  ⟨h.os, h.tape, h.output, h.size, fun k hk hf => h.block k hk fun e => hf (by rw [e]; rw [e] at hk; exact hp hk)⟩
theorem Turn.alloc {F : Nat → Prop} {a w : World} (h : Turn F a w) (o : Obj) : Turn F a (w.alloc o) :=
  ⟨h.os, h.tape, h.output, Nat.le_trans h.size (by simp), fun k hk hb => by rw [Below.heap_alloc _ _ _ (Nat.lt_of_lt_of_le hk h.size)]; exact h.block k hk hb⟩
theorem Turn.set {F : Nat → Prop} {a w : World} (h : Turn F a w) {b : Nat} (hb : b < a.heap.size → F b) (j : Nat) (v : Value) : Turn F a (w.setCell ⟨b, j, none⟩ v) :=
  ⟨h.os, h.tape, h.output, by simpa [World.setCell] using h.size, fun k hk hf => by rw [heap_set_other (fun e => hf (by rw [e]; rw [e] at hk; exact hb hk))]; exact h.block k hk hf⟩
theorem Turn.below {F : Nat → Prop} {B : Nat} {w w' : World} (h : Turn F w w') (hB : B ≤ w.heap.size) (hf : ∀ k, k < B → ¬ F k) : Below B w w' :=
  ⟨h.os, h.tape, h.output, h.size, fun k hk => h.block k (by omega) (hf k hk)⟩
/-- A slice of whole numbers, its own row of cells behind it, or none. -/
def LstAt (W : World) (v : Value) (l : List Int) : Prop :=
  v = .slice none 0 0 ∧ l = [] ∨
  ∃ g cap c, v = .slice (some ⟨g, 0, none⟩) l.length cap ∧ W.heap[g]? = some (.cells c 3 (0, 0)) ∧ l.length ≤ cap ∧ cap ≤ 9223372036854775807 ∧ cap ≤ c.size ∧ 0 < c.size ∧ ∀ k, k < l.length → c[k]? = some (.int .i64 (l.getD k 0))
theorem LstAt.keep {W W' : World} {v : Value} {l : List Int} (h : LstAt W v l) (e : ∀ g, v.ownBlock = some g → W'.heap[g]? = W.heap[g]?) : LstAt W' v l := by
  rcases h with h | ⟨g, cap, c, rfl, h1, h2⟩
  · exact Or.inl h
  · exact Or.inr ⟨g, cap, c, rfl, (e g rfl).trans h1, h2⟩
theorem LstAt.lt {W : World} {v : Value} {l : List Int} (h : LstAt W v l) {g : Nat} (e : v.ownBlock = some g) : g < W.heap.size := by
  rcases h with ⟨rfl, _⟩ | ⟨g', cap, c, rfl, h1, h2⟩
  · cases e
  · cases e; exact (Array.getElem?_eq_some_iff.1 h1).1
/-- A memory: its blocks, how many lines, threads and passing words it has, what its words are, how often each line was written back, what each thread flushes, the clock, the bad ones, the last access, and a number that no line was written back more often than. -/
structure Mv where
  m : Nat
  d : Nat
  kb : Nat
  sb : Nat
  wb : Nat
  fb : Nat
  pb : Nat
  n : Nat
  nt : Nat
  np : Nat
  c0 : Nat
  c1 : Nat
  c2 : Nat
  c3 : Nat
  c4 : Nat
  kept : Nat → Int
  seen : Nat → Int
  pass : Nat → Int
  wr : Nat → Int
  fl : Nat → List Int
  fv : Nat → Value
  ck : Int
  bd : Int
  la : Acc
  wm : Int
def Mv.blocks (M : Mv) : List Nat := [M.m, M.d, M.kb, M.sb, M.wb, M.fb, M.pb]
/-- The blocks that a memory owns. -/
def Mv.own (M : Mv) (k : Nat) : Prop := k ∈ M.blocks ∨ ∃ t, t < M.nt ∧ (M.fv t).ownBlock = some k
structure MemAt (W : World) (M : Mv) : Prop where
  row : MemRow W M.m (.pointer (some ⟨M.d, 0, none⟩)) (.slice (some ⟨M.pb, 0, none⟩) M.np M.c4) M.ck M.bd M.la
  dev : W.heap[M.d]? = some (.cells #[.slice (some ⟨M.kb, 0, none⟩) M.n M.c0, .slice (some ⟨M.sb, 0, none⟩) M.n M.c1, .slice (some ⟨M.wb, 0, none⟩) M.n M.c2, .slice (some ⟨M.fb, 0, none⟩) M.nt M.c3] 160 (0, 0))
  kept : RowAt W M.kb (8 * M.n) fun k => .int .u64 (M.kept k)
  seen : RowAt W M.sb (8 * M.n) fun k => .int .u64 (M.seen k)
  wr : RowAt W M.wb M.n fun k => .int .i64 (M.wr k)
  fb : RowAt W M.fb M.nt M.fv
  pass : RowAt W M.pb M.np fun k => .int .u64 (M.pass k)
  fl : ∀ t, t < M.nt → LstAt W (M.fv t) (M.fl t)
  apart : M.blocks.Nodup
  alone : ∀ t, t < M.nt → ∀ g, (M.fv t).ownBlock = some g → g ∉ M.blocks
  lone : ∀ t, t < M.nt → ∀ t', t' < M.nt → t ≠ t' → ∀ g, (M.fv t).ownBlock = some g → (M.fv t').ownBlock ≠ some g
  n0 : 0 < M.n
  n1 : M.n ≤ 262144
  t1 : M.nt ≤ 64
  p1 : M.np ≤ 262144
  rise : ∀ t, t < M.nt → (M.fl t).Pairwise (· < ·)
  inn : ∀ t, t < M.nt → ∀ x ∈ M.fl t, 0 ≤ x ∧ x < M.n
  ck0 : 0 ≤ M.ck
  bd0 : 0 ≤ M.bd
  bd1 : M.bd ≤ M.ck
  wr0 : ∀ k, k < M.n → 0 ≤ M.wr k ∧ M.wr k ≤ M.wm
theorem MemAt.lt {W : World} {M : Mv} (h : MemAt W M) {k : Nat} (hk : M.own k) : k < W.heap.size := by
  rcases hk with hk | ⟨t, ht, e⟩
  · simp only [Mv.blocks, List.mem_cons, List.not_mem_nil, or_false] at hk
    rcases hk with rfl | rfl | rfl | rfl | rfl | rfl | rfl
    · exact (Array.getElem?_eq_some_iff.1 h.row).1
    · exact (Array.getElem?_eq_some_iff.1 h.dev).1
    · exact h.kept.lt
    · exact h.seen.lt
    · exact h.wr.lt
    · exact h.fb.lt
    · exact h.pass.lt
  · exact (h.fl t ht).lt e
theorem MemAt.keep {W W' : World} {M : Mv} (h : MemAt W M) (e : ∀ k, M.own k → W'.heap[k]? = W.heap[k]?) : MemAt W' M := by
  have o : ∀ k, k ∈ M.blocks → W'.heap[k]? = W.heap[k]? := fun k hk => e k (Or.inl hk)
  exact { h with
    row := (o _ (by simp [Mv.blocks])).trans h.row
    dev := (o _ (by simp [Mv.blocks])).trans h.dev
    kept := h.kept.keep (o _ (by simp [Mv.blocks]))
    seen := h.seen.keep (o _ (by simp [Mv.blocks]))
    wr := h.wr.keep (o _ (by simp [Mv.blocks]))
    fb := h.fb.keep (o _ (by simp [Mv.blocks]))
    pass := h.pass.keep (o _ (by simp [Mv.blocks]))
    fl := fun t ht => (h.fl t ht).keep fun g hg => e g (Or.inr ⟨t, ht, hg⟩) }
theorem MemAt.turn {W W' : World} {M : Mv} {F : Nat → Prop} (h : MemAt W M) (t : Turn F W W') (hd : ∀ k, M.own k → ¬ F k) : MemAt W' M :=
  h.keep fun k hk => t.block k (h.lt hk) (hd k hk)
theorem MemAt.below {W W' : World} {M : Mv} (h : MemAt W M) (t : Below W.heap.size W W') : MemAt W' M :=
  h.keep fun k hk => t.block k (h.lt hk)
end Go.Proofs.YtkdcfijebgeajaaGreat

namespace Go.Proofs
open Go.Shelf
def Tryz.laysNm225_ren : Go.Shelf.Ren := ⟨fun | 25 => 401 | 31 => 414 | 32 => 415 | 37 => 422 | n => n, fun | 22 => 135 | 3 => 3 | 4 => 4 | 40 => 210 | 0 => 0 | n => n, fun | n => n⟩
theorem Tryz.laysNm225 : Go.Proofs.Lays2.n25 Tryz.prog Tryz.laysNm225_ren := {
  mixed := by kernel_rfl
  f25 := Tryz.func401.trans (congrArg some (by kernel_rfl))
  f31 := Tryz.func414.trans (congrArg some (by kernel_rfl))
  f32 := Tryz.func415.trans (congrArg some (by kernel_rfl))
  f37 := Tryz.func422.trans (congrArg some (by kernel_rfl))
  t0 := Tryz.underlying0
  a0 := Tryz.isAgg0
  z0 := Tryz.sizeOf0
  v0 := Tryz.zeroValue0
  t3 := Tryz.underlying3
  a3 := Tryz.isAgg3
  z3 := Tryz.sizeOf3
  v3 := Tryz.zeroValue3
  t4 := Tryz.underlying4
  a4 := Tryz.isAgg4
  z4 := Tryz.sizeOf4
  v4 := Tryz.zeroValue4
  t22 := Tryz.underlying135
  a22 := Tryz.isAgg135
  z22 := Tryz.sizeOf135
  v22 := Tryz.zeroValue135
  t40 := Tryz.underlying210
  a40 := Tryz.isAgg210
  z40 := Tryz.sizeOf210
  v40 := Tryz.zeroValue210 }
open Go.RowKit Go.Lib in
theorem Tryz.slices_BinarySearch_int (b off n c : Nat) (zs : List Int) (x : Int) (w : World) (hz : n ≤ zs.length) (hbig : n < 4611686018427387904) (hc : ∀ j, j < zs.length → w.cell? ⟨b, off + j, none⟩ = some (.int .i64 (zs.getD j 0))) (hs : (zs.take n).Pairwise (· ≤ ·)) :
    Calls Tryz.prog 401 #[.slice (some ⟨b, off, none⟩) n c, .int .i64 x] w fun e w' => e = .returned (.tuple #[.int .i64 ((zs.take n).countP (· < x) : Nat), .bool ((zs.take n).contains x)]) ∧ ∃ q, w' = w.drewN q := Any.slices_BinarySearch_int Tryz.laysNm225 b off n c zs x w hz hbig hc hs
open Go.RowKit Go.Lib in
theorem Tryz.slices_BinarySearch_int_empty (a : Option Addr) (c : Nat) (x : Int) (w : World) :
    Calls Tryz.prog 401 #[.slice a 0 c, .int .i64 x] w fun e w' => e = .returned (.tuple #[.int .i64 0, .bool false]) ∧ w' = w := Any.slices_BinarySearch_int_empty Tryz.laysNm225 a c x w
def Tryz.laysIns_ren : Go.Shelf.Ren := ⟨fun | 21 => 402 | 27 => 416 | 28 => 417 | 35 => 423 | 39 => 427 | n => n, fun | 22 => 135 | 3 => 3 | 4 => 4 | 0 => 0 | n => n, fun | n => n⟩
theorem Tryz.laysIns : Go.Proofs.Lays2.n21 Tryz.prog Tryz.laysIns_ren := {
  mixed := by kernel_rfl
  f21 := Tryz.func402.trans (congrArg some (by kernel_rfl))
  f27 := Tryz.func416.trans (congrArg some (by kernel_rfl))
  f28 := Tryz.func417.trans (congrArg some (by kernel_rfl))
  f35 := Tryz.func423.trans (congrArg some (by kernel_rfl))
  f39 := Tryz.func427.trans (congrArg some (by kernel_rfl))
  t0 := Tryz.underlying0
  a0 := Tryz.isAgg0
  z0 := Tryz.sizeOf0
  v0 := Tryz.zeroValue0
  t3 := Tryz.underlying3
  a3 := Tryz.isAgg3
  z3 := Tryz.sizeOf3
  v3 := Tryz.zeroValue3
  t4 := Tryz.underlying4
  a4 := Tryz.isAgg4
  z4 := Tryz.sizeOf4
  v4 := Tryz.zeroValue4
  t22 := Tryz.underlying135
  a22 := Tryz.isAgg135
  z22 := Tryz.sizeOf135
  v22 := Tryz.zeroValue135
  i3 := by kernel_rfl }
end Go.Proofs
