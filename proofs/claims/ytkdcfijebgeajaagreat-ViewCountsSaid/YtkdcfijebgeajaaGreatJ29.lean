/- Layer 2, the document's: the sum of words.
   A run reckoned: the sums of words, by their contracts.
   A run reckoned in parts: a function's code, cut into steps, with what is left to do as frames; each part is reckoned by itself, and what they say together is what the whole says.
   A run reckoned in parts: the codes of function 10. -/
import Derived.Test.YtkdcfijebgeajaaGreatJ28
import Derived.Test.YtkdcfijebgeajaaGreatJ26
import Derived.Test.YtkdcfijebgeajaaGreatJ27
import Derived.Test.YtkdcfijebgeajaaGreatJ24
import Derived.Test.YtkdcfijebgeajaaGreatJ25
import Derived.KernelRfl
namespace Go.Proofs.YtkdcfijebgeajaaGreat
open Go.RowKit Go.BigFrame
set_option linter.unusedVariables false
set_option linter.unusedSimpArgs false
/-- A row of values. -/
def valsL (g : Nat → Value) (n : Nat) : List Value := (List.range n).map g
theorem valsL_next (g : Nat → Value) (n : Nat) : valsL g (n + 1) = valsL g n ++ [g n] := by simp [valsL, List.range_succ]
theorem valsL_get (g : Nat → Value) (n j : Nat) (h : j < n) : (valsL g n)[j]?.getD undef = g j := by
  unfold valsL; rw [List.getElem?_map, List.getElem?_range h]; rfl
def byteAt (f : Nat → Nat) (j : Nat) : Nat := f (j / 8) / 256 ^ (j % 8) % 256
theorem byteAt_at (f : Nat → Nat) (k q : Nat) (h : q < 8) : byteAt f (8 * k + q) = f k / 256 ^ q % 256 := by
  unfold byteAt; rw [show (8 * k + q) / 8 = k by omega, show (8 * k + q) % 8 = q by omega]
theorem word_bits (x : Nat) : bitsOf 64 x = bitsOf 8 (x / 256 ^ 0 % 256) ++ bitsOf 8 (x / 256 ^ 1 % 256) ++ bitsOf 8 (x / 256 ^ 2 % 256) ++ bitsOf 8 (x / 256 ^ 3 % 256) ++ bitsOf 8 (x / 256 ^ 4 % 256) ++ bitsOf 8 (x / 256 ^ 5 % 256) ++ bitsOf 8 (x / 256 ^ 6 % 256) ++ bitsOf 8 (x / 256 ^ 7 % 256) := by
  have e : ∀ q, bitsOf 8 (x / 256 ^ q % 256) = bitsOf 8 (x / 2 ^ (8 * q)) := fun q => by
    rw [show bitsOf 8 (x / 256 ^ q % 256) = bitsOf 8 (x / 256 ^ q) from bitsOf_mod 8 _, show (256 : Nat) = 2 ^ 8 from rfl, ← Nat.pow_mul]
  rw [e, e, e, e, e, e, e, e]
  have s : ∀ a, bitsOf (8 + a) x = bitsOf 8 x ++ bitsOf a (x / 2 ^ 8) := fun a => bitsOf_append 8 a x
  have g : ∀ a b, bitsOf (a + b) x = bitsOf a x ++ bitsOf b (x / 2 ^ a) := fun a b => bitsOf_append a b x
  rw [show 64 = 56 + 8 from rfl, g, show 56 = 48 + 8 from rfl, g, show 48 = 40 + 8 from rfl, g, show 40 = 32 + 8 from rfl, g, show 32 = 24 + 8 from rfl, g, show 24 = 16 + 8 from rfl, g, show 16 = 8 + 8 from rfl, g]
  simp
theorem byteBits_words (f : Nat → Nat) : ∀ n, byteBits (byteAt f) (8 * n) = (List.range n).flatMap fun j => bitsOf 64 (f j)
  | 0 => rfl
  | n + 1 => by
    rw [bitsAll_next, ← byteBits_words f n, show 8 * (n + 1) = 8 * n + 7 + 1 by omega]
    rw [byteBits_next, byteBits_next, byteBits_next, byteBits_next, byteBits_next, byteBits_next, byteBits_next, byteBits_next, word_bits]
    rw [byteAt_at f n 7 (by omega), byteAt_at f n 6 (by omega), byteAt_at f n 5 (by omega), byteAt_at f n 4 (by omega), byteAt_at f n 3 (by omega), byteAt_at f n 2 (by omega), byteAt_at f n 1 (by omega)]
    rw [show byteAt f (8 * n) = f n / 256 ^ 0 % 256 from byteAt_at f n 0 (by omega)]
    simp only [List.append_assoc]
theorem byteAt_lt (f : Nat → Nat) (j : Nat) : byteAt f j < 256 := Nat.mod_lt _ (by decide)
set_option maxRecDepth 100000 in
set_option maxHeartbeats 8000000 in
theorem words31 (f : Nat → Nat) (hf : ∀ j, f j < 18446744073709551616) (n : Nat) (hn : n ≤ 10000) (a : Option Addr) (cap : Nat) (w : World) (h : WordsN w.heap.size w a n f) :
    Calls Tryz.prog 149 #[.slice a n cap] w fun e w' => e = .returned (.int .u32 (sumW f n)) ∧ Below w.heap.size w w' := by
  obtain ⟨i5, hi, hz0, hz1, hz2⟩ := info_parts info5
  obtain ⟨B, hB⟩ : ∃ B, B = w.heap.size := ⟨_, rfl⟩
  obtain ⟨b, off, ha, hc⟩ := h
  rw [← hB] at ha ⊢
  have HB := Lib.hid hB
  have HA := Lib.hid ha
  have HC := Lib.hid hc
  have HF := Lib.hid hf
  obtain ⟨fb, hfb⟩ : ∃ fb, fb = byteAt f := ⟨_, rfl⟩
  have HFB : Hid (∀ k q, q < 8 → fb (8 * k + q) = f k / 256 ^ q % 256) := Lib.hid (by rw [hfb]; exact byteAt_at f)
  obtain ⟨g, hg⟩ : ∃ g : Nat → Value, g = fun j => .int .u8 (Int.ofNat (fb j)) := ⟨_, rfl⟩
  have HG : Hid (∀ j, g j = .int .u8 (Int.ofNat (fb j))) := Lib.hid fun j => by rw [hg]
  have HE := Lib.hid (And.intro hfb hg)
  clear ha hc hB hf hfb hg
  go_enter Tryz.func149, Tryz.ntmps149
  go_wp2_with fail
  go_loopw [3, 4] (fun v i wr => ∃ k : Nat, k ≤ n ∧ i = .int .i64 k ∧ Hid (wr.ownsRow B 5 1 v (8 * k) (valsL g (8 * k))) ∧ Hid (Below B w wr)) (fun _ i _ => n - (intOf i).toNat)
  case atStart => exact ⟨0, by omega, rfl, World.ownsRow_nil _ _ _ _, by rw [HB.out]; exact Below.refl _ _⟩
  case round =>
    obtain ⟨k, hk, rfl, HO, HBE⟩ := hrel
    by_cases hlt : k < n
    · have d1 : decide ((k : Int) < (n : Int)) = true := bool_yes (by omega)
      obtain ⟨rfl, hb⟩ := HA.out (by omega)
      have e1 : wr.cell? ⟨b, off + k, none⟩ = some (.int .u64 (f k)) := by rw [HBE.out.cell (p := ⟨b, off + k, none⟩) hb, HC.out k hlt]
      have hfk := HF.out k
      have HFk : Hid (∀ q, q < 8 → fb (8 * k + q) = f k / 256 ^ q % 256) := Lib.hid (HFB.out k)
      generalize f k = x at *
      go_wp2_with fail
      clear e1
      go_loopw [3, 5, 6] (fun v y i wr => ∃ (m z : Nat), m ≤ 8 ∧ z < 18446744073709551616 ∧ i = .int .i64 m ∧ y = .int .u64 z ∧ Hid (z = x / 256 ^ m) ∧ Hid (wr.ownsRow B 5 1 v (8 * k + m) (valsL g (8 * k + m))) ∧ Hid (Below B w wr)) (fun _ _ i _ => 8 - (intOf i).toNat)
      case atStart => exact ⟨0, x, by omega, hfk, rfl, rfl, by simp [Hid], HO, HBE⟩
      case round =>
        clear HO HBE
        obtain ⟨m, z, hm, hz, rfl, rfl, HZ, HO, HBE⟩ := hrel
        have hBw : B ≤ wr.heap.size := by have := HBE.out.size; have := HB.out; omega
        have q1 : 8 * k + m + 1 ≤ maxLen := by unfold maxLen; omega
        have q2 : (8 * k + m + 1) * 1 ≤ 140737488355328 := by omega
        obtain ⟨va, vc, rfl⟩ := own_slice_n HO.out
        by_cases hlt8 : m < 8
        · have d2 : decide ((m : Int) < 8) = true := bool_yes (by omega)
          have HY : Hid (g (8 * k + m) = .int .u8 ((z : Int) % 256)) := Lib.hid (by rw [HG.out, HFk.out m hlt8, ← HZ.out]; rfl)
          have HZ' : Hid (z / 256 = x / 256 ^ (m + 1)) := Lib.hid (by rw [HZ.out, Nat.div_div_eq_div_mul, Nat.pow_succ])
          go_wp2_with (at_builtin; refine wpList_push rfl (.tmp 21) (.tmp 25) 166 rfl B 5 i5 (.int .u8 0) 1 1 Tryz.underlying166 hi hz0 hz1 hz2 rfl (by decide) wr hBw (.slice va (8 * k + m) vc) (8 * k + m) (valsL g (8 * k + m)) rfl HO.out #[.int .u8 ((z : Int) % 256)] 1 1 rfl rfl (by simp [Value.oneCell']) q1 q2 ?_; intro v' w' ho' hg' hb' hn'; have HO' := Lib.hid ho'; have HB' := Lib.hid (hb' _ _ HBE.out (Nat.le_refl _)); clear ho' hg' hb' hn')
          go_wp2_with fail
          go_roundw
          case rel => exact ⟨m + 1, z / 256, by omega, by omega, by go_num, by go_num, HZ', Lib.hid (by rw [← Nat.add_assoc, valsL_next, HY.out]; exact HO'.out), HB'⟩
          case measure => simp [intOf]; omega
        · obtain rfl : m = 8 := by omega
          go_wp2_with fail
          go_roundw
          case rel => exact ⟨k + 1, by omega, by go_num, HO, HBE⟩
          case measure => simp [intOf]; omega
    · obtain rfl : k = n := by omega
      have d1 : decide ((k : Int) < (k : Int)) = false := by simp
      obtain ⟨va, vc, rfl⟩ := own_slice_n HO.out
      obtain ⟨a', c', hv, hat⟩ := own_at HO.out
      obtain ⟨rfl, rfl⟩ : va = a' ∧ vc = c' := by cases hv; exact ⟨rfl, rfl⟩
      have HM : Hid (Calls Tryz.prog 199 #[.slice va (8 * k) vc] wr fun e w' => e = .returned (.int .u32 (sumW f k)) ∧ Below wr.heap.size wr w') := Lib.hid (by
        have h1 : CellsAt wr.heap.size wr va (8 * k) fun j => .int .u8 (fb j) := by
          obtain ⟨b', o', h1, h2⟩ := hat
          exact ⟨b', o', h1, fun j hj => by rw [h2 j hj]; show some ((valsL g (8 * k))[j]?.getD undef) = _; rw [valsL_get g _ j hj, HG.out]; rfl⟩
        have h2 := bytes47 fb (by rw [HE.out.1]; exact byteAt_lt f) (8 * k) (by omega) va vc wr h1
        have h3 : ones - crcBits ones (byteBits fb (8 * k)) = sumW f k := by rw [HE.out.1, byteBits_words]; rfl
        rw [h3] at h2; exact h2)
      clear hv hat
      go_wp2_with (go_at_call 199; (with_reducible refine HM.out.mono ?_); rintro e w2 ⟨rfl, hb2⟩; have HB2 := Lib.hid hb2; clear hb2)
      go_ret
      exact ⟨rfl, HBE.out.trans (HB2.out.mono (by have := HBE.out.size; have := HB.out; omega))⟩
end Go.Proofs.YtkdcfijebgeajaaGreat

namespace Go.Proofs.YtkdcfijebgeajaaGreat
namespace Rk
open Go.RowKit
set_option maxRecDepth 1000000
theorem sums193 : SumsWords Tryz.prog 193 sumW := fun a n cap g w h1 h2 hg hb hs hc =>
  ⟨MuLone.run_callFunc_enter Tryz.func193 (by kernel_rfl) (rfl : Tryz.f193.body = some _) _ _, (sum20 (some a) n cap (by omega) g hg w ⟨a.block, a.off, fun _ => ⟨by obtain ⟨x, y, z⟩ := a; cases hs; rfl, hb⟩, hc⟩).mono (by rintro e w' ⟨rfl, rfl⟩; exact ⟨rfl, Below.refl _ _⟩)⟩
theorem sums149 : SumsWords Tryz.prog 149 sumW := fun a n cap g w h1 h2 hg hb hs hc =>
  ⟨MuLone.run_callFunc_enter Tryz.func149 (by kernel_rfl) (rfl : Tryz.f149.body = some _) _ _, words31 g hg n (by omega) (some a) cap w ⟨a.block, a.off, fun _ => ⟨by obtain ⟨x, y, z⟩ := a; cases hs; rfl, hb⟩, hc⟩⟩
theorem orcOk : OrcOk env := fun f g hg args σ v σ' h B w0 R w args' hS hl => by
  have hg : orcT f = some g := hg
  unfold orcT at hg
  split at hg
  · rename_i hf
    rw [beqN] at hf
    have hf := of_decide_eq_true hf
    subst hf
    cases hg
    exact wordsOrc_ok envOk sums193 sumW_list h B w0 R w args' hS hl
  · split at hg
    · rename_i hf
      rw [beqN] at hf
      have hf := of_decide_eq_true hf
      subst hf
      cases hg
      exact wordsOrc_ok envOk sums149 sumW_list h B w0 R w args' hS hl
    · cases hg
end Rk
end Go.Proofs.YtkdcfijebgeajaaGreat

namespace Go.Proofs.YtkdcfijebgeajaaGreat
namespace Rk
open Go.RowKit
set_option linter.unusedVariables false
set_option linter.unusedSimpArgs false
/-- What is left to do. -/
inductive Fm where
  | seq (n : Nat) (b : Code)
  | blk (i : Nat)
  | loop (n : Nat) (a : Code)
/-- Where a run stands. -/
inductive Fo where
  | code (n : Nat) (c : Code) (t : Tm) (ms : List Nat) (σ : AH)
  | res (r : Res)
noncomputable section
def fmR (E : Env) : Fm → Option Res → Option Res
  | .seq n b, r => match r with
    | some (.at .normal t ms σ) => run E n (.code false b t ms σ)
    | r => r
  | .blk i, r => match r with
    | some (.at (.exit j) t ms σ) => match Nat.beq i j with | true => some (.at .normal t ms σ) | false => some (.at (.exit j) t ms σ)
    | r => r
  | .loop n a, r => match r with
    | some (.at .normal t ms σ) => run E n (.code false (.loop a) t ms σ)
    | r => r
def plug (E : Env) : List Fm → Option Res → Option Res
  | [], r => r
  | f :: K, r => plug E K (fmR E f r)
def whole (E : Env) : Fo → List Fm → Option Res
  | .code n c t ms σ, K => plug E K (run E n (.code false c t ms σ))
  | .res r, K => plug E K (some r)
def leafF (E : Env) (n : Nat) (c : Code) (t : Tm) (ms : List Nat) (σ : AH) (K : List Fm) : Option (Fo × List Fm) :=
  match run E n (.code false c t ms σ) with
  | some r => some (.res r, K)
  | none => none
def stepF (E : Env) : Fo → List Fm → Option (Fo × List Fm)
  | .code n c t ms σ, K => match n with
    | 0 => none
    | m + 1 => match c with
      | .seq a b => some (.code m a t ms σ, .seq m b :: K)
      | .block i a => some (.code m a t ms σ, .blk i :: K)
      | .loop a => some (.code m a t ms σ, .loop m a :: K)
      | c => leafF E (Nat.succ m) c t ms σ K
  | .res r, K => match K with
    | [] => none
    | f :: K => match f with
      | .seq n b => match r with
        | .at .normal t ms σ => some (.code n b t ms σ, K)
        | r => some (.res r, K)
      | .blk i => match r with
        | .at (.exit j) t ms σ => match Nat.beq i j with | true => some (.res (.at .normal t ms σ), K) | false => some (.res (.at (.exit j) t ms σ), K)
        | r => some (.res r, K)
      | .loop n a => match r with
        | .at .normal t ms σ => some (.code n (.loop a) t ms σ, K)
        | r => some (.res r, K)
def itF (E : Env) : Nat → Fo → List Fm → Option (Fo × List Fm)
  | 0, f, K => some (f, K)
  | m + 1, f, K => match stepF E f K with
    | some (f', K') => itF E m f' K'
    | none => none
theorem leafF_ok {E : Env} {n : Nat} {c : Code} {t : Tm} {ms : List Nat} {σ : AH} {K : List Fm} {f' : Fo} {K' : List Fm} (h : leafF E n c t ms σ K = some (f', K')) : whole E (.code n c t ms σ) K = whole E f' K' := by
  unfold leafF at h
  cases hr : run E n (.code false c t ms σ) with
  | none => rw [hr] at h; cases h
  | some r =>
    rw [hr] at h
    cases h
    simp only [whole, hr]
theorem stepF_ok {E : Env} {f : Fo} {K : List Fm} {f' : Fo} {K' : List Fm} (h : stepF E f K = some (f', K')) : whole E f K = whole E f' K' := by
  unfold stepF at h
  split at h
  · rename_i n c t ms σ
    split at h
    · cases h
    · rename_i m
      split at h
      · rename_i a b
        cases h
        simp only [whole, plug]
        congr 1
      · rename_i i a
        cases h
        simp only [whole, plug]
        congr 1
      · rename_i a
        cases h
        simp only [whole, plug]
        congr 1
      · exact leafF_ok h
  · rename_i r
    split at h
    · cases h
    · rename_i fm K
      simp only [whole, plug]
      split at h
      · split at h
        · cases h; simp only [whole, fmR]
        · rename_i hn
          cases h
          simp only [whole]
          congr 1
          cases r with
          | val v s => rfl
          | «at» x t1 m1 s1 => cases x <;> first | rfl | exact absurd rfl (hn _ _ _)
      · split at h
        · split at h
          · rename_i hb; cases h; simp only [whole, fmR, hb]
          · rename_i hb; cases h; simp only [whole, fmR, hb]
        · rename_i hn
          cases h
          simp only [whole]
          congr 1
          cases r with
          | val v s => rfl
          | «at» x t1 m1 s1 => cases x <;> first | rfl | exact absurd rfl (hn _ _ _ _)
      · split at h
        · cases h; simp only [whole, fmR]
        · rename_i hn
          cases h
          simp only [whole]
          congr 1
          cases r with
          | val v s => rfl
          | «at» x t1 m1 s1 => cases x <;> first | rfl | exact absurd rfl (hn _ _ _)
theorem itF_ok {E : Env} : ∀ {m : Nat} {f : Fo} {K : List Fm} {f' : Fo} {K' : List Fm}, itF E m f K = some (f', K') → whole E f K = whole E f' K'
  | 0, f, K, f', K', h => by cases h; rfl
  | m + 1, f, K, f', K', h => by
    simp only [itF] at h
    cases hs : stepF E f K with
    | none => rw [hs] at h; cases h
    | some q =>
      obtain ⟨f1, K1⟩ := q
      rw [hs] at h
      exact (stepF_ok hs).trans (itF_ok h)
/-- A code's part. -/
def subc : Code → List Nat → Code
  | c, [] => c
  | .seq a b, n :: p => match n with | 0 => subc a p | _ => subc b p
  | .cond _ a b, n :: p => match n with | 0 => subc a p | _ => subc b p
  | .block _ a, _ :: p => subc a p
  | .loop a, _ :: p => subc a p
  | .rangeFunc _ _ a b, n :: p => match n with | 0 => subc a p | _ => subc b p
  | c, _ => c
def bodyOf (E : Env) (f : FuncId) : Code := match E.fn f with | some fn => (match fn.body with | some c => c | none => .skip) | none => .skip
def beginF (E : Env) (f : FuncId) (n : Nat) : Fo := match E.fn f with
  | some fn => (match fn.body with | some c => .code n c ⟨fn.ntmps, some undef, .nil⟩ [] ⟨Nat.zero, .nil⟩ | none => .res (.val undef ⟨Nat.zero, .nil⟩))
  | none => .res (.val undef ⟨Nat.zero, .nil⟩)
/-- The last part: what the call tells. -/
def lastB (E : Env) (f : FuncId) : Option (Fo × List Fm) → Bool
  | some (.res r, []) => match E.fn f with | some fn => boolOf (tell E fn (some r)) | none => false
  | _ => false
def saysB (E : Env) (f : FuncId) (r : Option Res) : Bool := match E.fn f with | some fn => boolOf (tell E fn r) | none => false
theorem lastB_ok {E : Env} {f : FuncId} {m : Nat} {fo : Fo} {K : List Fm} (h : lastB E f (itF E m fo K) = true) : saysB E f (whole E fo K) = true := by
  unfold lastB at h
  cases hi : itF E m fo K with
  | none => rw [hi] at h; cases h
  | some q =>
    obtain ⟨f1, K1⟩ := q
    rw [hi] at h
    rw [itF_ok hi]
    cases f1 with
    | code => cases h
    | res r => cases K1 with
      | cons => cases h
      | nil => exact h
theorem begin_ok {E : Env} {f : FuncId} {n : Nat} (ho : E.orc f = none) (h : saysB E f (whole E (beginF E f n) []) = true) : boolOf (run E (n + 1) (.call f [] ⟨0, .nil⟩)) = true := by
  unfold saysB beginF at h
  simp only [run, step, ho]
  cases hf : E.fn f with
  | none => simp [hf] at h
  | some fn =>
    simp only [hf] at h
    cases hb : fn.body with
    | none => simp [hb, whole, plug, tell, boolOf] at h
    | some c =>
      simp only [hb] at h
      show boolOf (match fn.body with
        | none => none
        | some c => tmpsOf 0 [] ⟨fn.ntmps, some undef, .nil⟩ fun t => tell E fn (run E n (.code false c t [] ⟨0, .nil⟩))) = true
      simp only [hb]
      exact h
/-! Short names for states that are written out -/
namespace Sh
abbrev i (m : Nat) : Value := .int .i64 (.ofNat m)
abbrev u (m : Nat) : Value := .int .u64 (.ofNat m)
abbrev p (b o : Nat) : Value := .pointer (some ⟨b, o, none⟩)
abbrev z {α : Type} : Tr α := .nil
abbrev l {α : Type} (x : α) : Tr α := .node .nil (some x) .nil
abbrev n {α : Type} (a : Tr α) (v : Option α) (b : Tr α) : Tr α := .node a v b
end Sh
end
end Rk
end Go.Proofs.YtkdcfijebgeajaaGreat

namespace Go.Proofs.YtkdcfijebgeajaaGreat
namespace Rk
set_option maxRecDepth 1000000
noncomputable def b10 : Code := bodyOf env 10
noncomputable def b77 : Code := bodyOf env 77
end Rk
end Go.Proofs.YtkdcfijebgeajaaGreat
