/- A run reckoned: the sum of words is the one of layer 2.
   A run reckoned: the sums of words, by their contracts.
   A run reckoned in parts: a function's code, cut into steps, with what is left to do as frames; each part is reckoned by itself, and what they say together is what the whole says.
   A run reckoned in parts: the codes of function 16. -/
import Derived.Test.YtkdcfijebgeajaaGreatJw27
import Derived.Test.YtkdcfijebgeajaaGreatJw4
import Derived.Test.YtkdcfijebgeajaaGreatJw29
import Derived.Test.YtkdcfijebgeajaaGreatJw6
import Derived.Test.YtkdcfijebgeajaaGreatJw28
import Derived.KernelRfl
namespace Go.Proofs.YtkdcfijebgeajaaGreat
namespace Rk
open Go.RowKit
set_option linter.unusedVariables false
set_option linter.unusedSimpArgs false
set_option linter.unusedSectionVars false
theorem crcK_eq : ∀ (k w s : Nat), crcK k w s = crcBits s (bitsOf k w)
  | 0, w, s => rfl
  | k + 1, w, s => by
    have e : (match Nat.mod (Nat.xor s w) 2 with | 0 => Nat.div s 2 | _ => Nat.xor (Nat.div s 2) 0x82f63b78) = crcBit s (w % 2) := by
      unfold crcBit
      have h1 : (s ^^^ (w % 2)) % 2 = (s ^^^ w) % 2 := by
        have a := Nat.xor_mod_two_pow (a := s) (b := w % 2) (n := 1)
        have b := Nat.xor_mod_two_pow (a := s) (b := w) (n := 1)
        simp only [Nat.pow_one, Nat.mod_mod] at a b
        rw [a, b]
      rw [h1]
      show (match (s ^^^ w) % 2 with | 0 => s / 2 | _ => (s / 2) ^^^ 0x82f63b78) = _
      have h2 : (s ^^^ w) % 2 < 2 := Nat.mod_lt _ (by decide)
      generalize (s ^^^ w) % 2 = q at h2
      match q, h2 with
      | 0, _ => rfl
      | 1, _ => rfl
    have e2 : crcK (k + 1) w s = crcK k (w / 2) (crcBit s (w % 2)) := by
      simp only [crcK, natF_eq]
      exact congrArg (crcK k (w / 2)) e
    rw [e2, crcK_eq k]
    rfl
theorem crcWs_eq : ∀ (l : List Nat) (s : Nat), crcWs l s = crcBits s (l.flatMap fun w => bitsOf 64 w)
  | [], s => rfl
  | w :: ws, s => by
    simp only [crcWs, natF_eq, List.flatMap_cons]
    rw [crcBits_append, crcWs_eq ws, crcK_eq]
theorem sumW_list (l : List Nat) : sumW (fun j => l.getD j 0) l.length = 4294967295 - crcWs l 4294967295 := by
  unfold sumW ones
  rw [crcWs_eq]
  congr 2
  have : l = (List.range l.length).map fun j => l.getD j 0 := by
    apply List.ext_getElem?
    intro j
    by_cases hj : j < l.length
    · simp [hj, List.getElem?_eq_getElem hj]
    · simp [hj]
  conv => rhs; rw [this]
  rw [List.flatMap_map]
end Rk
end Go.Proofs.YtkdcfijebgeajaaGreat

namespace Go.Proofs.YtkdcfijebgeajaaGreat
namespace Rk
open Go.RowKit
set_option maxRecDepth 1000000
theorem sums193 : SumsWords Tryz.prog 193 sumW := fun a n cap g w h1 h2 hg hb hs hc =>
  ⟨MuLone.run_callFunc_enter Tryz.func193 (by kernel_rfl) (rfl : Tryz.f193.body = some _) _ _, (sum20 (some a) n cap (by omega) g hg w ⟨a.block, a.off, fun _ => ⟨by obtain ⟨x, y, z⟩ := a; cases hs; rfl, hb⟩, hc⟩).mono (by rintro e w' ⟨rfl, rfl⟩; exact ⟨rfl, Below.refl _ _⟩)⟩
theorem sums149 : SumsWords Tryz.prog 149 sumW := fun a n cap g w h1 h2 hg hb hs hc =>
  ⟨MuLone.run_callFunc_enter Tryz.func149 (by kernel_rfl) (rfl : Tryz.f149.body = some _) _ _, words31 g hg n (by omega) (some a) cap w ⟨a.block, a.off, fun _ => ⟨by obtain ⟨x, y, z⟩ := a; cases hs; rfl, hb⟩, hc⟩⟩
theorem orcOk : OrcOk env := fun f g hg args σ v σ' h B w0 R w args' hS hl => by
  have hg : orcT f = some g := hg
  unfold orcT at hg
  split at hg
  · rename_i hf
    rw [beqN] at hf
    have hf := of_decide_eq_true hf
    subst hf
    cases hg
    exact wordsOrc_ok envOk sums193 sumW_list h B w0 R w args' hS hl
  · split at hg
    · rename_i hf
      rw [beqN] at hf
      have hf := of_decide_eq_true hf
      subst hf
      cases hg
      exact wordsOrc_ok envOk sums149 sumW_list h B w0 R w args' hS hl
    · cases hg
end Rk
end Go.Proofs.YtkdcfijebgeajaaGreat

namespace Go.Proofs.YtkdcfijebgeajaaGreat
namespace Rk
open Go.RowKit
set_option linter.unusedVariables false
set_option linter.unusedSimpArgs false
inductive Fm where
  | seq (n : Nat) (b : Code)
  | blk (i : Nat)
  | loop (n : Nat) (a : Code)
inductive Fo where
  | code (n : Nat) (c : Code) (t : Tm) (ms : List Nat) (σ : AH)
  | res (r : Res)
noncomputable section
def fmR (E : Env) : Fm → Option Res → Option Res
  | .seq n b, r => match r with
    | some (.at .normal t ms σ) => run E n (.code false b t ms σ)
    | r => r
  | .blk i, r => match r with
    | some (.at (.exit j) t ms σ) => match Nat.beq i j with | true => some (.at .normal t ms σ) | false => some (.at (.exit j) t ms σ)
    | r => r
  | .loop n a, r => match r with
    | some (.at .normal t ms σ) => run E n (.code false (.loop a) t ms σ)
    | r => r
def plug (E : Env) : List Fm → Option Res → Option Res
  | [], r => r
  | f :: K, r => plug E K (fmR E f r)
def whole (E : Env) : Fo → List Fm → Option Res
  | .code n c t ms σ, K => plug E K (run E n (.code false c t ms σ))
  | .res r, K => plug E K (some r)
def leafF (E : Env) (n : Nat) (c : Code) (t : Tm) (ms : List Nat) (σ : AH) (K : List Fm) : Option (Fo × List Fm) :=
  match run E n (.code false c t ms σ) with
  | some r => some (.res r, K)
  | none => none
def stepF (E : Env) : Fo → List Fm → Option (Fo × List Fm)
  | .code n c t ms σ, K => match n with
    | 0 => none
    | m + 1 => match c with
      | .seq a b => some (.code m a t ms σ, .seq m b :: K)
      | .block i a => some (.code m a t ms σ, .blk i :: K)
      | .loop a => some (.code m a t ms σ, .loop m a :: K)
      | c => leafF E (Nat.succ m) c t ms σ K
  | .res r, K => match K with
    | [] => none
    | f :: K => match f with
      | .seq n b => match r with
        | .at .normal t ms σ => some (.code n b t ms σ, K)
        | r => some (.res r, K)
      | .blk i => match r with
        | .at (.exit j) t ms σ => match Nat.beq i j with | true => some (.res (.at .normal t ms σ), K) | false => some (.res (.at (.exit j) t ms σ), K)
        | r => some (.res r, K)
      | .loop n a => match r with
        | .at .normal t ms σ => some (.code n (.loop a) t ms σ, K)
        | r => some (.res r, K)
def itF (E : Env) : Nat → Fo → List Fm → Option (Fo × List Fm)
  | 0, f, K => some (f, K)
  | m + 1, f, K => match stepF E f K with
    | some (f', K') => itF E m f' K'
    | none => none
theorem leafF_ok {E : Env} {n : Nat} {c : Code} {t : Tm} {ms : List Nat} {σ : AH} {K : List Fm} {f' : Fo} {K' : List Fm} (h : leafF E n c t ms σ K = some (f', K')) : whole E (.code n c t ms σ) K = whole E f' K' := by
  unfold leafF at h
  cases hr : run E n (.code false c t ms σ) with
  | none => rw [hr] at h; cases h
  | some r =>
    rw [hr] at h
    cases h
    simp only [whole, hr]
theorem stepF_ok {E : Env} {f : Fo} {K : List Fm} {f' : Fo} {K' : List Fm} (h : stepF E f K = some (f', K')) : whole E f K = whole E f' K' := by
  unfold stepF at h
  split at h
  · rename_i n c t ms σ
    split at h
    · cases h
    · rename_i m
      split at h
      · rename_i a b
        cases h
        simp only [whole, plug]
        congr 1
      · rename_i i a
        cases h
        simp only [whole, plug]
        congr 1
      · rename_i a
        cases h
        simp only [whole, plug]
        congr 1
      · exact leafF_ok h
  · rename_i r
    split at h
    · cases h
    · rename_i fm K
      simp only [whole, plug]
      split at h
      · split at h
        · cases h; simp only [whole, fmR]
        · rename_i hn
          cases h
          simp only [whole]
          congr 1
          cases r with
          | val v s => rfl
          | «at» x t1 m1 s1 => cases x <;> first | rfl | exact absurd rfl (hn _ _ _)
      · split at h
        · split at h
          · rename_i hb; cases h; simp only [whole, fmR, hb]
          · rename_i hb; cases h; simp only [whole, fmR, hb]
        · rename_i hn
          cases h
          simp only [whole]
          congr 1
          cases r with
          | val v s => rfl
          | «at» x t1 m1 s1 => cases x <;> first | rfl | exact absurd rfl (hn _ _ _ _)
      · split at h
        · cases h; simp only [whole, fmR]
        · rename_i hn
          cases h
          simp only [whole]
          congr 1
          cases r with
          | val v s => rfl
          | «at» x t1 m1 s1 => cases x <;> first | rfl | exact absurd rfl (hn _ _ _)
theorem itF_ok {E : Env} : ∀ {m : Nat} {f : Fo} {K : List Fm} {f' : Fo} {K' : List Fm}, itF E m f K = some (f', K') → whole E f K = whole E f' K'
  | 0, f, K, f', K', h => by cases h; rfl
  | m + 1, f, K, f', K', h => by
    simp only [itF] at h
    cases hs : stepF E f K with
    | none => rw [hs] at h; cases h
    | some q =>
      obtain ⟨f1, K1⟩ := q
      rw [hs] at h
      exact (stepF_ok hs).trans (itF_ok h)
def subc : Code → List Nat → Code
  | c, [] => c
  | .seq a b, n :: p => match n with | 0 => subc a p | _ => subc b p
  | .cond _ a b, n :: p => match n with | 0 => subc a p | _ => subc b p
  | .block _ a, _ :: p => subc a p
  | .loop a, _ :: p => subc a p
  | .rangeFunc _ _ a b, n :: p => match n with | 0 => subc a p | _ => subc b p
  | c, _ => c
def bodyOf (E : Env) (f : FuncId) : Code := match E.fn f with | some fn => (match fn.body with | some c => c | none => .skip) | none => .skip
def beginF (E : Env) (f : FuncId) (n : Nat) : Fo := match E.fn f with
  | some fn => (match fn.body with | some c => .code n c ⟨fn.ntmps, some undef, .nil⟩ [] ⟨Nat.zero, .nil⟩ | none => .res (.val undef ⟨Nat.zero, .nil⟩))
  | none => .res (.val undef ⟨Nat.zero, .nil⟩)
def lastB (E : Env) (f : FuncId) : Option (Fo × List Fm) → Bool
  | some (.res r, []) => match E.fn f with | some fn => boolOf (tell E fn (some r)) | none => false
  | _ => false
def saysB (E : Env) (f : FuncId) (r : Option Res) : Bool := match E.fn f with | some fn => boolOf (tell E fn r) | none => false
theorem lastB_ok {E : Env} {f : FuncId} {m : Nat} {fo : Fo} {K : List Fm} (h : lastB E f (itF E m fo K) = true) : saysB E f (whole E fo K) = true := by
  unfold lastB at h
  cases hi : itF E m fo K with
  | none => rw [hi] at h; cases h
  | some q =>
    obtain ⟨f1, K1⟩ := q
    rw [hi] at h
    rw [itF_ok hi]
    cases f1 with
    | code => cases h
    | res r => cases K1 with
      | cons => cases h
      | nil => exact h
theorem begin_ok {E : Env} {f : FuncId} {n : Nat} (ho : E.orc f = none) (h : saysB E f (whole E (beginF E f n) []) = true) : boolOf (run E (n + 1) (.call f [] ⟨0, .nil⟩)) = true := by
  unfold saysB beginF at h
  simp only [run, step, ho]
  cases hf : E.fn f with
  | none => simp [hf] at h
  | some fn =>
    simp only [hf] at h
    cases hb : fn.body with
    | none => simp [hb, whole, plug, tell, boolOf] at h
    | some c =>
      simp only [hb] at h
      show boolOf (match fn.body with
        | none => none
        | some c => tmpsOf 0 [] ⟨fn.ntmps, some undef, .nil⟩ fun t => tell E fn (run E n (.code false c t [] ⟨0, .nil⟩))) = true
      simp only [hb]
      exact h
namespace Sh
abbrev i (m : Nat) : Value := .int .i64 (.ofNat m)
abbrev u (m : Nat) : Value := .int .u64 (.ofNat m)
abbrev p (b o : Nat) : Value := .pointer (some ⟨b, o, none⟩)
abbrev z {α : Type} : Tr α := .nil
abbrev l {α : Type} (x : α) : Tr α := .node .nil (some x) .nil
abbrev n {α : Type} (a : Tr α) (v : Option α) (b : Tr α) : Tr α := .node a v b
end Sh
end
end Rk
end Go.Proofs.YtkdcfijebgeajaaGreat

namespace Go.Proofs.YtkdcfijebgeajaaGreat
namespace Rk
set_option maxRecDepth 1000000
noncomputable def b16 : Code := bodyOf env 16
noncomputable def b77 : Code := bodyOf env 77
noncomputable def b229 : Code := bodyOf env 229
noncomputable def b301 : Code := bodyOf env 301
noncomputable def b302 : Code := bodyOf env 302
end Rk
end Go.Proofs.YtkdcfijebgeajaaGreat
