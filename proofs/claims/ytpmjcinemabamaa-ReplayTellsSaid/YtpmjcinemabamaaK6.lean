/- The two memories alike, step by step. No program here.
   A region that draws its order, walked in a round of a range over a function as everywhere; an append as a step of such a region. No program here.
   Layer 3: the parts of a list, an iterator that keeps what is left in a cell.
   Layer 3: what lies in memory while words are cut into lines. No walk here.
   Layer 3: the law of Cut's range over the parts.
   Layers 4, 7: why there is no memory.
   Layer 3: words cut into lines.
   Layer 4: a device is made.
   Layers 4, 7: a device opened, a memory made.
   Layer 38: a memory at its start; what a run holds.
   Layer 38: accesses done again, walked. -/
import Derived.Test.YtpmjcinemabamaaK5
import Derived.Test.YtpmjcinemabamaaK3
import Derived.RangeFuncNested
import Derived.RangeFuncBound
import Derived.RangeFuncCalls
import Derived.RangeFuncLeaves
import Derived.WalkKit
import Derived.OwnWalkIn
import Derived.TacticsInMore
import Derived.LoopNIn
import Derived.LoopIn
import Derived.OrdersIn
import Derived.Maps.AppendAt
import Derived.Test.YtpmjcinemabamaaK4
import Derived.Test.YtpmjcinemabamaaK2
import Derived.Shelf.Abstract
import Derived.Test.YtpmjcinemabamaaK1
import Derived.WalkSpells
import Derived.Deep.QuietTactic
namespace Go.Proofs.Ytpmjcinemabamaa
open Go.RowKit Go.BigFrame
set_option linter.unusedVariables false
set_option linter.unusedSimpArgs false

structure Alike (M : Mv) (R : Rv) : Prop where
  n : M.n = R.n
  nt : M.nt = R.nt
  np : M.np = R.np
  seen : ∀ k, k < 8 * M.n → M.seen k = R.seen k
  kept : ∀ k, k < 8 * M.n → M.kept k = R.kept k
  pass : ∀ k, k < M.np → M.pass k = R.pass k
  fl : ∀ t, t < M.nt → ∀ j, j < M.n → (R.fl t j = true ↔ (j : Int) ∈ M.fl t)
  ck : M.ck = R.ck
  bd : M.bd = R.bd
  la : M.la = R.la
theorem Alike.peek {M : Mv} {R : Rv} (h : Alike M R) (at_ : Int) : M.peek at_ = R.peek at_ := by
  unfold Mv.peek Rv.peek peekV
  rw [← h.n, ← h.np]
  by_cases h0 : 0 ≤ at_
  · rw [if_pos h0, if_pos h0]
    by_cases h1 : at_ / 8 < (M.n : Int)
    · rw [if_pos h1, if_pos h1, h.seen _ (by omega)]
    · rw [if_neg h1, if_neg h1]
  · rw [if_neg h0, if_neg h0]
    by_cases h1 : -1 - at_ < (M.np : Int)
    · rw [if_pos h1, if_pos h1, h.pass _ (by omega)]
    · rw [if_neg h1, if_neg h1]
theorem Alike.note {M : Mv} {R : Rv} (h : Alike M R) (x : Acc) (is : Bool) : Alike (M.note x is) (R.note x is) :=
  { h with
    ck := by show M.ck + 1 = R.ck + 1; rw [h.ck]
    bd := by show (if is then M.bd else M.bd + 1) = (if is then R.bd else R.bd + 1); rw [h.bd]
    la := rfl }
theorem Alike.put {M : Mv} {R : Rv} (h : Alike M R) (at_ v : Int) : Alike (M.put at_ v) (R.put at_ v) := by
  unfold Mv.put Rv.put
  by_cases h0 : 0 ≤ at_
  · rw [if_pos h0, if_pos h0]
    refine { h with seen := fun k hk => ?_ }
    show upd M.seen at_.toNat v k = upd R.seen at_.toNat v k
    unfold upd
    split
    · rfl
    · exact h.seen k hk
  · rw [if_neg h0, if_neg h0]
    refine { h with pass := fun k hk => ?_ }
    show upd M.pass (-1 - at_).toNat v k = upd R.pass (-1 - at_).toNat v k
    unfold upd
    split
    · rfl
    · exact h.pass k hk
theorem Alike.did {M : Mv} {R : Rv} (h : Alike M R) (x : Acc) (nw : Int) (pu : Bool) : Alike (M.did x nw pu) (R.did x nw pu) := by
  unfold Mv.did Rv.did Mv.res Rv.res
  rw [h.peek]
  refine Alike.note ?_ _ _
  split
  · exact h.put _ _
  · exact h
theorem Alike.flushed {M : Mv} {R : Rv} (h : Alike M R) (t l : Int) (v : Value) (ht : 0 ≤ t ∧ t < M.nt) (hl : 0 ≤ l ∧ l < M.n) : Alike (M.flushed t l v) (R.flushed t l) := by
  obtain ⟨a, rfl⟩ := Int.eq_ofNat_of_zero_le ht.1
  obtain ⟨b, rfl⟩ := Int.eq_ofNat_of_zero_le hl.1
  exact { h with
    fl := fun x hx j hj => by
      show upd R.fl a (upd (R.fl a) b true) x j = true ↔ (j : Int) ∈ upd M.fl a (insS (M.fl a) b) x
      by_cases e : x = a
      · rw [e, upd_at, upd_at, insS_mem]
        by_cases e' : j = b
        · rw [e', upd_at]; simp
        · rw [upd_ne _ _ e', h.fl a (by omega) j hj]
          constructor
          · exact Or.inr
          · rintro (q | q)
            · omega
            · exact q
      · rw [upd_ne _ _ e, upd_ne _ _ e]; exact h.fl x hx j hj }
theorem Alike.flushE {M : Mv} {R : Rv} (h : Alike M R) (t l : Int) : M.flushE t l = R.flushE t l := by
  unfold Mv.flushE Rv.flushE; rw [h.n, h.nt]
theorem flushE_in {M : Mv} {t l : Int} (h : M.flushE t l = 0) : (0 ≤ t ∧ t < M.nt) ∧ (0 ≤ l ∧ l < M.n) := by
  unfold Mv.flushE threadE lineE at h
  by_cases h0 : t < 0 ∨ (M.nt : Int) ≤ t
  · rw [if_pos h0, if_neg (by omega)] at h; omega
  · rw [if_neg h0, if_pos rfl] at h
    by_cases h1 : l < 0 ∨ (M.n : Int) ≤ l
    · rw [if_pos h1] at h; omega
    · omega
theorem Alike.flushM {M : Mv} {R : Rv} (h : Alike M R) (t at_ : Int) (v : Value) : Alike (M.flushM t at_ v) (R.flushM t at_) := by
  unfold Mv.flushM Rv.flushM
  rw [← h.flushE]
  split
  · rename_i c
    obtain ⟨a, b⟩ := flushE_in c.2
    exact (h.flushed t (at_ / 8) v a b).note _ _
  · exact h.note _ _
theorem Alike.fenced {M : Mv} {R : Rv} (h : Alike M R) (t : Int) (ht : 0 ≤ t ∧ t < M.nt) : Alike (M.fenced t) (R.fenced t.toNat) := by
  obtain ⟨a, rfl⟩ := Int.eq_ofNat_of_zero_le ht.1
  have ha : a < M.nt := by omega
  show Alike ((M.taken a).backs (M.fl a)) (R.fenced a)
  exact { h with
    kept := fun i hi => by
      show (if (M.fl a).contains ((i / 8 : Nat) : Int) then M.seen i else M.kept i) = if i / 8 < R.n ∧ R.fl a (i / 8) = true then R.seen i else R.kept i
      have hi : i < 8 * M.n := hi
      have h8 : i / 8 < M.n := by omega
      have := h.fl a ha (i / 8) h8
      by_cases c : R.fl a (i / 8) = true
      · rw [if_pos (by simpa using this.1 c), if_pos ⟨by rw [← h.n]; exact h8, c⟩, h.seen i hi]
      · rw [if_neg (fun q => c (this.2 (by simpa using q))), if_neg (fun q => c q.2), h.kept i hi]
    fl := fun x hx j hj => by
      show (if x = a ∧ j < R.n ∧ (x < R.nt ∨ x = R.nt ∧ j < 0) then false else R.fl x j) = true ↔ (j : Int) ∈ upd M.fl a [] x
      have hx : x < M.nt := hx
      have hj : j < M.n := hj
      by_cases e : x = a
      · rw [if_pos ⟨e, by rw [← h.n]; exact hj, Or.inl (by rw [← h.nt]; exact hx)⟩, e, upd_at]; simp
      · rw [if_neg (fun q => e q.1), upd_ne _ _ e]; exact h.fl x hx j hj }
theorem Alike.fenceM {M : Mv} {R : Rv} (h : Alike M R) (t : Int) : Alike (M.fenceM t) (R.fenceM t) := by
  unfold Mv.fenceM Rv.fenceM
  rw [← h.nt]
  split
  · rename_i c
    refine (h.fenced t ?_).note _ _
    unfold threadE at c
    by_cases q : t < 0 ∨ (M.nt : Int) ≤ t
    · rw [if_pos q] at c; omega
    · omega
  · exact h.note _ _
def Rv.acts (M : Rv) (a : Acc) : Rv :=
  if a.ki = 1 then M.load a.th a.pl
  else if a.ki = 2 then M.store a.th a.pl a.ne
  else if a.ki = 3 then M.swap a.th a.pl (if a.dn then a.ol else 18446744073709551615 - a.ol) a.ne
  else if a.ki = 4 then M.flushM a.th a.pl
  else if a.ki = 5 then M.fenceM a.th
  else M
theorem Alike.acts {M : Mv} {R : Rv} (h : Alike M R) (a : Acc) (v : Value) : Alike (M.acts a v) (R.acts a) := by
  unfold Mv.acts Rv.acts
  split
  · exact h.did _ _ _
  · split
    · exact h.did _ _ _
    · split
      · unfold Mv.swap Rv.swap; rw [h.peek]; exact h.did _ _ _
      · split
        · exact h.flushM _ _ _
        · split
          · exact h.fenceM _
          · exact h
/-- Two accesses the same? -/
def accB (x y : Acc) : Bool := x.ki == y.ki && x.th == y.th && x.pl == y.pl && x.ol == y.ol && x.ne == y.ne && x.dn == y.dn
/-- The first k accesses done again: the memory, and how many are what they say. -/
def rrun (R : Rv) (l : Nat → Acc) : Nat → Rv × Nat
  | 0 => (R, 0)
  | k + 1 => ((rrun R l k).1.acts (l k), if (rrun R l k).2 = k ∧ (1 ≤ (l k).ki ∧ (l k).ki ≤ 5) ∧ accB ((rrun R l k).1.acts (l k)).la (l k) = true then k + 1 else (rrun R l k).2)
theorem rrun_le (R : Rv) (l : Nat → Acc) (k : Nat) : (rrun R l k).2 ≤ k := by
  induction k with
  | zero => exact Nat.le_refl _
  | succ k ih =>
    rw [rrun]
    show (if (rrun R l k).2 = k ∧ (1 ≤ (l k).ki ∧ (l k).ki ≤ 5) ∧ accB ((rrun R l k).1.acts (l k)).la (l k) = true then k + 1 else (rrun R l k).2) ≤ k + 1
    by_cases c : (rrun R l k).2 = k ∧ (1 ≤ (l k).ki ∧ (l k).ki ≤ 5) ∧ accB ((rrun R l k).1.acts (l k)).la (l k) = true
    · rw [if_pos c]; exact Nat.le_refl _
    · rw [if_neg c]; omega
theorem acts_ck (M : Mv) (a : Acc) (v : Value) : (M.acts a v).ck = M.ck + (if 1 ≤ a.ki ∧ a.ki ≤ 5 then 1 else 0) := by
  unfold Mv.acts
  have hd : ∀ x nw pu, (M.did x nw pu).ck = M.ck + 1 := fun x nw pu => by
    unfold Mv.did Mv.note
    show (if _ then _ else _ : Mv).ck + 1 = _
    split
    · rw [Mv.put_ck]
    · rfl
  by_cases h1 : a.ki = 1
  · rw [if_pos h1, if_pos (show 1 ≤ a.ki ∧ a.ki ≤ 5 by omega)]; exact hd _ _ _
  rw [if_neg h1]
  by_cases h2 : a.ki = 2
  · rw [if_pos h2, if_pos (show 1 ≤ a.ki ∧ a.ki ≤ 5 by omega)]; exact hd _ _ _
  rw [if_neg h2]
  by_cases h3 : a.ki = 3
  · rw [if_pos h3, if_pos (show 1 ≤ a.ki ∧ a.ki ≤ 5 by omega)]; exact hd _ _ _
  rw [if_neg h3]
  by_cases h4 : a.ki = 4
  · rw [if_pos h4, if_pos (by omega)]; unfold Mv.flushM; split <;> rfl
  rw [if_neg h4]
  by_cases h5 : a.ki = 5
  · rw [if_pos h5, if_pos (by omega)]; unfold Mv.fenceM; split <;> rfl
  rw [if_neg h5, if_neg (by omega)]; omega
theorem did_wm (M : Mv) (x : Acc) (nw : Int) (pu : Bool) : (M.did x nw pu).wm = M.wm ∧ (M.did x nw pu).m = M.m ∧ (M.did x nw pu).d = M.d := by
  unfold Mv.did Mv.note
  show (if _ then _ else _ : Mv).wm = _ ∧ (if _ then _ else _ : Mv).m = _ ∧ (if _ then _ else _ : Mv).d = _
  split
  · unfold Mv.put; split <;> exact ⟨rfl, rfl, rfl⟩
  · exact ⟨rfl, rfl, rfl⟩
theorem acts_wm (M : Mv) (a : Acc) (v : Value) : (M.acts a v).wm ≤ M.wm + 1 ∧ (M.acts a v).m = M.m ∧ (M.acts a v).d = M.d := by
  unfold Mv.acts
  have hd : ∀ x nw pu, (M.did x nw pu).wm ≤ M.wm + 1 ∧ (M.did x nw pu).m = M.m ∧ (M.did x nw pu).d = M.d := fun x nw pu => by
    obtain ⟨a, b, c⟩ := did_wm M x nw pu
    exact ⟨by omega, b, c⟩
  split
  · exact hd _ _ _
  split
  · exact hd _ _ _
  split
  · exact hd _ _ _
  split
  · unfold Mv.flushM; split
    · exact ⟨by show M.wm ≤ M.wm + 1; omega, rfl, rfl⟩
    · exact ⟨by show M.wm ≤ M.wm + 1; omega, rfl, rfl⟩
  split
  · unfold Mv.fenceM; split
    · exact ⟨by show M.wm + 1 ≤ M.wm + 1; omega, rfl, rfl⟩
    · exact ⟨by show M.wm ≤ M.wm + 1; omega, rfl, rfl⟩
  · exact ⟨by omega, rfl, rfl⟩
end Go.Proofs.Ytpmjcinemabamaa

namespace Go.Proofs.Ytpmjcinemabamaa
open Go.RowKit
set_option linter.unusedVariables false

theorem rowsIn_wide {n : Nat} {P : Program} {row : String} {args : Array Value} {w : World} {R : Value → World → Prop} (h : Rows P row args w R) : RowsIn Fence.wide n P row args w R :=
  fun c cs _ => by
    obtain ⟨v, w', r, s⟩ := h c cs
    exact ⟨v, w', r, stepsIn_wide.2 s⟩
theorem oper_in {P : Program} {o : Oper} {a : Act} {w : World} {K : Act → World → Prop} {Q : Exit → Act → World → Prop} {l n : Nat} (hd : ∀ c, o.op ≠ .defer c) (h : o.wp P a w K Q) : o.wpIn (Fence.wide.inRound l) n P a w K Q := by
  refine ⟨fun _ _ => trivial, ?_⟩
  unfold Oper.wp at h
  rw [show (o.semAt (Fence.wide.inRound l).round a.eval) = execOp a.eval o from Oper.semAt_eq _ _ _ hd]
  generalize (execOp a.eval o).run P w = r at *
  cases r with
  | ok x w' =>
    cases x <;> first
      | exact h
      | exact ⟨(fun e => by cases e), CallsIn.inRound l (callsIn_wide.2 h)⟩
      | exact ⟨(fun e => by cases e), rowsIn_wide h⟩
      | exact h.elim
  | halt x w' => cases x <;> exact h
theorem any_in {P : Program} {md : Region.Mode} {ops : Array Oper} {Q : Exit → Act → World → Prop} {l n : Nat} (hd : ∀ (i : Nat) (o : Oper), ops[i]? = some o → ∀ c, o.op ≠ .defer c) (hQ : ¬ LetsOut Q) :
    ∀ (fuel : Nat) (listed : Array Bool) (a : Act) (w : World), wpAny P md ops Q fuel listed a w → wpAnyIn (Fence.wide.inRound l) n P md ops Q fuel listed a w := by
  intro fuel
  induction fuel with
  | zero => intro listed a w h; exact h
  | succ fuel ih =>
    intro listed a w h
    refine ⟨h.1, fun i hi => ?_⟩
    have hs := h.2 i hi
    unfold wpOp at hs
    unfold wpOpIn
    cases ho : ops[i]? with
    | none => rw [ho] at hs; exact ih _ _ _ hs
    | some o =>
      rw [ho] at hs
      simp only at hs ⊢
      split
      · rename_i hw
        rw [if_pos hw] at hs
        rcases hs with hs | ⟨-, hs⟩
        · exact Oper.wpIn_mono (fun a w h => ih _ _ _ h) (oper_in (hd i o ho) hs)
        · exact absurd hs hQ
      · rename_i hw
        rw [if_neg hw] at hs
        exact ⟨fun _ _ => trivial, ih _ _ _ hs⟩
/-- A region that draws, in a round. -/
theorem region_in {P : Program} {ops : Array Oper} {Q : Exit → Act → World → Prop} {l n id : Nat} {a : Act} {w : World} (hm : P.follows .mixedOrders = true) (hd : ∀ (i : Nat) (o : Oper), ops[i]? = some o → ∀ c, o.op ≠ .defer c) (hQ : ¬ LetsOut Q)
    (h : wpAny P .any ops Q ops.size (Array.replicate ops.size false) a w.drew) : (Code.region id ops true).wpIn (Fence.wide.inRound l) n P Q a w :=
  wpIn_region_any hm (any_in hd hQ _ _ _ _ h)

/-- 'append(s, x...)' as a step of a region that draws; where the new slice lies. -/
theorem step_append_at {P : Program} {ops : Array Oper} {o : Oper} {a : Act} {w : World} {K : Act → World → Prop} {Q : Exit → Act → World → Prop} {E : Prop} (hgd : o.guard = none) (s x : Operand) (t : TypeId)
    (ho : o.op = .call { callee := .builtin .append, args := #[s, x], argTypes := #[t, t] })
    (base : Nat) (e : TypeId) (i : TypeInfo) (z : Value) (size bytes : Nat) (ht : P.underlying t = some (.slice e)) (hi : P.info? e = some i) (hz : i.zero = some z)
    (hsize : i.size = size) (hby : i.bytes = bytes) (hzs : z.cells.size = size) (hsz : 0 < size)
    (v : Value) (n : Nat) (xs : List Value) (hs : a.eval s = v) (hown : w.ownsRow base e size v n xs)
    (ad : Addr) (m c : Nat) (news : List Value) (hx : a.eval x = .slice (some ad) m c) (hl : news.length = m * size) (hnews : ∀ j u, news[j]? = some u → w.cell? (ad.add j) = some u) (h1 : ∀ u ∈ news, u.oneCell' = true)
    (h63 : n + m ≤ maxLen) (hbytes : (n + m) * bytes ≤ 140737488355328) (hbase : base ≤ w.heap.size)
    (h : ∀ v' w', w'.ownsRow base e size v' (n + m) (xs ++ news) → w.grownBy w' v.ownBlock → (v'.ownBlock = v.ownBlock ∨ v'.ownBlock = some w.heap.size) → K (a.put o.dst v') w') :
    if Region.wanted o (yielded ops a.tmps) = true then Oper.wp P o a w K Q else E := by
  have hw : Region.wanted o (yielded ops a.tmps) = true := by simp [Region.wanted, hgd]
  rw [if_pos hw]
  obtain ⟨v', w', hr, h2, h3, h4, h5⟩ := run_append_own_at (P := P) w base t o.type e i z size bytes ht hi hz hsize hby hzs hsz v n xs hown ad m c news hl hnews h1 h63 hbytes hbase
  unfold Oper.wp execOp
  simp only [ho, resolve, invoke, builtin, Sem.run_bind, Sem.run_pure, Result.andThen_ok, List.map_toArray, List.map_cons, List.map_nil, hs, hx, hr]
  exact h v' w' h2 h3 h5
end Go.Proofs.Ytpmjcinemabamaa

namespace Go.Proofs.Ytpmjcinemabamaa
open Go.RowKit Go.BigFrame
set_option linter.unusedVariables false
set_option linter.unusedSimpArgs false

/-- What the iterator reads: what is left of a list of n elements from b, off on, behind k parts of eight. -/
def PartsAt (W : World) (b2 b3 b off n cap k : Nat) : Prop :=
  ∃ A, (8 * (k + 1) ≤ n → A = some ⟨b, off + 8 * k, none⟩) ∧ W.cell? ⟨b2, 0, none⟩ = some (.slice A (n - 8 * k) (cap - 8 * k)) ∧ W.cell? ⟨b3, 0, none⟩ = some (.int .i64 8) ∧ W.frozen? ⟨b2, 0, none⟩ = false
set_option maxRecDepth 100000 in
theorem iter71 (m l b2 b3 b off n cap : Nat) (hne : b2 ≠ b3) (hm : 1 ≤ m) (hn : n ≤ cap) (hc : cap ≤ 9223372036854775807) (J J' : Nat → World → Prop)
    (hJ : ∀ k W, J k W → PartsAt W b2 b3 b off n cap k)
    (hJ' : ∀ k W, J' k W → PartsAt W b2 b3 b off n cap k)
    (hY : ∀ k W, 8 * (k + 1) ≤ n → J k W → YieldAt Fence.wide (m - 1) Try.prog l #[.slice (some ⟨b, off + 8 * k, none⟩) 8 8] W fun e W' => e = .returned (.bool true) ∧ J' k W')
    (hN : ∀ k W A, 8 * (k + 1) ≤ n → J' k W → (8 * (k + 1 + 1) ≤ n → A = some ⟨b, off + 8 * (k + 1), none⟩) → J (k + 1) (W.setCell ⟨b2, 0, none⟩ (.slice A (n - 8 * (k + 1)) (cap - 8 * (k + 1)))))
    (W : World) (h0 : J 0 W) :
    CallsIn Fence.wide m Try.prog 71 #[.func (.yield l) #[] #[], .pointer (some ⟨b2, 0, none⟩), .pointer (some ⟨b3, 0, none⟩)] W fun e W' => (∃ v, e = .returned v) ∧ J (n / 8) W' := by
  have HJ := Lib.hid hJ
  have HJ' := Lib.hid hJ'
  have HY := Lib.hid hY
  have HN := Lib.hid hN
  have H0 := Lib.hid h0
  clear hJ hJ' hY hN h0
  refine callsIn_of_wp Try.func71 rfl trivial ?_ rfl
  simp only [Try.ntmps71, List.size_toArray, List.length_cons, List.length_nil, Nat.reduceAdd, Nat.reduceSub, Array.replicate_succ, Array.replicate_zero, List.push_toArray, List.append_toArray, List.nil_append, List.cons_append]
  gi_wp2
  gi_loopg [] (n / 8) (fun g wr => ∃ k : Nat, k + g = n / 8 ∧ Hid (J k wr))
  case atStart => exact ⟨0, by omega, H0⟩
  case round =>
    obtain ⟨k, hk, HK⟩ := hrel
    obtain ⟨A, hA, c2, c3, f2⟩ := HJ.out k wr HK.out
    by_cases hlt : 8 * (k + 1) ≤ n
    · obtain rfl := hA (by omega)
      obtain ⟨fn, tmps, assign, body, hy, hR⟩ := HY.out k wr hlt HK.out
      have HR := Lib.hid hR
      have HL := Lib.hid hlt
      obtain ⟨r, hr⟩ : ∃ r, r = n - 8 * k := ⟨_, rfl⟩
      obtain ⟨q, hq⟩ : ∃ q, q = cap - 8 * k := ⟨_, rfl⟩
      rw [← hr, ← hq] at c2
      have d1 : decide ((8 : Int) ≤ (r : Int)) = true := bool_yes (by omega)
      have i1 : (8 : Int) ≤ (q : Int) := by omega
      have i2 : (8 : Int) ≤ (r : Int) := by omega
      have i3 : (r : Int) ≤ (q : Int) := by omega
      have HRQ : Hid (r = n - 8 * k ∧ q = cap - 8 * k) := Lib.hid ⟨hr, hq⟩
      obtain ⟨o, ho⟩ : ∃ o, o = off + 8 * k := ⟨_, rfl⟩
      rw [← ho] at c2 hy
      have HO := Lib.hid ho
      clear hA hr hq ho hR hlt HY HJ
      gi_wp2
      refine HR.out.mono ?_
      rintro e W' ⟨rfl, hj⟩
      have HK2 := Lib.hid hj
      obtain ⟨A2, hA2, e2, e3, g2⟩ := HJ'.out k W' hj
      obtain rfl := hA2 (by have := HL.out; omega)
      rw [← HO.out, ← HRQ.out.1, ← HRQ.out.2] at e2
      clear hj hA2 c2 c3 f2 hy HR
      by_cases hq8 : q = 8
      · have hN1 := HN.out k W' (some ⟨b, o, none⟩) HL.out HK2.out (fun h => by have := HRQ.out.2; have := HL.out; omega)
        have hN2 : J (k + 1) (W'.setCell ⟨b2, 0, none⟩ (.slice (some ⟨b, o, none⟩) (r - 8) (q - 8))) := by
          rw [show r - 8 = n - 8 * (k + 1) by have := HRQ.out; omega, show q - 8 = cap - 8 * (k + 1) by have := HRQ.out; omega]; exact hN1
        have HN2 := Lib.hid hN2
        clear hN1 hN2
        subst hq8
        gi_wp2
        go_roundg (gk - 1)
        case rel => exact ⟨k + 1, by have := HL.out; omega, HN2⟩
        case measure => have := HL.out; omega
      · have hN1 := HN.out k W' (some ⟨b, o + 8, none⟩) HL.out HK2.out (fun _ => by rw [HO.out]; congr 2)
        have hN2 : J (k + 1) (W'.setCell ⟨b2, 0, none⟩ (.slice (some ⟨b, o + 8, none⟩) (r - 8) (q - 8))) := by
          rw [show r - 8 = n - 8 * (k + 1) by have := HRQ.out; omega, show q - 8 = cap - 8 * (k + 1) by have := HRQ.out; omega]; exact hN1
        have HN2 := Lib.hid hN2
        have q1 : (8 == q) = false := by simp; omega
        have q2 : (q == 8) = false := by simp; omega
        clear hN1 hN2
        gi_wp2
        go_roundg (gk - 1)
        case rel => exact ⟨k + 1, by have := HL.out; omega, HN2⟩
        case measure => have := HL.out; omega
    · have HL := Lib.hid hlt
      have hkn : k = n / 8 := by omega
      have HR : Hid (n - 8 * k < 8) := Lib.hid (by omega)
      generalize n - 8 * k = r at *
      have d1 : decide ((8 : Int) ≤ (r : Int)) = false := bool_no (by have := HR.out; omega)
      have HKN := Lib.hid hkn
      clear hkn hlt hA
      gi_wp2
      go_end0
      exact ⟨⟨_, rfl⟩, by rw [← HKN.out]; exact HK.out⟩
end Go.Proofs.Ytpmjcinemabamaa

namespace Go.Proofs.Ytpmjcinemabamaa
open Go.RowKit Go.BigFrame
set_option linter.unusedVariables false
set_option linter.unusedSimpArgs false

theorem own_slice {w : World} {base : Nat} {e : TypeId} {size : Nat} {v : Value} {n : Nat} {xs : List Value} (h : w.ownsRow base e size v n xs) : ∃ a m c, v = .slice a m c := by
  rcases h.2 with ⟨rfl, -⟩ | ⟨g, cap, cur, rfl, -⟩
  · exact ⟨_, _, _, rfl⟩
  · exact ⟨_, _, _, rfl⟩
theorem own_slice_n {w : World} {base : Nat} {e : TypeId} {size : Nat} {v : Value} {n : Nat} {xs : List Value} (h : w.ownsRow base e size v n xs) : ∃ a c, v = .slice a n c := by
  rcases h.2 with ⟨rfl, rfl⟩ | ⟨g, cap, cur, rfl, -⟩
  · exact ⟨_, _, rfl⟩
  · exact ⟨_, _, rfl⟩
theorem own_lt {w : World} {base : Nat} {e : TypeId} {size : Nat} {v : Value} {n : Nat} {xs : List Value} (h : w.ownsRow base e size v n xs) {k : Nat} (hk : v.ownBlock = some k) : base ≤ k ∧ k < w.heap.size := by
  rcases h.2 with ⟨rfl, -⟩ | ⟨g, cap, cur, rfl, hb, hg, -⟩
  · cases hk
  · cases hk; exact ⟨hb, (Array.getElem?_eq_some_iff.1 hg).1⟩
theorem own_cells {w : World} {base : Nat} {e : TypeId} {size : Nat} {v : Value} {n : Nat} {xs : List Value} (h : w.ownsRow base e size v n xs) {k : Nat} (hk : v.ownBlock = some k) : ∃ cs t f, w.heap[k]? = some (.cells cs t f) := by
  rcases h.2 with ⟨rfl, -⟩ | ⟨g, cap, cur, rfl, hb, hg, -⟩
  · cases hk
  · cases hk; exact ⟨_, _, _, hg⟩
theorem own_keep1 {w w' : World} {base : Nat} {e : TypeId} {size : Nat} {v : Value} {n : Nat} {xs : List Value} (h : w.ownsRow base e size v n xs) (hk : ∀ k, v.ownBlock = some k → w'.heap[k]? = w.heap[k]?) : w'.ownsRow base e size v n xs := by
  refine ⟨h.1, ?_⟩
  rcases h.2 with hn | ⟨g, cap, cur, rfl, hb, hg, rest⟩
  · exact .inl hn
  · exact .inr ⟨g, cap, cur, rfl, hb, (hk g rfl).trans hg, rest⟩
theorem own_row {w : World} {base : Nat} {e : TypeId} {size : Nat} {v : Value} {n : Nat} {xs : List Value} (h : w.ownsRow base e size v n xs) (hn : 0 < n) : ∃ g cap c, v = .slice (some ⟨g, 0, none⟩) n cap ∧ base ≤ g ∧ w.heap[g]? = some (.cells c e (0, 0)) ∧ n ≤ cap ∧ c.size = cap * size ∧ ∀ j, j < n * size → c[j]? = xs[j]? := by
  rcases h.2 with ⟨-, rfl⟩ | ⟨g, cap, cur, rfl, hb, hg, h1, h2, h3, h4⟩
  · omega
  · refine ⟨g, cap, cur, rfl, hb, hg, h1, h3, fun j hj => ?_⟩
    rw [← h4, List.getElem?_take, if_pos hj]; simp
theorem cells_at {W : World} {b o : Nat} {v : Value} (h : W.cell? ⟨b, o, none⟩ = some v) : ∃ cs t f, W.heap[b]? = some (.cells cs t f) := by
  unfold World.cell? at h
  split at h
  · rename_i c t f e; exact ⟨c, t, f, e⟩
  · cases h
/-- What is no row of cells lies as it lay. -/
def Stays (W W' : World) : Prop := ∀ (k : Nat) (o : Obj), W.heap[k]? = some o → o.isCells = false → W'.heap[k]? = some o
theorem Stays.trans {A B C : World} (h : Stays A B) (k : Stays B C) : Stays A C := fun q o a b => k q o (h q o a b) b
theorem stays_below {W W' : World} (h : Below W.heap.size W W') : Stays W W' := fun k o hk _ => (h.block k (Array.getElem?_eq_some_iff.1 hk).1).trans hk
theorem stays_set {W : World} {p o : Nat} {v u : Value} (h : W.cell? ⟨p, o, none⟩ = some u) (j : Nat) : Stays W (W.setCell ⟨p, j, none⟩ v) := fun k ob hk hc => by
  by_cases e : k = p
  · subst e
    obtain ⟨cs, t, f, he⟩ := cells_at h
    rw [hk] at he; cases he; cases hc
  · rw [heap_set_other e]; exact hk
structure CutAt (w0 W : World) (po b2 b3 b off n cap : Nat) (f : Nat → Int) (k j : Nat) : Prop where
  below : Below w0.heap.size w0 W
  parts : PartsAt W b2 b3 b off n cap k
  out : ∃ v, W.cell? ⟨po, 0, none⟩ = some v ∧ W.ownsRow w0.heap.size 102 8 v j (wordsL f (8 * j)) ∧ v.ownBlock ≠ some po ∧ v.ownBlock ≠ some b2 ∧ v.ownBlock ≠ some b3
  fpo : W.frozen? ⟨po, 0, none⟩ = false
  h1 : w0.heap.size ≤ po ∧ po < W.heap.size
  h2 : w0.heap.size ≤ b2 ∧ b2 < W.heap.size
  h3 : w0.heap.size ≤ b3 ∧ b3 < W.heap.size
theorem PartsAt.keep {W W' : World} {b2 b3 b off n cap k : Nat} (h : PartsAt W b2 b3 b off n cap k) (e2 : W'.heap[b2]? = W.heap[b2]?) (e3 : W'.heap[b3]? = W.heap[b3]?) : PartsAt W' b2 b3 b off n cap k := by
  obtain ⟨A, a, c2, c3, f2⟩ := h
  exact ⟨A, a, (cell_of_heap e2 0).trans c2, (cell_of_heap e3 0).trans c3, (frozen_of_heap e2 0).trans f2⟩
theorem CutAt.same {w0 W W' : World} {po b2 b3 b off n cap : Nat} {f : Nat → Int} {k j : Nat} (h : CutAt w0 W po b2 b3 b off n cap f k j) (hs : W.heap.size ≤ W'.heap.size)
    (he : ∀ (g : Nat) (cs : Array Value) (t : TypeId) (q : Nat × Nat), W.heap[g]? = some (.cells cs t q) → W'.heap[g]? = some (.cells cs t q)) (hb : Below w0.heap.size w0 W') : CutAt w0 W' po b2 b3 b off n cap f k j := by
  have e : ∀ g : Nat, (∃ cs t q, W.heap[g]? = some (.cells cs t q)) → W'.heap[g]? = W.heap[g]? := fun g ⟨cs, t, q, hg⟩ => (he g cs t q hg).trans hg.symm
  obtain ⟨A, a, c2, c3, f2⟩ := h.parts
  obtain ⟨v, hv, ho, n1, n2, n3⟩ := h.out
  refine ⟨hb, h.parts.keep (e _ (cells_at c2)) (e _ (cells_at c3)), ⟨v, (cell_of_heap (e _ (cells_at hv)) 0).trans hv, own_keep1 ho fun q hq => e _ (own_cells ho hq), n1, n2, n3⟩, (frozen_of_heap (e _ (cells_at hv)) 0).trans h.fpo,
    ⟨h.h1.1, by have := h.h1.2; omega⟩, ⟨h.h2.1, by have := h.h2.2; omega⟩, ⟨h.h3.1, by have := h.h3.2; omega⟩⟩
theorem CutAt.grow {w0 W W' : World} {po b2 b3 b off n cap : Nat} {f : Nat → Int} {k j : Nat} (h : CutAt w0 W po b2 b3 b off n cap f k j) (hb : Below W.heap.size W W') : CutAt w0 W' po b2 b3 b off n cap f k j :=
  h.same hb.size (fun g cs t f he => (hb.block g (Array.getElem?_eq_some_iff.1 he).1).trans he) (h.below.trans (hb.mono h.below.size))
theorem grownBy_putObj' (W : World) (l : Nat) (o' : Obj) : W.grownBy (W.putObj l o') (some l) :=
  ⟨rfl, rfl, rfl, by simp [World.putObj], fun i hi hne => World.putObj_heap_other (fun e => hne (by rw [e]))⟩
theorem CutAt.put {w0 W : World} {po b2 b3 b off n cap : Nat} {f : Nat → Int} {k j : Nat} (h : CutAt w0 W po b2 b3 b off n cap f k j) {l : Nat} {o : Obj} (hl : W.heap[l]? = some o) (ho : o.isCells = false) (hw : w0.heap.size ≤ l) (o' : Obj) : CutAt w0 (W.putObj l o') po b2 b3 b off n cap f k j := by
  have hg := grownBy_putObj' W l o'
  refine h.same hg.size (fun g cs t f he => ?_) (h.below.grown hg h.below.size (fun k e => by cases e; exact hw))
  rw [World.putObj_heap_other (by rintro rfl; rw [hl] at he; cases he; cases ho)]
  exact he
/-- What is left is told anew. -/
theorem CutAt.next {w0 W : World} {po b2 b3 b off n cap : Nat} {f : Nat → Int} {k j : Nat} (h : CutAt w0 W po b2 b3 b off n cap f k j) (n1 : po ≠ b2) (n2 : b2 ≠ b3) {A : Option Addr} (hA : 8 * (k + 1 + 1) ≤ n → A = some ⟨b, off + 8 * (k + 1), none⟩) :
    CutAt w0 (W.setCell ⟨b2, 0, none⟩ (.slice A (n - 8 * (k + 1)) (cap - 8 * (k + 1)))) po b2 b3 b off n cap f (k + 1) j := by
  obtain ⟨A0, a, c2, c3, f2⟩ := h.parts
  obtain ⟨v, hv, ho, m1, m2, m3⟩ := h.out
  refine ⟨h.below.setCell h.h2.1 _, ⟨A, hA, cell_set_at _ c2, (cell_of_heap (heap_set_other (Ne.symm n2)) 0).trans c3, by rw [World.frozen?_setCell]; exact f2⟩, ⟨v, (cell_of_heap (heap_set_other n1) 0).trans hv, own_keep1 ho fun q hq => heap_set_other (fun e => m2 (e ▸ hq)), m1, m2, m3⟩, by rw [World.frozen?_setCell]; exact h.fpo,
    by simpa using h.h1, by simpa using h.h2, by simpa using h.h3⟩
/-- A line is put behind. -/
theorem CutAt.add {w0 W W1 w' : World} {po b2 b3 b off n cap : Nat} {f : Nat → Int} {k : Nat} (h : CutAt w0 W po b2 b3 b off n cap f k k) (n1 : po ≠ b2) (n2 : b2 ≠ b3) (n3 : po ≠ b3) {v v' : Value} (hv : W.cell? ⟨po, 0, none⟩ = some v) (hb : Below W.heap.size W W1)
    (ho' : w'.ownsRow w0.heap.size 102 8 v' (k + 1) (wordsL f (8 * (k + 1)))) (hg : W1.grownBy w' v.ownBlock) (hbl : v'.ownBlock = v.ownBlock ∨ v'.ownBlock = some W1.heap.size) :
    CutAt w0 (w'.setCell ⟨po, 0, none⟩ v') po b2 b3 b off n cap f k (k + 1) ∧ Stays W (w'.setCell ⟨po, 0, none⟩ v') := by
  obtain ⟨v0, hv0, ho0, m1, m2, m3⟩ := h.out
  obtain rfl : v0 = v := by rw [hv] at hv0; cases hv0; rfl
  obtain ⟨A0, a, c2, c3, f2⟩ := h.parts
  have z1 := hb.size
  have z2 := hg.size
  have kA : ∀ g, g < W.heap.size → v0.ownBlock ≠ some g → w'.heap[g]? = W.heap[g]? := fun g hg' e => (hg.block g (by omega) (Ne.symm e)).trans (hb.block g hg')
  have kB : ∀ g, g < W.heap.size → v0.ownBlock ≠ some g → g ≠ po → (w'.setCell ⟨po, 0, none⟩ v').heap[g]? = W.heap[g]? := fun g hg' e e2 => (heap_set_other e2).trans (kA g hg' e)
  have nn : ∀ g, g < W.heap.size → v0.ownBlock ≠ some g → v'.ownBlock ≠ some g := fun g hg' e e2 => by
    rcases hbl with q | q
    · exact e (by rw [← q]; exact e2)
    · rw [q] at e2; cases e2; omega
  have l1 := h.h1
  have l2 := h.h2
  have l3 := h.h3
  refine ⟨⟨?_, h.parts.keep (kB b2 l2.2 m2 (Ne.symm n1)) (kB b3 l3.2 m3 (Ne.symm n3)), ⟨v', cell_set_at _ ((cell_of_heap (kA po l1.2 m1) 0).trans hv), own_keep1 ho' fun q hq => heap_set_other (fun e => nn po l1.2 m1 (e ▸ hq)), nn po l1.2 m1, nn b2 l2.2 m2, nn b3 l3.2 m3⟩, ?_, ?_, ?_, ?_⟩, ?_⟩
  · exact ((h.below.trans (hb.mono h.below.size)).grown hg (by have := h.below.size; omega) (fun q e => (own_lt ho0 e).1)).setCell l1.1 _
  · rw [World.frozen?_setCell, frozen_of_heap (kA po l1.2 m1)]; exact h.fpo
  · simp only [World.size_setCell]; omega
  · simp only [World.size_setCell]; omega
  · simp only [World.size_setCell]; omega
  · intro q o hq hc
    have hlt := (Array.getElem?_eq_some_iff.1 hq).1
    have hne : ∀ {g}, (∃ cs t f, W.heap[g]? = some (.cells cs t f)) → q ≠ g := by
      rintro g ⟨cs, t, f, he⟩ rfl
      rw [hq] at he; cases he; cases hc
    rw [kB q hlt (fun e => hne (own_cells ho0 e) rfl) (hne (cells_at hv))]; exact hq
end Go.Proofs.Ytpmjcinemabamaa

namespace Go.Proofs.Ytpmjcinemabamaa
open Go.RowKit Go.BigFrame
set_option linter.unusedVariables false
set_option linter.unusedSimpArgs false

/-- Left off its end. -/
def Ended (R : World → Prop) : Exit → Act → World → Prop
  | .normal, _, w => R w
  | _, _, _ => False
theorem range71 {assign body : Code} {Q : Exit → Act → World → Prop} {a : Act} {g : Operand} {w0 w : World} {po b2 b3 b off n cap : Nat} {f : Nat → Int} (hn : n ≤ cap) (hc : cap ≤ 9223372036854775807) (n1 : po ≠ b2) (n2 : b2 ≠ b3)
    (hg : a.eval g = .func (.func 71) #[] #[.pointer (some ⟨b2, 0, none⟩), .pointer (some ⟨b3, 0, none⟩)])
    (h0 : CutAt w0 w po b2 b3 b off n cap f 0 0)
    (hassign : ∀ (l : Nat) (v : Value) (W : World) (K : Act → World → Prop), K { tmps := (a.tmps.setIfInBounds 15 v).setIfInBounds 6 v, defers := [] } W →
      assign.wpIn (Fence.wide.inRound l) 7 Try.prog (Exit.then K (fun _ _ _ => False)) { tmps := a.tmps.setIfInBounds 15 v, defers := [] } W)
    (hbody : ∀ (l k : Nat) (W : World), 8 * (k + 1) ≤ n → CutAt w0 W po b2 b3 b off n cap f k k →
      body.wpIn (Fence.wide.inRound l) 7 Try.prog (Ended fun W' => CutAt w0 W' po b2 b3 b off n cap f k (k + 1) ∧ Stays W W') { tmps := (a.tmps.setIfInBounds 15 (.slice (some ⟨b, off + 8 * k, none⟩) 8 8)).setIfInBounds 6 (.slice (some ⟨b, off + 8 * k, none⟩) 8 8), defers := [] } W)
    (hdone : ∀ (D : Nat) (W : World), w0.heap.size ≤ D → CutAt w0 W po b2 b3 b off n cap f (n / 8) (n / 8) → W.heap[D]? = some (.deferred (some [])) → Q .normal { a with defers := { target := .collected D, args := #[] } :: a.defers } W) :
    (Code.rangeFunc g #[15] assign body).wpIn Fence.wide 9 Try.prog Q a w := by
  refine wpIn_rangeFunc ?_
  intro fn hfn
  obtain ⟨rec, hrec⟩ : ∃ rec : LoopState → Option Code → Loop, rec = fun st pe => { state := st, pending := pe, fn, tmps := a.tmps, params := #[15], assign, body, defers := w.heap.size } := ⟨_, rfl⟩
  obtain ⟨W1, hW1⟩ : ∃ W1, (w.alloc (.deferred (some []))).alloc (.loop (rec .ready none)) = W1 := ⟨_, rfl⟩
  have hsw := h0.below.size
  have hL1 : W1.heap[w.heap.size + 1]? = some (.loop (rec .ready none)) := by
    rw [← hW1]; have := World.alloc_heap_new (w.alloc (.deferred (some []))) (.loop (rec .ready none)); rwa [World.size_alloc] at this
  have hK1 : W1.heap[w.heap.size]? = some (.deferred (some [])) := by
    rw [← hW1]; exact (Below.heap_alloc _ _ _ (by simp)).trans (World.alloc_heap_new w _)
  have hI1 : CutAt w0 W1 po b2 b3 b off n cap f 0 0 := h0.grow (by rw [← hW1]; exact ((Below.refl _ w).alloc (Nat.le_refl _) _).alloc (by simp) _)
  refine ⟨w.heap.size + 1, [{ target := .collected w.heap.size, args := #[] }], W1, { target := .fn (.func 71) #[.pointer (some ⟨b2, 0, none⟩), .pointer (some ⟨b3, 0, none⟩)], args := #[.func (.yield (w.heap.size + 1)) #[] #[]] }, W1, 71,
    #[.func (.yield (w.heap.size + 1)) #[] #[]] ++ #[.pointer (some ⟨b2, 0, none⟩), .pointer (some ⟨b3, 0, none⟩)], W1, ?_, ?_, ?_, ?_, fun _ => by omega, ?_⟩
  · rw [← hW1, hrec]; exact run_enterLoop_outer _ _ _ _ _
  · simp only [resolve, hg]
    simp [go_sem]
  · intro f' hf'; simp [Target.leads] at hf'; subst hf'; trivial
  · have eg : ∀ args w, (callFunc 71 args).run Try.prog w = .ok (.enter 71 args) w := enters_at Try.func71 (by kernel_rfl) rfl
    simp [invoke, go_sem, eg]
  · have K : ∀ (k j : Nat), World → Prop := fun _ _ _ => True
    refine (iter71 8 (w.heap.size + 1) b2 b3 b off n cap n2 (by omega) hn hc
      (fun k W => CutAt w0 W po b2 b3 b off n cap f k k ∧ W.heap[w.heap.size + 1]? = some (.loop (rec .ready none)) ∧ W.heap[w.heap.size]? = some (.deferred (some [])))
      (fun k W => CutAt w0 W po b2 b3 b off n cap f k (k + 1) ∧ W.heap[w.heap.size + 1]? = some (.loop (rec .ready none)) ∧ W.heap[w.heap.size]? = some (.deferred (some [])))
      (fun k W h => h.1.parts) (fun k W h => h.1.parts) ?_ ?_ W1 ⟨hI1, hL1, hK1⟩).mono ?_
    · rintro k W hk ⟨hi, hl, hkk⟩
      have hlt : w.heap.size + 1 < W.heap.size := (Array.getElem?_eq_some_iff.1 hl).1
      have hy : (Instr.yield (w.heap.size + 1) #[.slice (some ⟨b, off + 8 * k, none⟩) 8 8]).run Try.prog W = .ok (.round (w.heap.size + 1) fn (a.tmps.setIfInBounds 15 (.slice (some ⟨b, off + 8 * k, none⟩) 8 8)) assign body) W := by
        refine (run_yield (P := Try.prog) (args := #[.slice (some ⟨b, off + 8 * k, none⟩) 8 8]) hl (by rw [hrec]; rfl)).trans ?_
        rw [hrec]
        simp
      refine ⟨fn, _, assign, body, hy, roundIn_of_wpIn hfn (hassign _ _ W _ ⟨_, run_beginRound hl (by rw [hrec]), ?_⟩)⟩
      have hl2 : (W.putObj (w.heap.size + 1) (.loop { rec .ready none with state := .busy })).heap[w.heap.size + 1]? = some (.loop { rec .ready none with state := .busy }) := World.putObj_heap_same hlt
      have hk2 : (W.putObj (w.heap.size + 1) (.loop { rec .ready none with state := .busy })).heap[w.heap.size]? = some (.deferred (some [])) := (World.putObj_heap_other (by omega)).trans hkk
      refine wpIn_mono (hbody _ k _ hk (hi.put hl rfl (by omega) _)) ?_
      rintro e a3 W3 hp
      cases e with
      | normal =>
        obtain ⟨hi3, hs3⟩ := hp
        have hl3 := hs3 _ _ hl2 rfl
        have hk3 := hs3 _ _ hk2 rfl
        have hend := run_endRound (P := Try.prog) none hl3
        refine ⟨_, _, hend, rfl, hi3.put hl3 rfl (by omega) _, ?_, (World.putObj_heap_other (by omega)).trans hk3⟩
        rw [World.putObj_heap_same (Array.getElem?_eq_some_iff.1 hl3).1, hrec]
        rfl
      | _ => exact hp.elim
    · rintro k W A hk ⟨hi, hl, hkk⟩ hA
      obtain ⟨A0, -, c2, -, -⟩ := hi.parts
      have hs := stays_set (v := .slice A (n - 8 * (k + 1)) (cap - 8 * (k + 1))) c2 0
      exact ⟨hi.next n1 n2 hA, hs _ _ hl rfl, hs _ _ hkk rfl⟩
    · rintro e W2 ⟨⟨v, rfl⟩, hi, hl, hk⟩
      exact ⟨none, _, by have := run_endLoop (P := Try.prog) hl (by rw [hrec]; simp); rw [hrec] at this; exact this, hdone _ _ hsw (hi.put hl rfl (by omega) _) ((World.putObj_heap_other (by omega)).trans hk)⟩
theorem parts50 (v : Value) (hv : ∃ a m c, v = .slice a m c) (n : Int) (w : World) : Calls Try.prog 50 #[v, .int .i64 n] w fun e w' =>
    e = .returned (.func (.func 71) #[] #[.pointer (some ⟨w.heap.size, 0, none⟩), .pointer (some ⟨w.heap.size + 1, 0, none⟩)]) ∧ w' = (w.alloc (.cells #[v] 22)).alloc (.cells #[.int .i64 n] 3) := by
  obtain ⟨a, m, c, rfl⟩ := hv
  have hmf : ∀ (fn : Fn) (first cap : Array Value) (w : World), (Instr.makeFunc fn first cap).run Try.prog w = .ok (.func fn first cap) w := fun _ _ _ _ => rfl
  go_enter Try.func50, Try.ntmps50
  go_wp2_with fail
  go_ret
  exact ⟨rfl, rfl⟩
end Go.Proofs.Ytpmjcinemabamaa

namespace Go.Proofs.Ytpmjcinemabamaa
open Go.RowKit Go.BigFrame
set_option linter.unusedVariables false
set_option linter.unusedSimpArgs false

theorem new19_no (d : Nat) (np : Int) (h : np < 0 ∨ 262144 < np) (w : World) : Calls Try.prog 19 #[.pointer (some ⟨d, 0, none⟩), .int .i64 np] w (Tells (.tuple #[.pointer none, .int .i64 1]) w) := by
  by_cases h0 : np < 0
  · have d0 : decide (np < 0) = true := bool_yes h0
    go_enter Try.func19, Try.ntmps19
    go_wp2_with fail
    go_ret2
    exact ⟨rfl, Below.refl _ _, rfl⟩
  · have d0 : decide (np < 0) = false := bool_no h0
    have d1 : decide (262144 < np) = true := bool_yes (by omega)
    go_enter Try.func19, Try.ntmps19
    go_wp2_with fail
    go_ret2
    exact ⟨rfl, Below.refl _ _, rfl⟩
theorem open18_no (a : Option Addr) (n cap : Nat) (t : Int) (h : ¬ (1 ≤ t ∧ t ≤ 64)) (w : World) : Calls Try.prog 18 #[.slice a n cap, .int .i64 t] w (Tells (.tuple #[.pointer none, .int .i64 1]) w) := by
  have HT := Lib.hid (threads34 t w)
  rw [bool_no h] at HT
  clear h
  go_enter Try.func18, Try.ntmps18
  go_wp2_with fail
  refine HT.out.mono ?_
  rintro e w' ⟨rfl, hw⟩
  cases hw
  go_wp2_with fail
  go_ret2
  exact ⟨rfl, Below.refl _ _, rfl⟩
end Go.Proofs.Ytpmjcinemabamaa

namespace Go.Proofs.Ytpmjcinemabamaa
open Go.RowKit Go.BigFrame
set_option linter.unusedVariables false
set_option linter.unusedSimpArgs false

theorem info102 : (Try.prog.info? 102).map (fun i => (i.zero, i.size, i.bytes)) = some (some (.agg #[.int .u64 0, .int .u64 0, .int .u64 0, .int .u64 0, .int .u64 0, .int .u64 0, .int .u64 0, .int .u64 0]), 8, 64) := by kernel_rfl
theorem step_line {ops : Array Oper} {o : Oper} {a : Act} {w : World} {K : Act → World → Prop} {Q : Exit → Act → World → Prop} {E : Prop} (hgd : o.guard = none) (t : Nat) (ho : o.op = .buildSlice 73 1 #[(0, .tmp t)]) (v0 v1 v2 v3 v4 v5 v6 v7 : Int)
    (hs : a.tmps[t]?.getD undef = .agg #[.int .u64 v0, .int .u64 v1, .int .u64 v2, .int .u64 v3, .int .u64 v4, .int .u64 v5, .int .u64 v6, .int .u64 v7])
    (h : K (a.put o.dst (.slice (some ⟨w.heap.size, 0, none⟩) 1 1)) (w.alloc (.cells #[.int .u64 v0, .int .u64 v1, .int .u64 v2, .int .u64 v3, .int .u64 v4, .int .u64 v5, .int .u64 v6, .int .u64 v7] 102))) :
    if Region.wanted o (yielded ops a.tmps) = true then Oper.wp Try.prog o a w K Q else E := by
  have hw : Region.wanted o (yielded ops a.tmps) = true := by simp [Region.wanted, hgd]
  rw [if_pos hw]
  obtain ⟨o1, o2, o3, o4, o5, o6⟩ := o
  subst ho
  simp [Oper.wp, go_sem, hs]
  exact h
/-- Words were cut into lines, or not. -/
def CutTo (f : Nat → Int) (n : Nat) (w : World) (e : Ending) (w' : World) : Prop :=
  ∃ v, e = .returned (.tuple #[v, .int .i64 0]) ∧ Below w.heap.size w w' ∧ w'.ownsRow w.heap.size 102 8 v (n / 8) (wordsL f (8 * (n / 8)))
def wholeE (n : Nat) : Int := if (n : Int) % 8 ≠ 0 then 3 else if 262144 < (n : Int) / 8 then 2 else 0
theorem cut35_no (a : Option Addr) (n cap : Nat) (hn : n ≤ 9223372036854775807) (he : wholeE n ≠ 0) (w : World) : Calls Try.prog 35 #[.slice a n cap] w (Tells (.tuple #[.slice none 0 0, .int .i64 (wholeE n)]) w) := by
  have HW := Lib.hid (whole49 n hn w)
  rw [show (if (n : Int) % 8 ≠ 0 then (3 : Int) else if 262144 < (n : Int) / 8 then 2 else 0) = wholeE n from rfl] at HW
  generalize wholeE n = e at *
  have e1 : (e != 0) = true := by simpa using he
  clear he
  go_enter Try.func35, Try.ntmps35
  go_wp2_with fail
  with_reducible refine HW.out.mono ?_
  rintro e w' ⟨rfl, hw⟩
  cases hw
  go_wp2_with fail
  go_ret2
  exact ⟨rfl, Below.refl _ _, rfl⟩
/-- Left by its end or by ret alone. -/
def OnlyRet (Q : Exit → Act → World → Prop) : Exit → Act → World → Prop
  | .ret, a, w => Q .ret a w
  | .normal, a, w => Q .normal a w
  | _, _, _ => False
theorem OnlyRet.out {Q : Exit → Act → World → Prop} (e : Exit) (a : Act) (w : World) (h : OnlyRet Q e a w) : Q e a w := by
  cases e <;> first | exact h | exact h.elim
set_option maxRecDepth 100000 in
set_option maxHeartbeats 4000000 in
theorem cut35 (a0 : Option Addr) (b off n cap : Nat) (ha : 8 ≤ n → a0 = some ⟨b, off, none⟩) (hn : n ≤ cap) (hc : cap ≤ 9223372036854775807) (he : wholeE n = 0) (f : Nat → Int) (w0 : World) (hb : 0 < n → b < w0.heap.size) (hw : ∀ j, j < n → w0.cell? ⟨b, off + j, none⟩ = some (.int .u64 (f j))) :
    Calls Try.prog 35 #[.slice a0 n cap] w0 (CutTo f n w0) := by
  have HW := Lib.hid (whole49 n (by omega) w0)
  rw [show (if (n : Int) % 8 ≠ 0 then (3 : Int) else if 262144 < (n : Int) / 8 then 2 else 0) = 0 from he] at HW
  have HN : Hid (n % 8 = 0 ∧ n / 8 ≤ 262144) := Lib.hid (by unfold wholeE at he; split at he; omega; split at he; omega; omega)
  have HB := Lib.hid hb
  have HA := Lib.hid ha
  have HD := Lib.hid hw
  have HC := Lib.hid (And.intro hn hc)
  clear hb hw hn hc he ha
  refine (callsIn_wide (n := 9)).1 (callsIn_of_wp_marks Try.func35 rfl trivial ?_ rfl)
  refine wpIn_wide.2 ?_
  simp only [Try.ntmps35, List.size_toArray, List.length_cons, List.length_nil, Nat.reduceAdd, Nat.reduceSub, Array.replicate_succ, Array.replicate_zero, List.push_toArray, List.append_toArray, List.nil_append, List.cons_append]
  go_wp2_with fail
  with_reducible refine HW.out.mono ?_
  rintro e w' ⟨rfl, hw⟩
  cases hw
  go_wp2_with (go_at_call 50; refine (parts50 _ ⟨_, _, _, rfl⟩ _ _).mono ?_; rintro e w3 ⟨rfl, hw3⟩; have HW3 := Lib.hid hw3; clear hw3)
  obtain ⟨i102, hi, hz0, hz1, hz2⟩ := info_parts info102
  obtain ⟨po, hpo⟩ : ∃ po, po = w0.heap.size := ⟨_, rfl⟩
  have n1 : po ≠ po + 1 := by omega
  have n2 : po + 1 ≠ po + 1 + 1 := by omega
  have n3 : po ≠ po + 1 + 1 := by omega
  have HST : Hid (CutAt w0 w3 po (po + 1) (po + 1 + 1) b off n cap f 0 0) := Lib.hid (by
    have h3 := HW3.out
    have k0 : w3.heap[po]? = some (.cells #[.slice none 0 0] 73 (0, 0)) := by
      rw [h3, Below.heap_alloc _ _ _ (by simp; omega), Below.heap_alloc _ _ _ (by simp; omega), hpo, heap_alloc_new]
    have k1 : w3.heap[po + 1]? = some (.cells #[.slice a0 n cap] 22 (0, 0)) := by
      have := heap_alloc_new (w0.alloc (.cells #[.slice none 0 0] 73)) (.cells #[.slice a0 n cap] 22)
      rw [World.size_alloc] at this
      rw [h3, Below.heap_alloc _ _ _ (by simp; omega), hpo]; exact this
    have k2 : w3.heap[po + 1 + 1]? = some (.cells #[.int .i64 8] 3 (0, 0)) := by
      have := heap_alloc_new ((w0.alloc (.cells #[.slice none 0 0] 73)).alloc (.cells #[.slice a0 n cap] 22)) (.cells #[.int .i64 8] 3)
      rw [World.size_alloc, World.size_alloc] at this
      rw [h3, hpo]; exact this
    have l2 := (Array.getElem?_eq_some_iff.1 k2).1
    refine ⟨?_, ⟨a0, fun h => HA.out (by omega), by rw [cell_in k1]; rfl, by rw [cell_in k2]; rfl, by unfold World.frozen?; rw [k1]; simp⟩, ⟨_, by rw [cell_in k0]; rfl, World.ownsRow_nil _ _ _ _, (by intro e; cases e), (by intro e; cases e), (by intro e; cases e)⟩, by unfold World.frozen?; rw [k0]; simp, ⟨by omega, by omega⟩, ⟨by omega, by omega⟩, ⟨by omega, by omega⟩⟩
    rw [h3]
    exact ((((Below.refl _ _).alloc (Nat.le_refl _) _).alloc (by simp) _).alloc (by simp; omega) _))
  rw [← hpo]
  clear hpo
  refine (wpIn_wide (n := 9)).1 (range71 (w0 := w0) (f := f) HC.out.1 HC.out.2 n1 n2 rfl HST.out ?_ ?_ ?_)
  · intro l v W K hK
    simp only [List.setIfInBounds_toArray, List.set_cons_succ, List.set_cons_zero] at hK ⊢
    gi_wp2
    exact hK
  · intro l k W hk h
    have HK : Hid (k + 1 ≤ 262144) := Lib.hid (by have := HN.out; omega)
    have HPD : Hid (CutAt w0 W.drew po (po + 1) (po + 1 + 1) b off n cap f k k) := Lib.hid (h.grow ((Below.refl _ W).drew))
    have HSD : Hid (Stays W W.drew) := Lib.hid (fun _ _ h _ => h)
    have HW8 := Lib.hid (wordsL_8 f k)
    have h8 : Eight W.drew b (off + 8 * k) (fun r => f (k * 8 + r)) := fun r hr => by
      have := HD.out (8 * k + r) (by omega)
      show W.drew.cell? ⟨b, off + 8 * k + r, none⟩ = some (.int .u64 (f (k * 8 + r)))
      rw [show off + 8 * k + r = off + (8 * k + r) by omega, show k * 8 + r = 8 * k + r by omega]
      exact (HPD.out.below.cell (p := ⟨b, off + (8 * k + r), none⟩) (HB.out (by omega))).trans this
    obtain ⟨c0, c1, c2, c3, c4, c5, c6, c7⟩ := h8.cells
    rw [Nat.add_zero] at c0
    clear h h8 hk
    refine wpIn_block (region_in (by kernel_rfl) ?_ ?_ ?_)
    · intro i o ho cc hc
      have hi : i < 7 := (Array.getElem?_eq_some_iff.1 ho).1
      rcases i with _ | _ | _ | _ | _ | _ | _ | i <;> first | (cases ho; cases hc) | omega
    · rintro ⟨a, w, h⟩; exact h
    simp only [List.setIfInBounds_toArray, List.set_cons_succ, List.set_cons_zero]
    generalize W.drew = Wd at *
    obtain ⟨vo, hvo, hown, u1, u2, u3⟩ := HPD.out.out
    obtain ⟨oa, om, oc, rfl⟩ := own_slice hown
    have co := hvo
    have fo := HPD.out.fpo
    have HO := Lib.hid hown
    have HPO : Hid (some po ≠ (Value.slice oa om oc).ownBlock) := Lib.hid (Ne.symm u1)
    have p1 : po ≠ Wd.heap.size := by have := HPD.out.h1.2; omega
    have p2 : Wd.heap.size ≠ po := Ne.symm p1
    have p3 : po < Wd.heap.size := HPD.out.h1.2
    clear hvo hown u1 u2 u3
    generalize off + 8 * k = o at *
    generalize f (k * 8) = v0 at *
    generalize f (k * 8 + 1) = v1 at *
    generalize f (k * 8 + 2) = v2 at *
    generalize f (k * 8 + 3) = v3 at *
    generalize f (k * 8 + 4) = v4 at *
    generalize f (k * 8 + 5) = v5 at *
    generalize f (k * 8 + 6) = v6 at *
    generalize f (k * 8 + 7) = v7 at *
    refine wpAny_take (i := 1) (v := .slice (some ⟨b, o, none⟩) 8 8) rfl (by kernel_rfl) (by kernel_rfl) (by kernel_rfl) (fun _ _ _ h => h) (Or.inl ⟨by rfl, by intro w; go_simp; try with_reducible rfl⟩) ?_
    refine wpAny_ready (rs := [0, 2]) (by kernel_rfl) (by simp) (AllReady.cons rfl (fun K hK => ?_) (AllReady.cons rfl (fun K hK => ?_) AllReady.nil))
    · skip
      go_simp
      refine hK _ _ ?_
      clear hK
      refine wpAny_ready (rs := [2]) (by kernel_rfl) (by simp) (AllReady.cons rfl (fun K hK => ?_) AllReady.nil)
      go_simp
      refine hK _ _ ?_
      clear hK
      refine wpAny_ready (rs := [3]) (by kernel_rfl) (by simp) (AllReady.cons rfl (fun K hK => ?_) AllReady.nil)
      go_simp
      refine hK _ _ ?_
      clear hK
      refine wpAny_ready (rs := [4]) (by kernel_rfl) (by simp) (AllReady.cons rfl (fun K hK => ?_) AllReady.nil)
      refine step_line rfl 19 rfl v0 v1 v2 v3 v4 v5 v6 v7 rfl ?_
      refine hK _ _ ?_
      clear hK
      refine wpAny_ready (rs := [5]) (by kernel_rfl) (by simp) (AllReady.cons rfl (fun K hK => ?_) AllReady.nil)
      have HBW : Hid (Below Wd.heap.size Wd (Wd.alloc (.cells #[.int .u64 v0, .int .u64 v1, .int .u64 v2, .int .u64 v3, .int .u64 v4, .int .u64 v5, .int .u64 v6, .int .u64 v7] 102))) := Lib.hid ((Below.refl _ _).alloc (Nat.le_refl _) _)
      refine step_append_at rfl (.tmp 16) (.tmp 20) 73 rfl w0.heap.size 102 i102 _ 8 64 Try.underlying73 hi hz0 hz1 hz2 rfl (by decide) (.slice oa om oc) k _ rfl (HO.out.alloc _) ⟨Wd.heap.size, 0, none⟩ 1 1 [.int .u64 v0, .int .u64 v1, .int .u64 v2, .int .u64 v3, .int .u64 v4, .int .u64 v5, .int .u64 v6, .int .u64 v7] rfl rfl (fun j u hj => cell_alloc Wd _ 102 j u hj) (by simp [Value.oneCell']) (by have := HK.out; unfold maxLen; omega) (by have := HK.out; omega) (by have := HPD.out.below.size; simp; omega) ?_
      intro v' w4 ho4 hg4 hb4
      obtain ⟨na, nm, nc, rfl⟩ := own_slice ho4
      have HO4 := Lib.hid ho4
      have HG4 := Lib.hid hg4
      have HB4 := Lib.hid hb4
      have hk4 : w4.heap[po]? = Wd.heap[po]? := (hg4.block po (by have := HPD.out.h1.2; simp; omega) HPO.out).trans (Below.heap_alloc _ _ _ HPD.out.h1.2)
      have co4 : w4.cell? ⟨po, 0, none⟩ = some (.slice oa om oc) := by rw [cell_of_heap hk4]; exact co
      have fo4 : w4.frozen? ⟨po, 0, none⟩ = false := by rw [frozen_of_heap hk4]; exact fo
      clear ho4 hg4 hb4 hk4
      refine hK _ _ ?_
      clear hK
      refine wpAny_ready (rs := [6]) (by kernel_rfl) (by simp) (AllReady.cons rfl (fun K hK => ?_) AllReady.nil)
      go_simp
      refine hK _ _ ?_
      clear hK
      refine wpAny_done (by kernel_rfl) ?_ _
      have hfin := HPD.out.add n1 n2 n3 co HBW.out (by rw [HW8.out]; exact HO4.out) HG4.out HB4.out
      exact ⟨hfin.1, HSD.out.trans hfin.2⟩
    · skip
      go_simp
      refine hK _ _ ?_
      clear hK
      refine wpAny_ready (rs := [0, 3]) (by kernel_rfl) (by simp) (AllReady.cons rfl (fun K hK => ?_) (AllReady.cons rfl (fun K hK => ?_) AllReady.nil))
      · skip
        go_simp
        refine hK _ _ ?_
        clear hK
        refine wpAny_ready (rs := [3]) (by kernel_rfl) (by simp) (AllReady.cons rfl (fun K hK => ?_) AllReady.nil)
        go_simp
        refine hK _ _ ?_
        clear hK
        refine wpAny_ready (rs := [4]) (by kernel_rfl) (by simp) (AllReady.cons rfl (fun K hK => ?_) AllReady.nil)
        refine step_line rfl 19 rfl v0 v1 v2 v3 v4 v5 v6 v7 rfl ?_
        refine hK _ _ ?_
        clear hK
        refine wpAny_ready (rs := [5]) (by kernel_rfl) (by simp) (AllReady.cons rfl (fun K hK => ?_) AllReady.nil)
        have HBW : Hid (Below Wd.heap.size Wd (Wd.alloc (.cells #[.int .u64 v0, .int .u64 v1, .int .u64 v2, .int .u64 v3, .int .u64 v4, .int .u64 v5, .int .u64 v6, .int .u64 v7] 102))) := Lib.hid ((Below.refl _ _).alloc (Nat.le_refl _) _)
        refine step_append_at rfl (.tmp 16) (.tmp 20) 73 rfl w0.heap.size 102 i102 _ 8 64 Try.underlying73 hi hz0 hz1 hz2 rfl (by decide) (.slice oa om oc) k _ rfl (HO.out.alloc _) ⟨Wd.heap.size, 0, none⟩ 1 1 [.int .u64 v0, .int .u64 v1, .int .u64 v2, .int .u64 v3, .int .u64 v4, .int .u64 v5, .int .u64 v6, .int .u64 v7] rfl rfl (fun j u hj => cell_alloc Wd _ 102 j u hj) (by simp [Value.oneCell']) (by have := HK.out; unfold maxLen; omega) (by have := HK.out; omega) (by have := HPD.out.below.size; simp; omega) ?_
        intro v' w4 ho4 hg4 hb4
        obtain ⟨na, nm, nc, rfl⟩ := own_slice ho4
        have HO4 := Lib.hid ho4
        have HG4 := Lib.hid hg4
        have HB4 := Lib.hid hb4
        have hk4 : w4.heap[po]? = Wd.heap[po]? := (hg4.block po (by have := HPD.out.h1.2; simp; omega) HPO.out).trans (Below.heap_alloc _ _ _ HPD.out.h1.2)
        have co4 : w4.cell? ⟨po, 0, none⟩ = some (.slice oa om oc) := by rw [cell_of_heap hk4]; exact co
        have fo4 : w4.frozen? ⟨po, 0, none⟩ = false := by rw [frozen_of_heap hk4]; exact fo
        clear ho4 hg4 hb4 hk4
        refine hK _ _ ?_
        clear hK
        refine wpAny_ready (rs := [6]) (by kernel_rfl) (by simp) (AllReady.cons rfl (fun K hK => ?_) AllReady.nil)
        go_simp
        refine hK _ _ ?_
        clear hK
        refine wpAny_done (by kernel_rfl) ?_ _
        have hfin := HPD.out.add n1 n2 n3 co HBW.out (by rw [HW8.out]; exact HO4.out) HG4.out HB4.out
        exact ⟨hfin.1, HSD.out.trans hfin.2⟩
      · skip
        go_simp
        refine hK _ _ ?_
        clear hK
        refine wpAny_ready (rs := [0, 4]) (by kernel_rfl) (by simp) (AllReady.cons rfl (fun K hK => ?_) (AllReady.cons rfl (fun K hK => ?_) AllReady.nil))
        · skip
          go_simp
          refine hK _ _ ?_
          clear hK
          refine wpAny_ready (rs := [4]) (by kernel_rfl) (by simp) (AllReady.cons rfl (fun K hK => ?_) AllReady.nil)
          refine step_line rfl 19 rfl v0 v1 v2 v3 v4 v5 v6 v7 rfl ?_
          refine hK _ _ ?_
          clear hK
          refine wpAny_ready (rs := [5]) (by kernel_rfl) (by simp) (AllReady.cons rfl (fun K hK => ?_) AllReady.nil)
          have HBW : Hid (Below Wd.heap.size Wd (Wd.alloc (.cells #[.int .u64 v0, .int .u64 v1, .int .u64 v2, .int .u64 v3, .int .u64 v4, .int .u64 v5, .int .u64 v6, .int .u64 v7] 102))) := Lib.hid ((Below.refl _ _).alloc (Nat.le_refl _) _)
          refine step_append_at rfl (.tmp 16) (.tmp 20) 73 rfl w0.heap.size 102 i102 _ 8 64 Try.underlying73 hi hz0 hz1 hz2 rfl (by decide) (.slice oa om oc) k _ rfl (HO.out.alloc _) ⟨Wd.heap.size, 0, none⟩ 1 1 [.int .u64 v0, .int .u64 v1, .int .u64 v2, .int .u64 v3, .int .u64 v4, .int .u64 v5, .int .u64 v6, .int .u64 v7] rfl rfl (fun j u hj => cell_alloc Wd _ 102 j u hj) (by simp [Value.oneCell']) (by have := HK.out; unfold maxLen; omega) (by have := HK.out; omega) (by have := HPD.out.below.size; simp; omega) ?_
          intro v' w4 ho4 hg4 hb4
          obtain ⟨na, nm, nc, rfl⟩ := own_slice ho4
          have HO4 := Lib.hid ho4
          have HG4 := Lib.hid hg4
          have HB4 := Lib.hid hb4
          have hk4 : w4.heap[po]? = Wd.heap[po]? := (hg4.block po (by have := HPD.out.h1.2; simp; omega) HPO.out).trans (Below.heap_alloc _ _ _ HPD.out.h1.2)
          have co4 : w4.cell? ⟨po, 0, none⟩ = some (.slice oa om oc) := by rw [cell_of_heap hk4]; exact co
          have fo4 : w4.frozen? ⟨po, 0, none⟩ = false := by rw [frozen_of_heap hk4]; exact fo
          clear ho4 hg4 hb4 hk4
          refine hK _ _ ?_
          clear hK
          refine wpAny_ready (rs := [6]) (by kernel_rfl) (by simp) (AllReady.cons rfl (fun K hK => ?_) AllReady.nil)
          go_simp
          refine hK _ _ ?_
          clear hK
          refine wpAny_done (by kernel_rfl) ?_ _
          have hfin := HPD.out.add n1 n2 n3 co HBW.out (by rw [HW8.out]; exact HO4.out) HG4.out HB4.out
          exact ⟨hfin.1, HSD.out.trans hfin.2⟩
        · skip
          refine step_line rfl 19 rfl v0 v1 v2 v3 v4 v5 v6 v7 rfl ?_
          refine hK _ _ ?_
          clear hK
          refine wpAny_ready (rs := [0]) (by kernel_rfl) (by simp) (AllReady.cons rfl (fun K hK => ?_) AllReady.nil)
          go_simp
          refine hK _ _ ?_
          clear hK
          refine wpAny_ready (rs := [5]) (by kernel_rfl) (by simp) (AllReady.cons rfl (fun K hK => ?_) AllReady.nil)
          have HBW : Hid (Below Wd.heap.size Wd (Wd.alloc (.cells #[.int .u64 v0, .int .u64 v1, .int .u64 v2, .int .u64 v3, .int .u64 v4, .int .u64 v5, .int .u64 v6, .int .u64 v7] 102))) := Lib.hid ((Below.refl _ _).alloc (Nat.le_refl _) _)
          refine step_append_at rfl (.tmp 16) (.tmp 20) 73 rfl w0.heap.size 102 i102 _ 8 64 Try.underlying73 hi hz0 hz1 hz2 rfl (by decide) (.slice oa om oc) k _ rfl (HO.out.alloc _) ⟨Wd.heap.size, 0, none⟩ 1 1 [.int .u64 v0, .int .u64 v1, .int .u64 v2, .int .u64 v3, .int .u64 v4, .int .u64 v5, .int .u64 v6, .int .u64 v7] rfl rfl (fun j u hj => cell_alloc Wd _ 102 j u hj) (by simp [Value.oneCell']) (by have := HK.out; unfold maxLen; omega) (by have := HK.out; omega) (by have := HPD.out.below.size; simp; omega) ?_
          intro v' w4 ho4 hg4 hb4
          obtain ⟨na, nm, nc, rfl⟩ := own_slice ho4
          have HO4 := Lib.hid ho4
          have HG4 := Lib.hid hg4
          have HB4 := Lib.hid hb4
          have hk4 : w4.heap[po]? = Wd.heap[po]? := (hg4.block po (by have := HPD.out.h1.2; simp; omega) HPO.out).trans (Below.heap_alloc _ _ _ HPD.out.h1.2)
          have co4 : w4.cell? ⟨po, 0, none⟩ = some (.slice oa om oc) := by rw [cell_of_heap hk4]; exact co
          have fo4 : w4.frozen? ⟨po, 0, none⟩ = false := by rw [frozen_of_heap hk4]; exact fo
          clear ho4 hg4 hb4 hk4
          refine hK _ _ ?_
          clear hK
          refine wpAny_ready (rs := [6]) (by kernel_rfl) (by simp) (AllReady.cons rfl (fun K hK => ?_) AllReady.nil)
          go_simp
          refine hK _ _ ?_
          clear hK
          refine wpAny_done (by kernel_rfl) ?_ _
          have hfin := HPD.out.add n1 n2 n3 co HBW.out (by rw [HW8.out]; exact HO4.out) HG4.out HB4.out
          exact ⟨hfin.1, HSD.out.trans hfin.2⟩
  · intro D W hD h hK
    dsimp only
    obtain ⟨vo, hvo, hown, u1, u2, u3⟩ := h.out
    obtain ⟨oa, om, oc, rfl⟩ := own_slice hown
    have HH := Lib.hid h
    have HO := Lib.hid hown
    have HKK := Lib.hid hK
    clear h hown hK u1 u2 u3
    go_wp2_with fail
    show LeavesInM Fence.wide 9 Try.prog Try.f35 _ (CutTo f n w0) [{ target := .collected D, args := #[] }] .returning W
    unfold LeavesInM
    refine ⟨by simp, .inl ⟨_, _, rfl, run_takeDeferred HKK.out, ?_⟩⟩
    exact ⟨_, results_tmp2 rfl _ _ _, _, rfl, (HH.out.put HKK.out rfl hD _).below, ownsRow_putObj HO.out _ HKK.out rfl⟩
end Go.Proofs.Ytpmjcinemabamaa

namespace Go.Proofs.Ytpmjcinemabamaa
open Go.RowKit Go.BigFrame
set_option linter.unusedVariables false
set_option linter.unusedSimpArgs false

/-- A copy of lines. -/
def CloneTo (xs : List Value) (n : Nat) (W : World) (e : Ending) (W' : World) : Prop := ∃ v, e = .returned v ∧ Below W.heap.size W W' ∧ W'.ownsRow W.heap.size 102 8 v n xs
set_option maxRecDepth 100000 in
theorem clone51 (g n cap : Nat) (c : Array Value) (hn : 0 < n) (h1 : n ≤ 262144) (xs : List Value) (W : World) (hg : W.heap[g]? = some (.cells c 102 (0, 0))) (hxs : xs.length = n * 8) (hc : ∀ j, j < n * 8 → c[j]? = xs[j]?) (h1c : ∀ u ∈ xs, u.oneCell' = true) :
    Calls Try.prog 51 #[.slice (some ⟨g, 0, none⟩) n cap] W (CloneTo xs n W) := by
  obtain ⟨i102, hi, hz0, hz1, hz2⟩ := info_parts info102
  have HG := Lib.hid hg
  have HC := Lib.hid hc
  have HX := Lib.hid hxs
  have H1 := Lib.hid h1c
  clear hg hc hxs h1c
  obtain ⟨B, hB⟩ : ∃ B, B = W.heap.size := ⟨_, rfl⟩
  unfold CloneTo
  rw [← hB]
  have HB := Lib.hid hB
  clear hB
  have hnil := fun w : World => Lib.run_eql_slice_nil (P := Try.prog) w 73 102 (some ⟨g, 0, none⟩) n cap 0 0 Try.underlying73
  go_enter Try.func51, Try.ntmps51
  have hgl : g < W.heap.size := (Array.getElem?_eq_some_iff.1 HG.out).1
  go_wp2_with (at_builtin; refine wpList_append_own _ rfl (.tmp 5) (.tmp 6) 73 rfl B 102 i102 _ 8 64 Try.underlying73 hi hz0 hz1 hz2 rfl (by decide) (.slice (some ⟨W.heap.size, 0, none⟩) 0 0) 0 [] rfl (World.ownsRow_made W #[] 0 (by have := HB.out; omega) (by unfold maxLen; omega) rfl) ⟨g, 0, none⟩ n cap xs rfl HX.out (fun j u hj => by rw [Addr.add_lit, Nat.zero_add, cell_in ((Below.heap_alloc W _ g hgl).trans HG.out), HC.out j (by rw [← HX.out]; exact (List.getElem?_eq_some_iff.1 hj).1)]; exact hj) H1.out (by unfold maxLen; omega) (by omega) (by have := HB.out; simp; omega) ?_; intro v' w' hown hgr hne; have HO' := Lib.hid hown; have HG' := Lib.hid hgr; clear hown hgr hne)
  go_wp2_with fail
  go_ret
  refine ⟨_, rfl, ?_, ?_⟩
  · exact ((Below.refl _ _).alloc (by have := HB.out; omega) _).grown HG'.out (by have := HB.out; rw [World.size_alloc]; omega) (fun q e => by cases e; show B ≤ W.heap.size; have := HB.out; omega)
  · have := HO'.out
    rw [Nat.zero_add, List.nil_append] at this
    exact this
theorem mk_row (t e : TypeId) (z v : Value) (by_ : Nat) (ht : Try.prog.underlying t = some (.slice e)) (hi : (Try.prog.info? e).map (fun i => (i.zero, i.size, i.bytes)) = some (some z, 1, by_)) (hz : z.cells = #[v]) (n : Nat) (hb : by_ * n ≤ 281474976710656) (h63 : n ≤ 9223372036854775807) (w : World) :
    (Instr.makeSlice t (.int .i64 n) (.int .i64 n)).run Try.prog w = .ok (.slice (some ⟨w.heap.size, 0, none⟩) n n) (w.alloc (.cells (madeCells #[v] n) e)) := by
  obtain ⟨i, h1, h2, h3, h4⟩ := info_parts hi
  have hb' : (i.bytes : Int) * (n : Int) ≤ 281474976710656 := by
    have h : ((by_ * n : Nat) : Int) ≤ 281474976710656 := by omega
    rw [Int.natCast_mul] at h; rw [h4]; exact h
  have := run_make (P := Try.prog) w t e i z ht h1 h2 .i64 .i64 n n (by omega) (Int.le_refl _) hb' (by omega)
  rw [this, h3, hz]
  rw [Int.toNat_natCast, Nat.mul_one]
theorem made_get (v : Value) (n j : Nat) (hj : j < n) : (madeCells #[v] n)[j]? = some v := by
  rw [← Array.getElem?_toList, toList_madeCells_one]; simp [hj]
theorem info3 : (Try.prog.info? 3).map (fun i => (i.zero, i.size, i.bytes)) = some (some (.int .i64 0), 1, 8) := by kernel_rfl
theorem info123 : (Try.prog.info? 123).map (fun i => (i.zero, i.size, i.bytes)) = some (some (.agg #[.slice none 0 0]), 1, 24) := by kernel_rfl
/-- A device made: its blocks. -/
structure DevAt (W : World) (B d kb sb wb fb n nt c0 c1 : Nat) (f : Nat → Int) : Prop where
  dev : W.heap[d]? = some (.cells #[.slice (some ⟨kb, 0, none⟩) n c0, .slice (some ⟨sb, 0, none⟩) n c1, .slice (some ⟨wb, 0, none⟩) n n, .slice (some ⟨fb, 0, none⟩) nt nt] 87 (0, 0))
  rk : RowAt W kb (8 * n) fun k => .int .u64 (f k)
  rs : RowAt W sb (8 * n) fun k => .int .u64 (f k)
  rw : RowAt W wb n fun _ => .int .i64 0
  rf : RowAt W fb nt fun _ => .slice none 0 0
  apart : [d, kb, sb, wb, fb].Nodup
  base : B ≤ d ∧ B ≤ kb ∧ B ≤ sb ∧ B ≤ wb ∧ B ≤ fb
def MadeTo (B kb n cap nt : Nat) (f : Nat → Int) (W : World) (e : Ending) (W' : World) : Prop := ∃ d sb wb fb c1, e = .returned (.pointer (some ⟨d, 0, none⟩)) ∧ Below W.heap.size W W' ∧ DevAt W' B d kb sb wb fb n nt cap c1 f
theorem row_of_words {w : World} {X n g cap : Nat} {f : Nat → Int} (h : w.ownsRow X 102 8 (.slice (some ⟨g, 0, none⟩) n cap) n (wordsL f (8 * n))) (hn : 0 < n) : RowAt w g (8 * n) fun k => .int .u64 (f k) := by
  obtain ⟨g', cap', c, e1, hb, hg, hc1, hcs, hcc⟩ := own_row h hn
  cases e1
  exact ⟨c, 102, hg, fun k hk => by rw [hcc k (by omega)]; exact wordsL_get f _ k hk⟩
theorem dev_made {B kb n cap nt : Nat} {f : Nat → Int} {W wf : World} (hn : 0 < n) (hW : W.ownsRow B 102 8 (.slice (some ⟨kb, 0, none⟩) n cap) n (wordsL f (8 * n))) {d sb wb fb c1 X : Nat} (hb : Below W.heap.size W wf)
    (h0 : wf.heap[d]? = some (.cells #[.slice (some ⟨kb, 0, none⟩) n cap, .slice (some ⟨sb, 0, none⟩) n c1, .slice (some ⟨wb, 0, none⟩) n n, .slice (some ⟨fb, 0, none⟩) nt nt] 87 (0, 0)))
    (h1 : wf.heap[wb]? = some (.cells (madeCells #[.int .i64 0] n) 3 (0, 0))) (h2 : wf.heap[fb]? = some (.cells (madeCells #[.slice none 0 0] nt) 123 (0, 0)))
    (h3 : wf.ownsRow X 102 8 (.slice (some ⟨sb, 0, none⟩) n c1) n (wordsL f (8 * n))) (hx : W.heap.size ≤ X ∧ W.heap.size ≤ d ∧ W.heap.size ≤ wb ∧ W.heap.size ≤ fb)
    (ne : d ≠ wb ∧ d ≠ fb ∧ wb ≠ fb ∧ sb ≠ d ∧ sb ≠ wb ∧ sb ≠ fb) : MadeTo B kb n cap nt f W (.returned (.pointer (some ⟨d, 0, none⟩))) wf := by
  obtain ⟨k1, k2⟩ := own_lt hW (k := kb) rfl
  obtain ⟨s1, s2⟩ := own_lt h3 (k := sb) rfl
  refine ⟨d, sb, wb, fb, c1, rfl, hb, h0, (row_of_words hW hn).keep (hb.block _ k2), row_of_words h3 hn, ⟨_, 3, h1, fun k hk => made_get _ _ _ hk⟩, ⟨_, 123, h2, fun k hk => made_get _ _ _ hk⟩, ?_, by omega⟩
  simp only [List.nodup_cons, List.mem_cons, List.not_mem_nil, or_false, not_or, List.nodup_nil, and_true, not_false_eq_true]
  omega
theorem new1 (w : World) (a b c : Obj) : (((w.alloc a).alloc b).alloc c).heap[w.heap.size]? = some a ∧ (((w.alloc a).alloc b).alloc c).heap[w.heap.size + 1]? = some b ∧ (((w.alloc a).alloc b).alloc c).heap[w.heap.size + 1 + 1]? = some c := by
  refine ⟨?_, ?_, ?_⟩
  · rw [Below.heap_alloc _ _ _ (by simp; omega)]; exact (two_new w a b).1
  · rw [Below.heap_alloc _ _ _ (by simp)]; exact (two_new w a b).2
  · have := heap_alloc_new ((w.alloc a).alloc b) c; simpa using this
set_option maxRecDepth 100000 in
set_option maxHeartbeats 2000000 in
theorem made36 (B kb n cap nt : Nat) (hn : 0 < n) (h1 : n ≤ 262144) (ht : nt ≤ 64) (f : Nat → Int) (W : World) (h : W.ownsRow B 102 8 (.slice (some ⟨kb, 0, none⟩) n cap) n (wordsL f (8 * n))) :
    Calls Try.prog 36 #[.slice (some ⟨kb, 0, none⟩) n cap, .int .i64 nt] W (MadeTo B kb n cap nt f W) := by
  have i0 : (0 : Int) ≤ (n : Int) := by omega
  have i1 : (0 : Int) ≤ (nt : Int) := by omega
  have HCL : Hid (∀ w, Below W.heap.size W w → Calls Try.prog 51 #[.slice (some ⟨kb, 0, none⟩) n cap] w (CloneTo (wordsL f (8 * n)) n w)) := Lib.hid fun w hw => by
    obtain ⟨g, cap', c, e1, hb, hg, hc1, hcs, hcc⟩ := own_row h hn
    cases e1
    refine clone51 _ n _ c hn h1 _ w ((hw.block _ (Array.getElem?_eq_some_iff.1 hg).1).trans hg) (by rw [wordsL_len]; omega) hcc (fun u hu => ?_)
    unfold wordsL at hu
    obtain ⟨q, _, rfl⟩ := List.mem_map.1 hu
    rfl
  have HH := Lib.hid h
  clear h
  have mk1 := mk_row 37 3 _ _ 8 Try.underlying37 info3 rfl n (by omega) (by omega)
  have mk2 := mk_row 85 123 _ _ 24 Try.underlying85 info123 rfl nt (by omega) (by omega)
  go_enter Try.func36, Try.ntmps36
  go_wp2_with fail
  go_region_with (go_at_call 51; refine (HCL.out _ (by first | exact (Below.refl _ _).drew | exact ((Below.refl _ _).alloc (Nat.le_refl _) _).drew | exact (((Below.refl _ _).alloc (Nat.le_refl _) _).alloc (by simp) _).drew | exact (Below.refl _ _).drew.alloc (by simp) _ | exact ((Below.refl _ _).drew.alloc (by simp) _).alloc (by simp) _)).mono ?_; rintro e w1 ⟨v, rfl, hb, ho⟩; obtain ⟨sb, c1, cc, rfl, hq⟩ := own_row ho hn; have HB1 := Lib.hid hb; have HO1 := Lib.hid ho; clear hb ho hq)
  all_goals
    go_wp2_with fail
    go_ret
  all_goals (have s1 := (own_lt HO1.out rfl).1; have s2 := (own_lt HO1.out rfl).2; have z1 := HB1.out.size)
  · obtain ⟨a, b, c⟩ := new1 w1 (.cells (madeCells #[.int .i64 0] n) 3) (.cells (madeCells #[.slice none 0 0] nt) 123) (.cells #[.slice (some ⟨kb, 0, none⟩) n cap, .slice (some ⟨sb, 0, none⟩) n c1, .slice (some ⟨w1.heap.size, 0, none⟩) n n, .slice (some ⟨w1.heap.size + 1, 0, none⟩) nt nt] 87)
    refine dev_made hn HH.out ?_ c a b (((HO1.out.alloc _).alloc _).alloc _) ?_ ?_
    · exact ((((Below.refl _ _).drew.trans HB1.out).alloc z1 _).alloc (by simp at z1 ⊢; omega) _).alloc (by simp at z1 ⊢; omega) _
    all_goals (simp at z1 s1 s2 ⊢; omega)
  · obtain ⟨a, b, c⟩ := new1 w1 (.cells (madeCells #[.slice none 0 0] nt) 123) (.cells (madeCells #[.int .i64 0] n) 3) (.cells #[.slice (some ⟨kb, 0, none⟩) n cap, .slice (some ⟨sb, 0, none⟩) n c1, .slice (some ⟨w1.heap.size + 1, 0, none⟩) n n, .slice (some ⟨w1.heap.size, 0, none⟩) nt nt] 87)
    refine dev_made hn HH.out ?_ c b a (((HO1.out.alloc _).alloc _).alloc _) ?_ ?_
    · exact ((((Below.refl _ _).drew.trans HB1.out).alloc z1 _).alloc (by simp at z1 ⊢; omega) _).alloc (by simp at z1 ⊢; omega) _
    all_goals (simp at z1 s1 s2 ⊢; omega)
  · have e0 := (HB1.out.block W.heap.size (by simp)).trans (heap_alloc_new W _)
    have zz : W.heap.size + 1 ≤ w1.heap.size := by have := z1; simp at this; omega
    refine dev_made hn HH.out ?_ (two_new w1 _ _).2 ((Below.heap_alloc _ _ _ (by simp; omega)).trans ((Below.heap_alloc w1 _ W.heap.size (by omega)).trans e0)) (two_new w1 _ _).1 ((HO1.out.alloc _).alloc _) ?_ ?_
    · exact (((((Below.refl _ _).alloc (Nat.le_refl _) _).drew.trans (HB1.out.mono (by simp))).alloc (by omega) _).alloc (by simp; omega) _)
    all_goals (simp at z1 s1 s2 ⊢; omega)
  · have e0 := (HB1.out.block W.heap.size (by simp; omega)).trans (two_new W _ _).1
    have e1 := (HB1.out.block (W.heap.size + 1) (by simp)).trans (two_new W _ _).2
    have zz : W.heap.size + 1 + 1 ≤ w1.heap.size := by have := z1; simp at this; omega
    refine dev_made hn HH.out ?_ (heap_alloc_new w1 _) ((Below.heap_alloc w1 _ W.heap.size (by omega)).trans e0) ((Below.heap_alloc w1 _ (W.heap.size + 1) (by omega)).trans e1) (HO1.out.alloc _) ?_ ?_
    · exact ((((Below.refl _ _).alloc (Nat.le_refl _) _).alloc (by simp) _).drew.trans (HB1.out.mono (by simp; omega))).alloc (by omega) _
    all_goals (simp at z1 s1 s2 ⊢; omega)
  · have e0 := (HB1.out.block W.heap.size (by simp)).trans (heap_alloc_new W _)
    have zz : W.heap.size + 1 ≤ w1.heap.size := by have := z1; simp at this; omega
    refine dev_made hn HH.out ?_ (two_new w1 _ _).2 (two_new w1 _ _).1 ((Below.heap_alloc _ _ _ (by simp; omega)).trans ((Below.heap_alloc w1 _ W.heap.size (by omega)).trans e0)) ((HO1.out.alloc _).alloc _) ?_ ?_
    · exact (((((Below.refl _ _).alloc (Nat.le_refl _) _).drew.trans (HB1.out.mono (by simp))).alloc (by omega) _).alloc (by simp; omega) _)
    all_goals (simp at z1 s1 s2 ⊢; omega)
  · have e0 := (HB1.out.block W.heap.size (by simp; omega)).trans (two_new W _ _).1
    have e1 := (HB1.out.block (W.heap.size + 1) (by simp)).trans (two_new W _ _).2
    have zz : W.heap.size + 1 + 1 ≤ w1.heap.size := by have := z1; simp at this; omega
    refine dev_made hn HH.out ?_ (heap_alloc_new w1 _) ((Below.heap_alloc w1 _ (W.heap.size + 1) (by omega)).trans e1) ((Below.heap_alloc w1 _ W.heap.size (by omega)).trans e0) (HO1.out.alloc _) ?_ ?_
    · exact ((((Below.refl _ _).alloc (Nat.le_refl _) _).alloc (by simp) _).drew.trans (HB1.out.mono (by simp; omega))).alloc (by omega) _
    all_goals (simp at z1 s1 s2 ⊢; omega)
end Go.Proofs.Ytpmjcinemabamaa

namespace Go.Proofs.Ytpmjcinemabamaa
open Go.RowKit Go.BigFrame
set_option linter.unusedVariables false
set_option linter.unusedSimpArgs false

/-- Why words are no device. -/
def mayOpenE (n : Nat) (t : Int) : Int := if ¬ (1 ≤ t ∧ t ≤ 64) then 1 else if wholeE n ≠ 0 then wholeE n else if n = 0 then 3 else 0
theorem mayOpen_ok {n : Nat} {t : Int} (h : mayOpenE n t = 0) : (1 ≤ t ∧ t ≤ 64) ∧ wholeE n = 0 ∧ 0 < n := by
  unfold mayOpenE at h
  by_cases h1 : 1 ≤ t ∧ t ≤ 64
  · rw [if_neg (by simpa using h1)] at h
    by_cases h2 : wholeE n = 0
    · rw [if_neg (by simpa using h2)] at h
      by_cases h3 : n = 0
      · rw [if_pos h3] at h; omega
      · exact ⟨h1, h2, by omega⟩
    · rw [if_pos h2] at h; exact absurd h h2
  · rw [if_pos h1] at h; omega
theorem wholeE_eq {n : Nat} (h : wholeE n = 0) : 8 * (n / 8) = n ∧ n / 8 ≤ 262144 := by
  unfold wholeE at h
  split at h
  · omega
  · split at h <;> omega
/-- A device opened of words, or why not. -/
def OpenTo (f : Nat → Int) (n : Nat) (t : Int) (W : World) (e : Ending) (W' : World) : Prop :=
  Below W.heap.size W W' ∧ (mayOpenE n t ≠ 0 ∧ e = .returned (.tuple #[.pointer none, .int .i64 (mayOpenE n t)]) ∨
    mayOpenE n t = 0 ∧ ∃ d kb sb wb fb c0 c1, e = .returned (.tuple #[.pointer (some ⟨d, 0, none⟩), .int .i64 0]) ∧ DevAt W' W.heap.size d kb sb wb fb (n / 8) t.toNat c0 c1 f)
theorem open18_err (a : Option Addr) (n cap : Nat) (hn : n ≤ 9223372036854775807) (t : Int) (f : Nat → Int) (w : World) (h1 : 1 ≤ t ∧ t ≤ 64) (h2 : wholeE n ≠ 0) :
    Calls Try.prog 18 #[.slice a n cap, .int .i64 t] w (OpenTo f n t w) := by
  have HT := Lib.hid (threads34 t w)
  rw [bool_yes h1] at HT
  have HC := Lib.hid (cut35_no a n cap hn h2 w)
  have HE : Hid (mayOpenE n t = wholeE n ∧ mayOpenE n t ≠ 0) := Lib.hid (by unfold mayOpenE; rw [if_neg (by simpa using h1), if_pos h2]; exact ⟨rfl, h2⟩)
  generalize wholeE n = e at *
  have e1 : (e != 0) = true := by simpa using h2
  clear h1 h2
  go_enter Try.func18, Try.ntmps18
  go_wp2_with fail
  refine HT.out.mono ?_
  rintro e w' ⟨rfl, hw⟩
  cases hw
  go_wp2_with fail
  with_reducible refine HC.out.mono ?_
  rintro e w1 ⟨rfl, hb, hh⟩
  have HB := Lib.hid hb
  clear hb hh
  go_wp2_with fail
  go_ret2
  exact ⟨HB.out, Or.inl ⟨HE.out.2, by rw [HE.out.1]; rfl⟩⟩
theorem open18_none (a : Option Addr) (cap : Nat) (hc : cap ≤ 9223372036854775807) (t : Int) (f : Nat → Int) (w : World) (h1 : 1 ≤ t ∧ t ≤ 64) :
    Calls Try.prog 18 #[.slice a 0 cap, .int .i64 t] w (OpenTo f 0 t w) := by
  have HT := Lib.hid (threads34 t w)
  rw [bool_yes h1] at HT
  have HC : Hid (Calls Try.prog 35 #[.slice a 0 cap] w (CutTo f 0 w)) := Lib.hid (cut35 a 0 0 0 cap (fun h => by omega) (by omega) hc rfl f w (fun h => by omega) (fun j hj => by omega))
  have HE : Hid (mayOpenE 0 t = 3) := Lib.hid (by unfold mayOpenE; rw [if_neg (by simpa using h1)]; rfl)
  clear h1
  go_enter Try.func18, Try.ntmps18
  go_wp2_with fail
  refine HT.out.mono ?_
  rintro e w' ⟨rfl, hw⟩
  cases hw
  go_wp2_with fail
  with_reducible refine HC.out.mono ?_
  rintro e w1 ⟨v, rfl, hb, ho⟩
  obtain ⟨va, vc, rfl⟩ := own_slice_n ho
  have HB := Lib.hid hb
  clear hb ho
  go_wp2_with fail
  go_ret2
  exact ⟨HB.out, Or.inl ⟨by rw [HE.out]; omega, by rw [HE.out]; rfl⟩⟩
theorem open18_yes (a : Option Addr) (b off n cap : Nat) (ha : 0 < n → a = some ⟨b, off, none⟩) (hn : n ≤ cap) (hc : cap ≤ 9223372036854775807) (t : Int) (f : Nat → Int) (w : World) (h0 : mayOpenE n t = 0) (hb : b < w.heap.size) (hw : ∀ j, j < n → w.cell? ⟨b, off + j, none⟩ = some (.int .u64 (f j))) :
    Calls Try.prog 18 #[.slice a n cap, .int .i64 t] w (OpenTo f n t w) := by
  obtain ⟨h1, h2, h3⟩ := mayOpen_ok h0
  obtain ⟨h4, h5⟩ := wholeE_eq h2
  have HT := Lib.hid (threads34 t w)
  rw [bool_yes h1] at HT
  have HC := Lib.hid (cut35 a b off n cap (fun _ => ha h3) hn hc h2 f w (fun _ => hb) hw)
  unfold CutTo at HC
  obtain ⟨m, hm⟩ : ∃ m, m = n / 8 := ⟨_, rfl⟩
  rw [← hm] at HC
  have HM : Hid (n / 8 = m) := Lib.hid hm.symm
  obtain ⟨k, rfl⟩ := Int.eq_ofNat_of_zero_le (show 0 ≤ t by omega)
  have HD : Hid (∀ g c w1, w1.ownsRow w.heap.size 102 8 (.slice (some ⟨g, 0, none⟩) m c) m (wordsL f (8 * m)) → Calls Try.prog 36 #[.slice (some ⟨g, 0, none⟩) m c, .int .i64 k] w1 (MadeTo w.heap.size g m c k f w1)) := Lib.hid fun g c w1 h => made36 w.heap.size g m c k (by omega) (by omega) (by omega) f w1 h
  have HE := Lib.hid h0
  have hm0 : 0 < m := by omega
  have m1 : ((m : Int) == 0) = false := by simp; omega
  have m2 : (m == 0) = false := by simp; omega
  have HS : Hid (8 * m = n) := Lib.hid (by omega)
  clear h0 h1 h2 h3 h4 h5 hw ha hn hc hm hb
  go_enter Try.func18, Try.ntmps18
  go_wp2_with fail
  refine HT.out.mono ?_
  rintro e w' ⟨rfl, hw⟩
  cases hw
  go_wp2_with fail
  with_reducible refine HC.out.mono ?_
  rintro e w1 ⟨v, rfl, hb, ho⟩
  obtain ⟨g, c, cc, rfl, -⟩ := own_row ho hm0
  have HB := Lib.hid hb
  have HDD := Lib.hid (HD.out g c w1 ho)
  clear hb ho HD
  go_wp2_with fail
  with_reducible refine HDD.out.mono ?_
  rintro e w2 ⟨d, sb, wb, fb, c1, rfl, hb2, hd⟩
  have HB2 := Lib.hid hb2
  have HDV := Lib.hid hd
  clear hb2 hd
  go_wp2_with fail
  go_ret2
  exact ⟨HB.out.trans (HB2.out.mono HB.out.size), Or.inr ⟨HE.out, d, g, sb, wb, fb, c, c1, rfl, by rw [HM.out]; exact HDV.out⟩⟩
theorem info42' : (Try.prog.info? 42).map (fun i => (i.zero, i.size, i.bytes)) = some (some (.int .u64 0), 1, 8) := by kernel_rfl
/-- A memory made. -/
def NewTo (d np : Nat) (W : World) (e : Ending) (W' : World) : Prop :=
  ∃ m pb, e = .returned (.tuple #[.pointer (some ⟨m, 0, none⟩), .int .i64 0]) ∧ Below W.heap.size W W' ∧ W.heap.size ≤ m ∧ W.heap.size ≤ pb ∧ m ≠ pb ∧
    MemRow W' m (.pointer (some ⟨d, 0, none⟩)) (.slice (some ⟨pb, 0, none⟩) np np) 0 0 ⟨0, 0, 0, 0, 0, false⟩ ∧ RowAt W' pb np fun _ => .int .u64 0
theorem new19_yes (d np : Nat) (hp : np ≤ 262144) (w : World) : Calls Try.prog 19 #[.pointer (some ⟨d, 0, none⟩), .int .i64 np] w (NewTo d np w) := by
  have mk1 := mk_row 22 42 _ _ 8 Try.underlying22 info42' rfl np (by omega) (by omega)
  have d0 : decide ((np : Int) < 0) = false := bool_no (by omega)
  have d1 : decide (262144 < (np : Int)) = false := bool_no (by omega)
  have i0 : (0 : Int) ≤ (np : Int) := by omega
  go_enter Try.func19, Try.ntmps19
  go_wp2_with fail
  go_ret2
  refine ⟨w.heap.size + 1, w.heap.size, rfl, ((Below.refl _ _).alloc (Nat.le_refl _) _).alloc (by simp) _, by omega, by omega, by omega, (two_new w _ _).2, ⟨_, 42, (two_new w _ _).1, fun k hk => made_get _ _ _ hk⟩⟩
end Go.Proofs.Ytpmjcinemabamaa

namespace Go.Proofs.Ytpmjcinemabamaa
open Go.RowKit Go.BigFrame
set_option linter.unusedVariables false
set_option linter.unusedSimpArgs false

def Mv.start (m d kb sb wb fb pb n nt np c0 c1 : Nat) (f : Nat → Int) : Mv :=
  { m, d, kb, sb, wb, fb, pb, n, nt, np, c0, c1, c2 := n, c3 := nt, c4 := np, kept := f, seen := f, pass := fun _ => 0, wr := fun _ => 0, fl := fun _ => [], fv := fun _ => .slice none 0 0, ck := 0, bd := 0, la := ⟨0, 0, 0, 0, 0, false⟩, wm := 0 }
theorem mem_start {W W' : World} {B m d kb sb wb fb pb n nt np c0 c1 : Nat} {f : Nat → Int} (h : DevAt W B d kb sb wb fb n nt c0 c1 f) (hb : Below W.heap.size W W') (hm : W.heap.size ≤ m) (hp : W.heap.size ≤ pb) (hmp : m ≠ pb)
    (hr : MemRow W' m (.pointer (some ⟨d, 0, none⟩)) (.slice (some ⟨pb, 0, none⟩) np np) 0 0 ⟨0, 0, 0, 0, 0, false⟩) (hpr : RowAt W' pb np fun _ => .int .u64 0) (n0 : 0 < n) (n1 : n ≤ 262144) (t1 : nt ≤ 64) (p1 : np ≤ 262144) :
    MemAt W' (Mv.start m d kb sb wb fb pb n nt np c0 c1 f) ∧ ∀ k, (Mv.start m d kb sb wb fb pb n nt np c0 c1 f).own k → B ≤ k ∨ W.heap.size ≤ k := by
  have hd := (Array.getElem?_eq_some_iff.1 h.dev).1
  have l1 := h.rk.lt
  have l2 := h.rs.lt
  have l3 := h.rw.lt
  have l4 := h.rf.lt
  have ap := h.apart
  refine ⟨⟨hr, (hb.block d hd).trans h.dev, h.rk.keep (hb.block _ l1), h.rs.keep (hb.block _ l2), h.rw.keep (hb.block _ l3), h.rf.keep (hb.block _ l4), hpr, fun t _ => Or.inl ⟨rfl, rfl⟩, ?_, (fun t _ g hg => by cases hg), (fun t _ t' _ _ g hg => by cases hg), n0, n1, t1, p1, fun t _ => List.Pairwise.nil, (fun t _ x hx => by cases hx), Int.le_refl _, Int.le_refl _, Int.le_refl _, fun k _ => ⟨Int.le_refl _, Int.le_refl _⟩⟩, ?_⟩
  · simp only [List.nodup_cons, List.mem_cons, List.not_mem_nil, or_false, not_or, List.nodup_nil, and_true, not_false_eq_true] at ap
    simp only [Mv.blocks, Mv.start, List.nodup_cons, List.mem_cons, List.not_mem_nil, or_false, not_or, List.nodup_nil, and_true, not_false_eq_true]
    omega
  · rintro k (hk | ⟨t, _, e⟩)
    · have b := h.base
      simp only [Mv.blocks, Mv.start, List.mem_cons, List.not_mem_nil, or_false] at hk
      omega
    · cases e
/-- The document's memory at its start. -/
structure Init (R : Rv) (f : Nat → Int) (n nt np : Nat) : Prop where
  hn : R.n = n
  hnt : R.nt = nt
  hnp : R.np = np
  hkept : ∀ k, k < 8 * n → R.kept k = f k
  hseen : ∀ k, k < 8 * n → R.seen k = f k
  hpass : ∀ k, k < np → R.pass k = 0
  hfl : ∀ t, t < nt → ∀ j, j < n → R.fl t j = false
  hck : R.ck = 0
  hbd : R.bd = 0
  hla : R.la = ⟨0, 0, 0, 0, 0, false⟩
/-- A memory behind the first k accesses, and how many of them were what they say. -/
def RunAt (f : Nat → Int) (n nt np : Nat) (l : Nat → Acc) (k : Nat) (M : Mv) (r : Nat) : Prop := ∀ R, Init R f n nt np → Alike M (rrun R l k).1 ∧ r = (rrun R l k).2
theorem run_start (m d kb sb wb fb pb n nt np c0 c1 : Nat) (f : Nat → Int) (l : Nat → Acc) : RunAt f n nt np l 0 (Mv.start m d kb sb wb fb pb n nt np c0 c1 f) 0 := fun R h =>
  ⟨⟨h.hn.symm, h.hnt.symm, h.hnp.symm, fun k hk => (h.hseen k hk).symm, fun k hk => (h.hkept k hk).symm, fun k hk => (h.hpass k hk).symm, fun t ht j hj => by
    show R.fl t j = true ↔ (j : Int) ∈ ([] : List Int)
    rw [h.hfl t ht j hj]; simp, h.hck.symm, h.hbd.symm, h.hla.symm⟩, rfl⟩
theorem run_step {f : Nat → Int} {n nt np : Nat} {l : Nat → Acc} {k : Nat} {M : Mv} {r : Nat} (h : RunAt f n nt np l k M r) (v : Value) :
    RunAt f n nt np l (k + 1) (M.acts (l k) v) (if r = k ∧ (1 ≤ (l k).ki ∧ (l k).ki ≤ 5) ∧ accB (M.acts (l k) v).la (l k) = true then k + 1 else r) := fun R hR => by
  obtain ⟨h1, h2⟩ := h R hR
  have h3 := h1.acts (l k) v
  refine ⟨h3, ?_⟩
  rw [h3.la]
  show _ = if (rrun R l k).2 = k ∧ (1 ≤ (l k).ki ∧ (l k).ki ≤ 5) ∧ accB ((rrun R l k).1.acts (l k)).la (l k) = true then k + 1 else (rrun R l k).2
  rw [← h2]
theorem accB_iff (x y : Acc) : accB x y = true ↔ x = y := by
  obtain ⟨a, b, c, d, e, f⟩ := x
  obtain ⟨a', b', c', d', e', f'⟩ := y
  simp [accB]
  constructor
  · rintro ⟨⟨⟨⟨⟨h1, h2⟩, h3⟩, h4⟩, h5⟩, h6⟩; exact ⟨h1, h2, h3, h4, h5, h6⟩
  · rintro ⟨h1, h2, h3, h4, h5, h6⟩; exact ⟨⟨⟨⟨⟨h1, h2⟩, h3⟩, h4⟩, h5⟩, h6⟩
theorem eql44 (x y : Acc) (w : World) : (binOp .eql 44 (.agg x.cells) (.agg y.cells)).run Try.prog w = .ok (.bool (accB x y)) w := by
  simp only [Acc.cells]
  go_simp
  by_cases h : accB x y = true
  · have := (accB_iff x y).1 h
    subst this
    rw [h]; simp
  · rw [show accB x y = false by simpa using h]
    repeat' split
    all_goals first | rfl | (exfalso; apply h; rw [accB_iff]; obtain ⟨a, b, c, d, e, f⟩ := x; obtain ⟨a', b', c', d', e', f'⟩ := y; simp_all)
theorem neq44 (x y : Acc) (w : World) : (binOp .neq 44 (.agg x.cells) (.agg y.cells)).run Try.prog w = .ok (.bool (!accB x y)) w := by
  simp only [Acc.cells]
  go_simp
  by_cases h : accB x y = true
  · have := (accB_iff x y).1 h
    subst this
    rw [h]; simp
  · rw [show accB x y = false by simpa using h]
    repeat' split
    all_goals first | rfl | (exfalso; apply h; rw [accB_iff]; obtain ⟨a, b, c, d, e, f⟩ := x; obtain ⟨a', b', c', d', e', f'⟩ := y; simp_all)
/-- An access in memory. -/
def AccIn (W : World) (b o : Nat) (x : Acc) : Prop := W.cell? ⟨b, o, none⟩ = some (.int .i64 x.ki) ∧ W.cell? ⟨b, o + 1, none⟩ = some (.int .i64 x.th) ∧ W.cell? ⟨b, o + 2, none⟩ = some (.int .i64 x.pl) ∧ W.cell? ⟨b, o + 3, none⟩ = some (.int .u64 x.ol) ∧ W.cell? ⟨b, o + 4, none⟩ = some (.int .u64 x.ne) ∧ W.cell? ⟨b, o + 5, none⟩ = some (.bool x.dn)
/-- A list of accesses in memory. -/
def AccsIn (W : World) (a : Option Addr) (len : Nat) (c : Nat → Acc) : Prop := ∀ i, i < len → ∃ b off, a = some ⟨b, off, none⟩ ∧ b < W.heap.size ∧ AccIn W b (off + i * 6) (c i) ∧ (c i).May
theorem AccsIn.below {W W' : World} {a : Option Addr} {len : Nat} {c : Nat → Acc} (h : AccsIn W a len c) (hb : Below W.heap.size W W') : AccsIn W' a len c := fun i hi => by
  obtain ⟨b, off, e, hl, ⟨h0, h1, h2, h3, h4, h5⟩, hm⟩ := h i hi
  have k : ∀ o, W'.cell? ⟨b, o, none⟩ = W.cell? ⟨b, o, none⟩ := fun o => hb.cell (p := ⟨b, o, none⟩) hl
  exact ⟨b, off, e, Nat.lt_of_lt_of_le hl hb.size, ⟨(k _).trans h0, (k _).trans h1, (k _).trans h2, (k _).trans h3, (k _).trans h4, (k _).trans h5⟩, hm⟩
end Go.Proofs.Ytpmjcinemabamaa

namespace Go.Proofs.Ytpmjcinemabamaa
open Go.RowKit Go.BigFrame
set_option linter.unusedVariables false
set_option linter.unusedSimpArgs false

def runE (n : Nat) (t np : Int) : Int := if mayOpenE n t ≠ 0 then mayOpenE n t else if np < 0 ∨ 262144 < np then 1 else 0
def RunTo (f : Nat → Int) (n : Nat) (t np : Int) (l : Nat → Acc) (len : Nat) (W : World) (e : Ending) (W' : World) : Prop :=
  Below W.heap.size W W' ∧ (runE n t np ≠ 0 ∧ e = .returned (.tuple #[.pointer none, .int .i64 0, .int .i64 (runE n t np)]) ∨
    runE n t np = 0 ∧ ∃ (M : Mv) (r : Nat), e = .returned (.tuple #[.pointer (some ⟨M.m, 0, none⟩), .int .i64 r, .int .i64 0]) ∧ MemAt W' M ∧ (∀ k, M.own k → W.heap.size ≤ k) ∧ RunAt f (n / 8) t.toNat np.toNat l len M r ∧ r ≤ len ∧ M.ck ≤ len)
theorem run6_no (a : Option Addr) (n cap : Nat) (t np : Int) (al : Option Addr) (len capl : Nat) (f : Nat → Int) (l : Nat → Acc) (W : World) (hO : Calls Try.prog 18 #[.slice a n cap, .int .i64 t] W (OpenTo f n t W)) (h0 : mayOpenE n t ≠ 0) :
    Calls Try.prog 6 #[.slice a n cap, .int .i64 t, .int .i64 np, .slice al len capl] W (RunTo f n t np l len W) := by
  have HO : Hid (Calls Try.prog 18 #[.slice a n cap, .int .i64 t] W (fun e W' => e = .returned (.tuple #[.pointer none, .int .i64 (mayOpenE n t)]) ∧ Below W.heap.size W W')) := Lib.hid (hO.mono fun e W' h => by
    rcases h.2 with ⟨_, h1⟩ | ⟨h1, _⟩
    · exact ⟨h1, h.1⟩
    · exact absurd h1 h0)
  have HE : Hid (runE n t np = mayOpenE n t) := Lib.hid (by unfold runE; rw [if_pos h0])
  have HZ := Lib.hid h0
  clear hO
  generalize mayOpenE n t = e at *
  have e1 : (e != 0) = true := by simpa using h0
  clear h0
  go_enter Try.func6, Try.ntmps6
  go_wp2_with fail
  with_reducible refine HO.out.mono ?_
  rintro e' w1 ⟨rfl, hb⟩
  have HB := Lib.hid hb
  clear hb
  go_wp2_with fail
  go_ret3
  exact ⟨HB.out, Or.inl ⟨by rw [HE.out]; exact HZ.out, by rw [HE.out]; rfl⟩⟩
theorem run6_pass (a : Option Addr) (n cap : Nat) (t np : Int) (al : Option Addr) (len capl : Nat) (f : Nat → Int) (l : Nat → Acc) (W : World) (hO : Calls Try.prog 18 #[.slice a n cap, .int .i64 t] W (OpenTo f n t W)) (h0 : mayOpenE n t = 0) (hp : np < 0 ∨ 262144 < np) :
    Calls Try.prog 6 #[.slice a n cap, .int .i64 t, .int .i64 np, .slice al len capl] W (RunTo f n t np l len W) := by
  have HO : Hid (Calls Try.prog 18 #[.slice a n cap, .int .i64 t] W (fun e W' => ∃ d, e = .returned (.tuple #[.pointer (some ⟨d, 0, none⟩), .int .i64 0]) ∧ Below W.heap.size W W')) := Lib.hid (hO.mono fun e W' h => by
    rcases h.2 with ⟨h1, _⟩ | ⟨_, d, kb, sb, wb, fb, c0, c1, h1, _⟩
    · exact absurd h0 h1
    · exact ⟨d, h1, h.1⟩)
  have HE : Hid (runE n t np = 1) := Lib.hid (by unfold runE; rw [if_neg (by simpa using h0), if_pos hp])
  have HN := Lib.hid fun d w => new19_no d np hp w
  clear hO h0 hp
  go_enter Try.func6, Try.ntmps6
  go_wp2_with fail
  with_reducible refine HO.out.mono ?_
  rintro e' w1 ⟨d, rfl, hb⟩
  have HB := Lib.hid hb
  clear hb
  go_wp2_with fail
  with_reducible refine (HN.out d w1).mono ?_
  rintro e' w2 ⟨rfl, hb, hh⟩
  have HB2 := Lib.hid hb
  clear hb hh
  go_wp2_with fail
  go_ret3
  exact ⟨HB.out.trans (HB2.out.mono HB.out.size), Or.inl ⟨by rw [HE.out]; omega, by rw [HE.out]; rfl⟩⟩
/-- What a round of a run starts from. -/
structure RunIn (f : Nat → Int) (n nt np m : Nat) (l : Nat → Acc) (W wr : World) (k : Nat) (M : Mv) (r : Nat) : Prop where
  mem : MemAt wr M
  em : M.m = m
  own : ∀ q, M.own q → W.heap.size ≤ q
  run : RunAt f n nt np l k M r
  le : r ≤ k
  ck : M.ck ≤ k
  wm : M.wm ≤ k
  below : Below W.heap.size W wr
theorem run_round {f : Nat → Int} {n nt np m : Nat} {l : Nat → Acc} {W wr w1 w2 : World} {k : Nat} {M : Mv} {r : Nat} (h : RunIn f n nt np m l W wr k M r) (hb : Below wr.heap.size wr w1) {v : Value} (hi : Into M (M.acts (l k) v) w1 w2) {w3 : World} (h3 : Below w2.heap.size w2 w3) :
    RunIn f n nt np m l W w3 (k + 1) (M.acts (l k) v) (if r = k ∧ (1 ≤ (l k).ki ∧ (l k).ki ≤ 5) ∧ accB (M.acts (l k) v).la (l k) = true then k + 1 else r) := by
  have s0 := h.below.size
  have s1 := hb.size
  have s2 := hi.2.1.size
  have hw := acts_wm M (l k) v
  have hc := acts_ck M (l k) v
  have hle := h.le
  have hck := h.ck
  have hwm := h.wm
  refine ⟨hi.1.below h3, hw.2.1.trans h.em, fun q hq => ?_, run_step h.run v, ?_, ?_, by omega, ?_⟩
  · rcases hi.2.2 q hq with h1 | h1
    · exact h.own q h1
    · omega
  · split <;> omega
  · rw [hc]; split <;> omega
  · have b1 := (h.below.trans (hb.mono s0))
    have b2 : Below W.heap.size w1 w2 := hi.2.1.below (by omega) fun q hq e => by have := h.own q e; omega
    exact (b1.trans b2).trans (h3.mono (by omega))
theorem last22M (M : Mv) (W : World) (h : MemAt W M) : Calls Try.prog 22 #[.pointer (some ⟨M.m, 0, none⟩)] W (Gives (.agg M.la.cells) W) := by
  obtain ⟨_, _, _, _, y4, y5, y6, y7, y8, y9, _⟩ := row10 h.row
  exact last22 M.m _ _ _ _ _ _ W (h.lt (Or.inl (by simp [Mv.blocks]))) y4 y5 y6 y7 y8 y9
theorem clock20M (M : Mv) (W : World) (h : MemAt W M) : Calls Try.prog 20 #[.pointer (some ⟨M.m, 0, none⟩)] W (Says (.int .i64 M.ck) W) :=
  clock20 M.m M.ck W (row10 h.row).2.2.1
theorem acc_over {W : World} {b : Nat} {x : Acc} {t : TypeId} (h : W.heap[b]? = some (.cells x.cells t (0, 0))) :
    (∀ y : Over W.heap.size W, y.w.cell? ⟨b, 0, none⟩ = some (.int .i64 x.ki)) ∧ (∀ y : Over W.heap.size W, y.w.cell? ⟨b, 1, none⟩ = some (.int .i64 x.th)) ∧ (∀ y : Over W.heap.size W, y.w.cell? ⟨b, 2, none⟩ = some (.int .i64 x.pl)) ∧ (∀ y : Over W.heap.size W, y.w.cell? ⟨b, 3, none⟩ = some (.int .u64 x.ol)) ∧ (∀ y : Over W.heap.size W, y.w.cell? ⟨b, 4, none⟩ = some (.int .u64 x.ne)) ∧ (∀ y : Over W.heap.size W, y.w.cell? ⟨b, 5, none⟩ = some (.bool x.dn)) := by
  have hlt := (Array.getElem?_eq_some_iff.1 h).1
  have e : ∀ (y : Over W.heap.size W) (o : Nat), y.w.cell? ⟨b, o, none⟩ = x.cells[o]? := fun y o => by
    rw [y.below.cell (p := ⟨b, o, none⟩) hlt, cell_of_row _ _ _ _ _ _ h]
  exact ⟨fun y => e y 0, fun y => e y 1, fun y => e y 2, fun y => e y 3, fun y => e y 4, fun y => e y 5⟩
set_option maxRecDepth 100000 in
set_option maxHeartbeats 4000000 in
theorem run6_yes (a : Option Addr) (n cap : Nat) (t : Int) (np : Nat) (al : Option Addr) (len capl : Nat) (hl : len ≤ 100) (f : Nat → Int) (l : Nat → Acc) (W : World) (hO : Calls Try.prog 18 #[.slice a n cap, .int .i64 t] W (OpenTo f n t W)) (h0 : mayOpenE n t = 0) (hp : np ≤ 262144) (hA : AccsIn W al len l) :
    Calls Try.prog 6 #[.slice a n cap, .int .i64 t, .int .i64 np, .slice al len capl] W (RunTo f n t np l len W) := by
  have HO : Hid (Calls Try.prog 18 #[.slice a n cap, .int .i64 t] W (fun e W' => ∃ d kb sb wb fb c0 c1, e = .returned (.tuple #[.pointer (some ⟨d, 0, none⟩), .int .i64 0]) ∧ Below W.heap.size W W' ∧ DevAt W' W.heap.size d kb sb wb fb (n / 8) t.toNat c0 c1 f)) := Lib.hid (hO.mono fun e W' h => by
    rcases h.2 with ⟨h1, _⟩ | ⟨_, d, kb, sb, wb, fb, c0, c1, h1, h2⟩
    · exact absurd h0 h1
    · exact ⟨d, kb, sb, wb, fb, c0, c1, h1, h.1, h2⟩)
  have HE : Hid (runE n t np = 0) := Lib.hid (by unfold runE; rw [if_neg (by simpa using h0), if_neg (by omega)])
  have HN := Lib.hid fun d w => new19_yes d np hp w
  obtain ⟨h1, h2, h3⟩ := mayOpen_ok h0
  obtain ⟨h4, h5⟩ := wholeE_eq h2
  have HF : Hid (0 < n / 8 ∧ n / 8 ≤ 262144 ∧ t.toNat ≤ 64 ∧ np ≤ 262144) := Lib.hid (by omega)
  have HA := Lib.hid hA
  clear hO h0 h1 h2 h3 h4 h5 hA
  go_enter Try.func6, Try.ntmps6
  go_wp2_with fail
  with_reducible refine HO.out.mono ?_
  rintro e' w1 ⟨d, kb, sb, wb, fb, c0, c1, rfl, hb, hd⟩
  have HB := Lib.hid hb
  have HD := Lib.hid hd
  clear hb hd
  go_wp2_with fail
  with_reducible refine (HN.out d w1).mono ?_
  rintro e' w2 ⟨m, pb, rfl, hb, hm, hpb, hmp, hr, hpr⟩
  have HS : Hid (RunIn f (n / 8) t.toNat np m l W w2 0 (Mv.start m d kb sb wb fb pb (n / 8) t.toNat np c0 c1 f) 0) := Lib.hid (by
    obtain ⟨f1, f2, f3, f4⟩ := HF.out
    obtain ⟨g1, g2⟩ := mem_start HD.out hb hm hpb hmp hr hpr f1 f2 f3 f4
    exact ⟨g1, rfl, fun q hq => by rcases g2 q hq with h | h; exact h; have := HB.out.size; omega, run_start _ _ _ _ _ _ _ _ _ _ _ _ _ _, Nat.le_refl _, Int.le_refl _, Int.le_refl _, HB.out.trans (hb.mono HB.out.size)⟩)
  clear hb hm hpb hmp hr hpr
  go_wp2_with fail
  go_loopw [14, 38] (fun rv i wr => ∃ (k r : Nat) (M : Mv), k ≤ len ∧ i = .int .i64 k ∧ rv = .int .i64 r ∧ Hid (RunIn f (n / 8) t.toNat np m l W wr k M r)) (fun _ i _ => len - (intOf i).toNat)
  case atStart => exact ⟨0, 0, _, Nat.zero_le _, rfl, rfl, HS⟩
  case round =>
    obtain ⟨k, r, M, hk, rfl, rfl, HR⟩ := hrel
    by_cases hlt : k < len
    · have e1 : decide ((k : Int) < (len : Int)) = true := bool_yes (by omega)
      have i0 : (0 : Int) ≤ (k : Int) := by omega
      have i1 : (k : Int) < (len : Int) := by omega
      obtain ⟨b, off, rfl, hbl, ha, hmay⟩ := HA.out k hlt
      have keep : ∀ o, wr.cell? ⟨b, o, none⟩ = W.cell? ⟨b, o, none⟩ := fun o => HR.out.below.cell (p := ⟨b, o, none⟩) hbl
      obtain ⟨a0, a1, a2, a3, a4, a5⟩ := ha
      rw [← keep] at a0 a1 a2 a3 a4 a5
      clear keep
      have HCK := Lib.hid fun w h => clock20M M w h
      have HLE := Lib.hid HR.out.le
      have HDO : Hid (∀ w, MemAt w M → Calls Try.prog 21 #[.pointer (some ⟨M.m, 0, none⟩), .agg (l k).cells] w (Ends M (M.acts (l k)) w)) := Lib.hid fun w h => do21 M (l k) hmay w h (by have := HR.out.ck; omega) (by have := HR.out.wm; omega)
      rw [HR.out.em] at HCK HDO
      have HRR := Lib.hid fun w1 w2 v w3 hb hi h3 => run_round (w1 := w1) (w2 := w2) (v := v) (w3 := w3) HR.out hb hi h3
      have HACK := Lib.hid fun v => acts_ck M (l k) v
      obtain ⟨x, hx⟩ : ∃ x, x = l k := ⟨_, rfl⟩
      rw [← hx] at a0 a1 a2 a3 a4 a5 hmay HDO HRR HACK
      have HMAY := Lib.hid hmay
      have HX := Lib.hid hx
      clear hx hmay
      obtain ⟨B, hB⟩ : ∃ B : Obj, B = .cells x.cells 44 := ⟨_, rfl⟩
      have HB1 : Hid (Below wr.heap.size wr (wr.alloc B)) := Lib.hid ((Below.refl _ _).alloc (Nat.le_refl _) _)
      have HM1 := Lib.hid (HR.out.mem.below HB1.out)
      have HD1 := Lib.hid (HDO.out _ HM1.out)
      have HC1 := Lib.hid (HCK.out _ HM1.out)
      have q0 := heap_alloc_new wr B
      have HQ0 : Hid ((wr.alloc B).heap[wr.heap.size]? = some (.cells x.cells 44 (0, 0))) := Lib.hid (by rw [q0, hB])
      have HSZ : Hid (¬ M.own wr.heap.size) := Lib.hid (HR.out.mem.not_own (Nat.le_refl _))
      have hB2 := hB
      simp only [Acc.cells] at hB2 HD1
      subst hB2
      clear q0 hB HDO HCK
      go_wp2_with fail
      with_reducible refine HC1.out.mono ?_
      rintro e' w3 ⟨rfl, hw⟩
      cases hw
      go_wp2_with fail
      with_reducible refine HD1.out.mono ?_
      rintro e' w4 ⟨⟨u, rfl⟩, v, hi⟩
      have HI := Lib.hid hi
      have HQ4 : Hid (w4.heap[wr.heap.size]? = some (.cells x.cells 44 (0, 0))) := Lib.hid ((hi.2.1.block wr.heap.size (by simp) HSZ.out).trans HQ0.out)
      clear hi
      obtain ⟨N, hN⟩ : ∃ N, N = M.acts x v := ⟨_, rfl⟩
      have HN4 : Hid (MemAt w4 N) := Lib.hid (by rw [hN]; exact HI.out.1)
      have hNm : N.m = m := by rw [hN]; exact (acts_wm M x v).2.1.trans HR.out.em
      have hck := acts_ck M x v
      rw [← hN] at hck
      have HFIN : Hid (∀ y : Over w4.heap.size w4, RunIn f (n / 8) t.toNat np m l W y.w (k + 1) N (if r = k ∧ (1 ≤ x.ki ∧ x.ki ≤ 5) ∧ accB N.la x = true then k + 1 else r)) := Lib.hid fun y => by
        rw [hN]; exact HRR.out _ _ _ _ HB1.out HI.out y.below
      have HCKx : Hid (∀ y : Over w4.heap.size w4, Calls Try.prog 20 #[.pointer (some ⟨m, 0, none⟩)] y.w (Says (.int .i64 N.ck) y.w)) := Lib.hid fun y => by
        have := clock20M N y.w (HN4.out.below y.below); rw [hNm] at this; exact this
      have HLAx : Hid (∀ y : Over w4.heap.size w4, Calls Try.prog 22 #[.pointer (some ⟨m, 0, none⟩)] y.w (Gives (.agg N.la.cells) y.w)) := Lib.hid fun y => by
        have := last22M N y.w (HN4.out.below y.below); rw [hNm] at this; exact this
      obtain ⟨b0, b1, b2, b3, b4, b5⟩ := acc_over HQ4.out
      have qe := fun w => eql44 N.la x w
      obtain ⟨la, hla⟩ : ∃ la, la = N.la := ⟨_, rfl⟩
      rw [← hla] at qe HLAx HFIN
      clear hla hN hNm
      generalize N.ck = ck at *
      obtain ⟨bb, hbb⟩ : ∃ bb, bb = accB la x := ⟨_, rfl⟩
      rw [← hbb] at qe HFIN
      simp only [Acc.cells] at qe HLAx
      clear hbb
      by_cases hrk : r = k
      · have f1 : ((r : Int) == (k : Int)) = true := by simp; omega
        have f2 : (r == k) = true := by simp; omega
        by_cases hki : 1 ≤ x.ki ∧ x.ki ≤ 5
        · rw [if_pos hki] at hck
          have f3 : decide (M.ck < ck) = true := bool_yes (by omega)
          have HK1 : Hid (∀ y : Over w4.heap.size w4, bb = true → RunIn f (n / 8) t.toNat np m l W y.w (k + 1) N (r + 1)) := Lib.hid fun y hb => by
            have := HFIN.out y; rw [if_pos ⟨hrk, hki, hb⟩] at this; rw [hrk]; exact this
          have HK2 : Hid (∀ y : Over w4.heap.size w4, bb = false → RunIn f (n / 8) t.toNat np m l W y.w (k + 1) N r) := Lib.hid fun y hb => by
            have := HFIN.out y; rw [if_neg (fun c => by rw [hb] at c; exact absurd c.2.2 (by simp))] at this; exact this
          have hr9 : r ≤ 100 := by omega
          clear hrk hki hck HFIN
          cases bb
          · go_wp2_with fail
            refine region_quiet_of (fun x : Over w4.heap.size w4 => x.w) (by kernel_rfl) (by kernel_rfl) (Over.first _ _) (Over.first_w _ _) ?_
            repeat (first | go_big_quiet_skip | (go_big_quiet_want; go_big_quiet_op; first | go_big_quiet_on | go_big_quiet_call (first | (rename_i y; go_at_call 20; refine (HCKx.out y).mono ?_; rintro e w' ⟨rfl, hw⟩; exact ⟨rfl, y, hw⟩) | (rename_i y; go_at_call 22; refine (HLAx.out y).mono ?_; rintro e w' ⟨rfl, hb⟩; exact ⟨rfl, y.on w' (hb.mono y.below.size), rfl⟩))))
            refine wpQuiet_nil ?_
            rintro _ ⟨y, rfl⟩
            go_wp2_with fail
            go_roundw
            case rel => exact ⟨k + 1, r, N, by omega, by go_num, rfl, Lib.hid (HK2.out y trivial)⟩
            case measure => simp [intOf]; omega
          · go_wp2_with fail
            refine region_quiet_of (fun x : Over w4.heap.size w4 => x.w) (by kernel_rfl) (by kernel_rfl) (Over.first _ _) (Over.first_w _ _) ?_
            repeat (first | go_big_quiet_skip | (go_big_quiet_want; go_big_quiet_op; first | go_big_quiet_on | go_big_quiet_call (first | (rename_i y; go_at_call 20; refine (HCKx.out y).mono ?_; rintro e w' ⟨rfl, hw⟩; exact ⟨rfl, y, hw⟩) | (rename_i y; go_at_call 22; refine (HLAx.out y).mono ?_; rintro e w' ⟨rfl, hb⟩; exact ⟨rfl, y.on w' (hb.mono y.below.size), rfl⟩))))
            refine wpQuiet_nil ?_
            rintro _ ⟨y, rfl⟩
            go_wp2_with fail
            go_roundw
            case rel => exact ⟨k + 1, r + 1, N, by omega, by go_num, by go_num, Lib.hid (HK1.out y trivial)⟩
            case measure => simp [intOf]; omega
        · rw [if_neg hki] at hck
          have f3 : decide (M.ck < ck) = false := bool_no (by omega)
          have HK2 : Hid (∀ y : Over w4.heap.size w4, RunIn f (n / 8) t.toNat np m l W y.w (k + 1) N r) := Lib.hid fun y => by
            have := HFIN.out y; rw [if_neg (fun c => hki c.2.1)] at this; exact this
          clear hrk hki hck HFIN
          go_wp2_with fail
          refine region_quiet_of (fun x : Over w4.heap.size w4 => x.w) (by kernel_rfl) (by kernel_rfl) (Over.first _ _) (Over.first_w _ _) ?_
          repeat (first | go_big_quiet_skip | (go_big_quiet_want; go_big_quiet_op; first | go_big_quiet_on | go_big_quiet_call (first | (rename_i y; go_at_call 20; refine (HCKx.out y).mono ?_; rintro e w' ⟨rfl, hw⟩; exact ⟨rfl, y, hw⟩) | (rename_i y; go_at_call 22; refine (HLAx.out y).mono ?_; rintro e w' ⟨rfl, hb⟩; exact ⟨rfl, y.on w' (hb.mono y.below.size), rfl⟩))))
          refine wpQuiet_nil ?_
          rintro _ ⟨y, rfl⟩
          go_wp2_with fail
          go_roundw
          case rel => exact ⟨k + 1, r, N, by omega, by go_num, rfl, Lib.hid (HK2.out y)⟩
          case measure => simp [intOf]; omega
      · have f1 : ((r : Int) == (k : Int)) = false := by simp; omega
        have f2 : (r == k) = false := by simp; omega
        have HK2 : Hid (∀ y : Over w4.heap.size w4, RunIn f (n / 8) t.toNat np m l W y.w (k + 1) N r) := Lib.hid fun y => by
          have := HFIN.out y; rw [if_neg (fun c => hrk c.1)] at this; exact this
        clear hrk hck HFIN
        go_wp2_with fail
        refine region_quiet_of (fun x : Over w4.heap.size w4 => x.w) (by kernel_rfl) (by kernel_rfl) (Over.first _ _) (Over.first_w _ _) ?_
        repeat (first | go_big_quiet_skip | (go_big_quiet_want; go_big_quiet_op; first | go_big_quiet_on | go_big_quiet_call (first | (rename_i y; go_at_call 20; refine (HCKx.out y).mono ?_; rintro e w' ⟨rfl, hw⟩; exact ⟨rfl, y, hw⟩) | (rename_i y; go_at_call 22; refine (HLAx.out y).mono ?_; rintro e w' ⟨rfl, hb⟩; exact ⟨rfl, y.on w' (hb.mono y.below.size), rfl⟩))))
        refine wpQuiet_nil ?_
        rintro _ ⟨y, rfl⟩
        go_wp2_with fail
        go_roundw
        case rel => exact ⟨k + 1, r, N, by omega, by go_num, rfl, Lib.hid (HK2.out y)⟩
        case measure => simp [intOf]; omega
    · obtain rfl : k = len := by omega
      have e1 : decide ((k : Int) < (k : Int)) = false := by simp
      go_wp2_with fail
      go_ret3
      refine ⟨HR.out.below, Or.inr ⟨HE.out, M, r, by rw [HR.out.em]; rfl, HR.out.mem, HR.out.own, HR.out.run, HR.out.le, HR.out.ck⟩⟩
end Go.Proofs.Ytpmjcinemabamaa
