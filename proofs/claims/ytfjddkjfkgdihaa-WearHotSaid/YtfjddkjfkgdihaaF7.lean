/- The library's stable sort, whole: blocks, and blocks merged. -/
import Derived.Test.YtfjddkjfkgdihaaF6
namespace Go.Proofs.Ytfjddkjfkgdihaa
open Go.RowKit Go.BigFrame
set_option linter.unusedVariables false
set_option linter.unusedSimpArgs false

/-! Blocks of 20, sorted one by one. -/
structure PhA (z : Nat → Int) (D E : Nat → Nat) (n k : Nat) : Prop where
  rest : ∀ t, k * 20 ≤ t → E t = D t
  done : ∀ j, j < k → SrtOn z E (j * 20) ((j + 1) * 20)
  num : ∀ j p q, j ≤ k → p < j * 20 → j * 20 ≤ q → q < n → E p < E q
  same : Same D E 0 n
theorem PhA.start {z : Nat → Int} {D : Nat → Nat} {n : Nat} : PhA z D D n 0 :=
  ⟨fun _ _ => rfl, fun j h => by omega, fun j p q h1 h2 => by omega, Same.refl _ _ _⟩
theorem PhA.asc {z : Nat → Int} {D E : Nat → Nat} {n k b : Nat} (h : PhA z D E n k) (hA : AscOn D 0 n) (hb : b ≤ n) : AscOn E (k * 20) b := fun p q h1 h2 h3 => by
  rw [h.rest p h1, h.rest q (by omega)]; exact hA p q (by omega) h2 (by omega)
theorem PhA.next {z : Nat → Int} {D E E' : Nat → Nat} {n k : Nat} (h : PhA z D E n k) (hA : AscOn D 0 n) (hb : (k + 1) * 20 ≤ n) (hm : Merged z E E' (k * 20) ((k + 1) * 20)) : PhA z D E' n (k + 1) := by
  refine ⟨fun t ht => by rw [hm.2.out t (by omega)]; exact h.rest t (by omega), fun j hj p q h1 h2 h3 => ?_, fun j p q h1 h2 h3 h4 => ?_, h.same.trans (hm.2.wide (Nat.zero_le _) hb)⟩
  · by_cases e : j = k
    · subst e; exact hm.1 p q h1 h2 h3
    · rw [hm.2.out p (by omega), hm.2.out q (by omega)]; exact h.done j (by omega) p q h1 h2 h3
  · by_cases e : j = k + 1
    · subst e
      rw [hm.2.out q (by omega)]
      by_cases e2 : p < k * 20
      · rw [hm.2.out p (by omega)]; exact h.num k p q (Nat.le_refl _) e2 (by omega) h4
      · obtain ⟨p', f1, f2, e3⟩ := hm.2.into p (by omega) (by omega)
        rw [e3, h.rest p' f1, h.rest q (by omega)]; exact hA p' q (by omega) (by omega) h4
    · rw [hm.2.out p (by omega)]
      by_cases e2 : k * 20 ≤ q ∧ q < (k + 1) * 20
      · obtain ⟨q', f1, f2, e3⟩ := hm.2.into q e2.1 e2.2
        rw [e3]; exact h.num j p q' (by omega) h2 (by omega) (by omega)
      · rw [hm.2.out q (by omega)]; exact h.num j p q (by omega) h2 h3 h4

/-- Blocks of bs, each sorted, one behind the other by number. -/
structure Blk (z : Nat → Int) (E : Nat → Nat) (bs n : Nat) : Prop where
  srt : ∀ k, SrtOn z E (k * bs) (min ((k + 1) * bs) n)
  num : ∀ j p q, p < j * bs → j * bs ≤ q → q < n → E p < E q
theorem PhA.last {z : Nat → Int} {D E E' : Nat → Nat} {n k : Nat} (h : PhA z D E n k) (hA : AscOn D 0 n) (hk : k * 20 ≤ n) (hb : n < (k + 1) * 20) (hm : Merged z E E' (k * 20) n) : Blk z E' 20 n ∧ Same D E' 0 n := by
  refine ⟨⟨fun j p q h1 h2 h3 => ?_, fun j p q h2 h3 h4 => ?_⟩, h.same.trans (hm.2.wide (Nat.zero_le _) (Nat.le_refl _))⟩
  · by_cases e : j < k
    · rw [hm.2.out p (by omega), hm.2.out q (by omega)]; exact h.done j e p q h1 h2 (by omega)
    · exact hm.1 p q (by omega) h2 (by omega)
  · by_cases e : j ≤ k
    · rw [hm.2.out p (by omega)]
      by_cases e2 : k * 20 ≤ q
      · obtain ⟨q', f1, f2, e3⟩ := hm.2.into q e2 h4
        rw [e3]; exact h.num j p q' e h2 (by omega) f2
      · rw [hm.2.out q (by omega)]; exact h.num j p q e h2 h3 h4
    · omega

/-! Blocks merged two by two. -/
structure PhB (z : Nat → Int) (E : Nat → Nat) (bs n k : Nat) : Prop where
  done : ∀ j, j < k → SrtOn z E (j * (2 * bs)) ((j + 1) * (2 * bs))
  rest : ∀ j, 2 * k ≤ j → SrtOn z E (j * bs) (min ((j + 1) * bs) n)
  num1 : ∀ j p q, j ≤ k → p < j * (2 * bs) → j * (2 * bs) ≤ q → q < n → E p < E q
  num2 : ∀ j p q, 2 * k ≤ j → p < j * bs → j * bs ≤ q → q < n → E p < E q
def IsBs (bs : Nat) : Prop := bs = 20 ∨ bs = 40 ∨ bs = 80 ∨ bs = 160
theorem PhB.start {z : Nat → Int} {E : Nat → Nat} {bs n : Nat} (h : Blk z E bs n) : PhB z E bs n 0 :=
  ⟨fun j h => by omega, fun j _ => h.srt j, fun j p q h1 h2 => by obtain rfl : j = 0 := by omega
                                                                  omega, fun j p q _ h2 h3 h4 => h.num j p q h2 h3 h4⟩
set_option maxRecDepth 100000 in
theorem PhB.runs {z : Nat → Int} {E : Nat → Nat} {bs n k b : Nat} (hbs : IsBs bs) (h : PhB z E bs n k) (hb : b ≤ n) (hb1 : k * (2 * bs) + bs ≤ b) (hb2 : b ≤ k * (2 * bs) + 2 * bs) : Runs z E (k * (2 * bs)) (k * (2 * bs) + bs) b := by
  have h1 := h.rest (2 * k) (Nat.le_refl _)
  have h2 := h.rest (2 * k + 1) (by omega)
  have h3 := h.num2 (2 * k + 1)
  refine ⟨fun p q g1 g2 g3 => ?_, fun p q g1 g2 g3 => ?_, fun p q g1 g2 g3 g4 => ?_⟩
  · exact h1 p q (by rcases hbs with rfl | rfl | rfl | rfl <;> omega) g2 (by rcases hbs with rfl | rfl | rfl | rfl <;> omega)
  · exact h2 p q (by rcases hbs with rfl | rfl | rfl | rfl <;> omega) g2 (by rcases hbs with rfl | rfl | rfl | rfl <;> omega)
  · exact h3 p q (by omega) (by rcases hbs with rfl | rfl | rfl | rfl <;> omega) (by rcases hbs with rfl | rfl | rfl | rfl <;> omega) (by omega)
set_option maxRecDepth 100000 in
theorem PhB.next {z : Nat → Int} {E E' : Nat → Nat} {bs n k : Nat} (hbs : IsBs bs) (h : PhB z E bs n k) (hb : k * (2 * bs) + 2 * bs ≤ n) (hm : Merged z E E' (k * (2 * bs)) (k * (2 * bs) + 2 * bs)) : PhB z E' bs n (k + 1) := by
  obtain ⟨hs, hsm⟩ := hm
  refine ⟨fun j hj p q h1 h2 h3 => ?_, fun j hj p q h1 h2 h3 => ?_, fun j p q h1 h2 h3 h4 => ?_, fun j p q h1 h2 h3 h4 => ?_⟩
  · by_cases e : j = k
    · subst e; exact hs p q h1 h2 (by rcases hbs with rfl | rfl | rfl | rfl <;> omega)
    · have e1 : q < k * (2 * bs) := by rcases hbs with rfl | rfl | rfl | rfl <;> omega
      rw [hsm.out p (by omega), hsm.out q (by omega)]; exact h.done j (by omega) p q h1 h2 h3
  · have e1 : k * (2 * bs) + 2 * bs ≤ p := by rcases hbs with rfl | rfl | rfl | rfl <;> omega
    rw [hsm.out p (by omega), hsm.out q (by omega)]; exact h.rest j (by omega) p q h1 h2 h3
  · by_cases e : j = k + 1
    · subst e
      have e1 : k * (2 * bs) + 2 * bs ≤ q := by rcases hbs with rfl | rfl | rfl | rfl <;> omega
      have e4 : p < k * (2 * bs) + 2 * bs := by rcases hbs with rfl | rfl | rfl | rfl <;> omega
      have h5 := h.num2 (2 * k + 2)
      rw [hsm.out q (by omega)]
      by_cases e2 : p < k * (2 * bs)
      · rw [hsm.out p (by omega)]
        exact h5 p q (by omega) (by rcases hbs with rfl | rfl | rfl | rfl <;> omega) (by rcases hbs with rfl | rfl | rfl | rfl <;> omega) h4
      · obtain ⟨p', f1, f2, e3⟩ := hsm.into p (by omega) e4
        rw [e3]
        exact h5 p' q (by omega) (by rcases hbs with rfl | rfl | rfl | rfl <;> omega) (by rcases hbs with rfl | rfl | rfl | rfl <;> omega) h4
    · have e1 : j * (2 * bs) ≤ k * (2 * bs) := by rcases hbs with rfl | rfl | rfl | rfl <;> omega
      rw [hsm.out p (by omega)]
      by_cases e2 : k * (2 * bs) ≤ q ∧ q < k * (2 * bs) + 2 * bs
      · obtain ⟨q', f1, f2, e3⟩ := hsm.into q e2.1 e2.2
        rw [e3]; exact h.num1 j p q' (by omega) h2 (by omega) (by omega)
      · rw [hsm.out q (by omega)]; exact h.num1 j p q (by omega) h2 h3 h4
  · have e1 : k * (2 * bs) + 2 * bs ≤ j * bs := by rcases hbs with rfl | rfl | rfl | rfl <;> omega
    rw [hsm.out q (by omega)]
    by_cases e2 : k * (2 * bs) ≤ p ∧ p < k * (2 * bs) + 2 * bs
    · obtain ⟨p', f1, f2, e3⟩ := hsm.into p e2.1 e2.2
      rw [e3]; exact h.num2 j p' q (by omega) (by omega) h3 h4
    · rw [hsm.out p (by omega)]; exact h.num2 j p q (by omega) h2 h3 h4
set_option maxRecDepth 100000 in
/-- The last two blocks, where there are two. -/
theorem PhB.last {z : Nat → Int} {E E' : Nat → Nat} {bs n k : Nat} (hbs : IsBs bs) (h : PhB z E bs n k) (hk : k * (2 * bs) ≤ n) (hb : n < k * (2 * bs) + 2 * bs) (hm : Merged z E E' (k * (2 * bs)) n) : Blk z E' (2 * bs) n := by
  obtain ⟨hs, hsm⟩ := hm
  refine ⟨fun j p q h1 h2 h3 => ?_, fun j p q h2 h3 h4 => ?_⟩
  · by_cases e : j < k
    · have e1 : q < k * (2 * bs) := by rcases hbs with rfl | rfl | rfl | rfl <;> omega
      rw [hsm.out p (by omega), hsm.out q (by omega)]; exact h.done j e p q h1 h2 (by omega)
    · exact hs p q (by rcases hbs with rfl | rfl | rfl | rfl <;> omega) h2 (by omega)
  · by_cases e : j ≤ k
    · have e1 : j * (2 * bs) ≤ k * (2 * bs) := by rcases hbs with rfl | rfl | rfl | rfl <;> omega
      rw [hsm.out p (by omega)]
      by_cases e2 : k * (2 * bs) ≤ q
      · obtain ⟨q', f1, f2, e3⟩ := hsm.into q e2 h4
        rw [e3]; exact h.num1 j p q' e h2 (by omega) f2
      · rw [hsm.out q (by omega)]; exact h.num1 j p q e h2 h3 h4
    · rcases hbs with rfl | rfl | rfl | rfl <;> omega
set_option maxRecDepth 100000 in
theorem PhB.one {z : Nat → Int} {E : Nat → Nat} {bs n k : Nat} (hbs : IsBs bs) (h : PhB z E bs n k) (hb : n ≤ k * (2 * bs) + bs) : Merged z E E (k * (2 * bs)) n :=
  ⟨fun p q h1 h2 h3 => h.rest (2 * k) (Nat.le_refl _) p q (by rcases hbs with rfl | rfl | rfl | rfl <;> omega) h2 (by rcases hbs with rfl | rfl | rfl | rfl <;> omega), Same.refl _ _ _⟩
theorem Blk.all {z : Nat → Int} {E : Nat → Nat} {bs n : Nat} (h : Blk z E bs n) (hb : n ≤ bs) : SrtOn z E 0 n := fun p q h1 h2 h3 => h.srt 0 p q (by omega) h2 (by omega)

theorem ins_none (v fv : Value) (w : World) : Calls Try.prog 91 #[v, .int .i64 0, .int .i64 0, fv] w fun e w' => e = .returned (.tuple #[]) ∧ w' = w := by
  go_enter Try.func91, Try.ntmps91
  go_wp2_with fail
  go_loopw [8] (fun vi wr => vi = .int .i64 1 ∧ wr = w) (fun _ _ => 0)
  case atStart => exact ⟨rfl, rfl⟩
  case round =>
    obtain ⟨rfl, rfl⟩ := hrel
    go_wp2_with fail
    go_end0
    exact ⟨rfl, rfl⟩

set_option maxRecDepth 100000 in
set_option maxHeartbeats 4000000 in
theorem stable89 (g off n cap q bw ow lw cw : Nat) (z : Nat → Int) (D : Nat → Nat) (W w : World) (h : DataAt W w g off n D) (he : EnvOut W g q bw ow lw cw z) (hl : ∀ t, t < n → D t < lw) (hn : n ≤ 300) (hA : AscOn D 0 n) :
    Calls Try.prog 89 #[.slice (some ⟨g, off, none⟩) n cap, .int .i64 n, .func (.func 76) #[] #[.pointer (some ⟨q, 0, none⟩)]] w (SrtTo W g off n z D 0 n) := by
  have HE := Lib.hid he
  have HA := Lib.hid hA
  have HL := Lib.hid hl
  have HSY := Lib.hid (sym92 g off n cap q bw ow lw cw z W he (by omega) 1000000)
  clear he hA hl
  go_enter Try.func89, Try.ntmps89
  go_wp2_with fail
  go_loopw [7, 8] (fun va vb wr => ∃ k : Nat, va = .int .i64 ((k * 20 : Nat) : Int) ∧ vb = .int .i64 (((k + 1) * 20 : Nat) : Int) ∧ k * 20 ≤ n ∧ ∃ E, Hid (DataAt W wr g off n E) ∧ Hid (PhA z D E n k)) (fun va _ _ => n + 1 - (intOf va).toNat)
  case atStart => exact ⟨0, by simp, by simp, by omega, D, Lib.hid h, Lib.hid PhA.start⟩
  case round =>
    clear h
    obtain ⟨k, rfl, rfl, hk, E, HD, HP⟩ := hrel
    have hle : ∀ t, t < n → E t < lw := same_lw HP.out.same (Nat.le_refl _) HL.out
    obtain ⟨A, hA⟩ : ∃ A, A = k * 20 := ⟨_, rfl⟩
    obtain ⟨Bx, hB⟩ : ∃ Bx, Bx = (k + 1) * 20 := ⟨_, rfl⟩
    rw [← hA, ← hB]
    rw [← hA] at hk
    by_cases hbn : Bx ≤ n
    · have HC := Lib.hid (ins91 g off n cap A Bx q bw ow lw cw z E W wr HD.out HE.out hle (by omega) (by omega) hbn (by rw [hA]; exact HP.out.asc HA.out hbn))
      have HNX : Hid (∀ E', Merged z E E' A Bx → PhA z D E' n (k + 1)) := Lib.hid fun E' hm => HP.out.next HA.out (by omega) (by rw [← hA, ← hB]; exact hm)
      have w1 : IntKind.i64.wrap ((Bx : Int) + 20) = (Bx : Int) + 20 := IntWalk.i64_in _ (by omega)
      have HAB := Lib.hid (And.intro hA hB)
      clear hA hB hle HP
      go_wp2_with fail
      with_reducible refine HC.out.mono ?_
      rintro e w2 ⟨rfl, F, hd, hm⟩
      have HD2 := Lib.hid hd
      have HM2 := Lib.hid (HNX.out F hm)
      clear hd hm
      go_wp2_with fail
      go_roundw
      case rel =>
        obtain ⟨h1, h2⟩ := HAB.out
        exact ⟨k + 1, by congr 1 <;> omega, by congr 1 <;> omega, by omega, F, HD2, HM2⟩
      case measure => obtain ⟨h1, h2⟩ := HAB.out; simp [intOf]; omega
    · have HC := Lib.hid (ins91 g off n cap A n q bw ow lw cw z E W wr HD.out HE.out hle (by omega) hk (Nat.le_refl _) (by rw [hA]; exact HP.out.asc HA.out (Nat.le_refl _)))
      have HNX : Hid (∀ E', Merged z E E' A n → Blk z E' 20 n ∧ Same D E' 0 n) := Lib.hid fun E' hm => HP.out.last HA.out (by omega) (by omega) (by rw [← hA]; exact hm)
      clear hA hB hle HP
      go_wp2_with fail
      with_reducible refine HC.out.mono ?_
      rintro e w2 ⟨rfl, F, hd, hm⟩
      have HD2 := Lib.hid hd
      have HBK := Lib.hid (HNX.out F hm).1
      have HSM := Lib.hid (HNX.out F hm).2
      clear hd hm HNX HC HD
      go_wp2_with fail
      go_loopw [6] (fun vs wr => ∃ bs : Nat, vs = .int .i64 bs ∧ (IsBs bs ∨ bs = 320) ∧ ∃ E, Hid (DataAt W wr g off n E) ∧ Hid (Blk z E bs n) ∧ Hid (Same D E 0 n)) (fun vs _ => 640 - (intOf vs).toNat)
      case atStart => exact ⟨20, rfl, .inl (.inl rfl), F, HD2, HBK, HSM⟩
      case round =>
        clear HD2 HBK HSM hbn
        obtain ⟨bs, rfl, hbs, E, HD, HBK, HSM⟩ := hrel
        by_cases hbn : bs < n
        · have hbs : IsBs bs := by rcases hbs with h | h; exact h; omega
          have hbb : bs ≤ 160 := by rcases hbs with rfl | rfl | rfl | rfl <;> omega
          have hbp : 20 ≤ bs := by rcases hbs with rfl | rfl | rfl | rfl <;> omega
          have hb2 : IsBs (2 * bs) ∨ 2 * bs = 320 := by
            rcases hbs with rfl | rfl | rfl | rfl
            · exact .inl (.inr (.inl rfl))
            · exact .inl (.inr (.inr (.inl rfl)))
            · exact .inl (.inr (.inr (.inr rfl)))
            · exact .inr rfl
          have HBS := Lib.hid hbs
          have HB2 := Lib.hid hb2
          have w1 : IntKind.i64.wrap (2 * (bs : Int)) = 2 * (bs : Int) := IntWalk.i64_in _ (by omega)
          have w0 : IntKind.i64.wrap ((bs : Int) * 2) = (bs : Int) * 2 := IntWalk.i64_in _ (by omega)
          clear hbs hb2
          go_wp2_with fail
          go_loopw [7, 8] (fun va vb wr => ∃ k a : Nat, va = .int .i64 (a : Int) ∧ vb = .int .i64 ((a + 2 * bs : Nat) : Int) ∧ a ≤ n ∧ Hid (a = k * (2 * bs)) ∧ ∃ E, Hid (DataAt W wr g off n E) ∧ Hid (PhB z E bs n k) ∧ Hid (Same D E 0 n)) (fun va _ _ => n + 1 - (intOf va).toNat)
          case atStart => exact ⟨0, 0, rfl, by congr 1 <;> omega, by omega, Lib.hid (by simp), E, HD, Lib.hid (PhB.start HBK.out), HSM⟩
          case round =>
            clear HD HBK HSM
            obtain ⟨k, a, rfl, rfl, ha, HAK, E, HD, HP, HSM⟩ := hrel
            have hle : Hid (∀ t, t < n → E t < lw) := Lib.hid (same_lw HSM.out (Nat.le_refl _) HL.out)
            have w2 : IntKind.i64.wrap ((a : Int) + (bs : Int)) = (a : Int) + bs := IntWalk.i64_in _ (by omega)
            by_cases h2n : a + 2 * bs ≤ n
            · have HC : Hid (Calls Try.prog 92 #[.slice (some ⟨g, off, none⟩) n cap, .int .i64 a, .int .i64 ((a : Int) + bs), .int .i64 ((a : Int) + 2 * (bs : Int)), .func (.func 76) #[] #[.pointer (some ⟨q, 0, none⟩)]] wr (SrtTo W g off n z E a (a + 2 * bs))) := Lib.hid (by
                have := HSY.out a (a + bs) (a + 2 * bs) E wr (by omega) HD.out hle.out h2n (by omega) (by omega) (by have h1 := HAK.out; rw [h1]; exact HP.out.runs HBS.out (by omega) (by omega) (by omega))
                rw [show ((a + bs : Nat) : Int) = (a : Int) + bs from by omega, show ((a + 2 * bs : Nat) : Int) = (a : Int) + 2 * (bs : Int) from by omega] at this
                exact this)
              have HNX : Hid (∀ E', Merged z E E' a (a + 2 * bs) → PhB z E' bs n (k + 1) ∧ Same D E' 0 n) := Lib.hid fun E' hm => by
                have h1 := HAK.out
                exact ⟨HP.out.next HBS.out (by omega) (by rw [← h1]; exact hm), HSM.out.trans (hm.2.wide (Nat.zero_le _) h2n)⟩
              have HAK2 : Hid (a + 2 * bs = (k + 1) * (2 * bs)) := Lib.hid (by rw [HAK.out]; exact (Nat.succ_mul k (2 * bs)).symm)
              have w3 : IntKind.i64.wrap ((a : Int) + 2 * (bs : Int) + 2 * (bs : Int)) = (a : Int) + 2 * (bs : Int) + 2 * (bs : Int) := IntWalk.i64_in _ (by omega)
              have g1 : (a : Int) + 2 * (bs : Int) ≤ (n : Int) := by omega
              clear HP HAK
              go_wp2_with fail
              with_reducible refine HC.out.mono ?_
              rintro e w2 ⟨rfl, F, hd, hm⟩
              have HD2 := Lib.hid hd
              have HM2 := Lib.hid (HNX.out F hm)
              clear hd hm
              go_wp2_with fail
              go_roundw
              case rel => exact ⟨k + 1, a + 2 * bs, by congr 1, by congr 1 <;> omega, h2n, HAK2, F, HD2, Lib.hid HM2.out.1, Lib.hid HM2.out.2⟩
              case measure => simp [intOf]; omega
            · have g1 : ¬ (a : Int) + 2 * (bs : Int) ≤ (n : Int) := by omega
              have HLS : Hid (∀ E', Merged z E E' a n → Blk z E' (2 * bs) n ∧ Same D E' 0 n) := Lib.hid fun E' hm => by
                have h1 := HAK.out
                exact ⟨HP.out.last HBS.out (by omega) (by omega) (by rw [← h1]; exact hm), HSM.out.trans (hm.2.wide (Nat.zero_le _) (Nat.le_refl _))⟩
              by_cases hlt : a + bs < n
              · have g2 : (a : Int) + (bs : Int) < (n : Int) := by omega
                have HC : Hid (Calls Try.prog 92 #[.slice (some ⟨g, off, none⟩) n cap, .int .i64 a, .int .i64 ((a : Int) + bs), .int .i64 n, .func (.func 76) #[] #[.pointer (some ⟨q, 0, none⟩)]] wr (SrtTo W g off n z E a n)) := Lib.hid (by
                  have := HSY.out a (a + bs) n E wr (by omega) HD.out hle.out (Nat.le_refl _) (by omega) (by omega) (by have h1 := HAK.out; rw [h1]; exact HP.out.runs HBS.out (Nat.le_refl _) (by omega) (by omega))
                  rw [show ((a + bs : Nat) : Int) = (a : Int) + bs from by omega] at this
                  exact this)
                clear HP HAK
                go_wp2_with fail
                with_reducible refine HC.out.mono ?_
                rintro e w2 ⟨rfl, F, hd, hm⟩
                have HD2 := Lib.hid hd
                have HM2 := Lib.hid (HLS.out F hm)
                clear hd hm
                go_wp2_with fail
                go_roundw
                case rel => exact ⟨2 * bs, by congr 1 <;> omega, HB2.out, F, HD2, Lib.hid HM2.out.1, Lib.hid HM2.out.2⟩
                case measure => simp [intOf]; omega
              · have g2 : ¬ (a : Int) + (bs : Int) < (n : Int) := by omega
                have HM2 := Lib.hid (HLS.out E (by have h1 := HAK.out; rw [h1]; exact HP.out.one HBS.out (by omega)))
                clear HP HAK
                go_wp2_with fail
                go_roundw
                case rel => exact ⟨2 * bs, by congr 1 <;> omega, HB2.out, E, HD, Lib.hid HM2.out.1, Lib.hid HM2.out.2⟩
                case measure => simp [intOf]; omega
        · have HM := Lib.hid (HBK.out.all (by omega))
          go_wp2_with fail
          go_end0
          exact ⟨rfl, E, HD.out, HM.out, HSM.out⟩
end Go.Proofs.Ytfjddkjfkgdihaa
