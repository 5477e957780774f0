/- Layer 32: an image's text is written. -/
import Derived.Test.YtjbngddmmdcagaaDoorW3
import Derived.Test.YtjbngddmmdcagaaDoorS2
namespace Go.Proofs.YtjbngddmmdcagaaDoor
open Go.RowKit Go.BigFrame
set_option linter.unusedVariables false
set_option linter.unusedSimpArgs false

theorem strCells_txt (l : List UInt8) : Lib.strCells (txt l) = Lib.byteCells l := by unfold Lib.strCells Lib.byteCells; rw [txt_list]
theorem byteCells_append (l m : List UInt8) : Lib.byteCells (l ++ m) = Lib.byteCells l ++ Lib.byteCells m := by simp [Lib.byteCells]
/-- A text as it grows. -/
def textTo (f : Nat → Nat) (m k : Nat) : List UInt8 := headT f m ++ [10] ++ ((partsW f m).take k).flatMap fun n => rowT f n ++ [10]
theorem textTo_next (f : Nat → Nat) (m k : Nat) (h : k < (partsW f m).length) : textTo f m (k + 1) = textTo f m k ++ (rowT f ((partsW f m)[k]?.getD 0) ++ [10]) := by
  unfold textTo
  rw [List.take_add_one, List.getElem?_eq_getElem h]
  simp only [Option.toList_some, List.flatMap_append, List.flatMap_cons, List.flatMap_nil, List.append_nil, Option.getD_some, List.append_assoc]
theorem textTo_all (f : Nat → Nat) (m : Nat) : textTo f m (partsW f m).length = textT f m := by
  unfold textTo textT; rw [List.take_length]
theorem textTo_le (f : Nat → Nat) (m k : Nat) (h : k ≤ (partsW f m).length) : (textTo f m k).length ≤ (textT f m).length := by
  have : ∀ d, k + d ≤ (partsW f m).length → (textTo f m k).length ≤ (textTo f m (k + d)).length := by
    intro d
    induction d with
    | zero => intro _; exact Nat.le_refl _
    | succ d ih =>
      intro hd
      rw [show k + (d + 1) = k + d + 1 by omega, textTo_next f m (k + d) (by omega), List.length_append]
      have := ih (by omega)
      omega
  have h2 := this ((partsW f m).length - k) (by omega)
  rw [show k + ((partsW f m).length - k) = (partsW f m).length by omega, textTo_all] at h2
  exact h2
theorem partsW_length (f : Nat → Nat) (m : Nat) : (partsW f m).length ≤ m := by
  unfold partsW
  have := List.length_filter_le (full f) (List.range m)
  simpa using this
theorem partsW_lt (f : Nat → Nat) (m k : Nat) (h : k < (partsW f m).length) : (partsW f m)[k]?.getD 0 < m := by
  rw [List.getElem?_eq_getElem h]
  have := List.getElem_mem h
  unfold partsW at this
  exact List.mem_range.1 (List.mem_filter.1 this).1
theorem pad8_length (s : List UInt8) (h : s.length ≤ 8) : (pad8 s).length = 8 := by unfold pad8; simp; omega
theorem rowT_length (f : Nat → Nat) (hf : ∀ j, f j < 18446744073709551616) (n : Nat) (hn : n ≤ 262144) : (rowT f n).length ≤ 143 := by
  have h0 := dig_length (b := 10) (by decide) 6 n (by decide) (by omega)
  have h1 : ∀ k, (dig 16 (f (8 * n + k))).length ≤ 16 := fun k => dig_length (by decide) 16 _ (by decide) (by have := hf (8 * n + k); omega)
  have a0 := h1 0; have a1 := h1 1; have a2 := h1 2; have a3 := h1 3; have a4 := h1 4; have a5 := h1 5; have a6 := h1 6; have a7 := h1 7
  unfold rowT
  simp only [show List.range 8 = [0, 1, 2, 3, 4, 5, 6, 7] from rfl, List.flatMap_cons, List.flatMap_nil, List.length_append, List.length_cons, List.length_nil]
  omega
/-- An image's text was written, or was too long. -/
def WriteTo (f : Nat → Nat) (m : Nat) (w : World) (e : Ending) (w' : World) : Prop :=
  Below w.heap.size w w' ∧ ((textT f m).length ≤ 4194304 → e = .returned (.tuple #[.string (txt (textT f m)), .int .i64 0])) ∧ (4194304 < (textT f m).length → e = .returned (.tuple #[.string ⟨#[]⟩, .int .i64 2]))
theorem lines_own {w : World} {B : Nat} {v : Value} {m : Nat} {f : Nat → Nat} (h : w.ownsRow B 58 8 v m (wordsL (fun j => (f j : Int)) (8 * m))) : ∃ a c, v = .slice a m c ∧ LinesAt w.heap.size w a m f := by
  rcases h.2 with ⟨rfl, rfl⟩ | ⟨g, cap, cur, rfl, hb, hg, h1, h2, h3, h4⟩
  · exact ⟨_, _, rfl, 0, by omega, by omega⟩
  · refine ⟨_, _, rfl, g, fun _ => ⟨rfl, (Array.getElem?_eq_some_iff.1 hg).1⟩, fun j hj => ?_⟩
    rw [cell_in hg, ← Array.getElem?_toList]
    have h5 : (wordsL (fun j => (f j : Int)) (8 * m))[j]? = cur.toList[j]? := by rw [← h4, List.getElem?_take, if_pos (by omega)]
    rw [← h5, wordsL_get _ _ _ hj]
theorem bld_below {B b : Nat} {p : Value} {bs : List Value} {w w' : World} (h : Lib.BuilderAt 46 5 B b p bs w) (hb : Below w.heap.size w w') : Lib.BuilderAt 46 5 B b p bs w' := by
  obtain ⟨hB, v, hbk, hown, hne⟩ := h
  exact ⟨hB, v, (hb.block b (Array.getElem?_eq_some_iff.1 hbk).1).trans hbk, own_keep1 hown fun q hq => hb.block q (own_lt hown hq).2, hne⟩
/-- A row of one's own numbers, where it lies. -/
theorem own_ints {w : World} {B : Nat} {v : Value} {l : List Nat} (h : w.ownsRow B 3 1 v l.length (intsL l)) :
    ∃ a c g, v = .slice a l.length c ∧ (0 < l.length → a = some ⟨g, 0, none⟩ ∧ B ≤ g ∧ (∃ cs, w.heap[g]? = some (.cells cs 3 (0, 0))) ∧ ∀ k, k < l.length → w.cell? ⟨g, k, none⟩ = some (.int .i64 (Int.ofNat (l[k]?.getD 0)))) := by
  rcases h.2 with ⟨rfl, h0⟩ | ⟨g, cap, cur, rfl, hb, hg, h2, h3, h4, h5⟩
  · exact ⟨_, _, 0, by rw [h0], by omega⟩
  · refine ⟨_, _, g, rfl, fun _ => ⟨rfl, hb, ⟨cur, hg⟩, fun k hk => ?_⟩⟩
    rw [cell_in hg, ← Array.getElem?_toList]
    have h6 : (intsL l)[k]? = cur.toList[k]? := by rw [← h5, Nat.mul_one, List.getElem?_take, if_pos hk]
    rw [← h6, intsL_get l k hk]; rfl
/-- What is no lines. -/
theorem write6_no (a : Option Addr) (n cap : Nat) (hn : n ≤ 9223372036854775807) (he : wholeE n ≠ 0) (w : World) : Calls Tryd.prog 6 #[.slice a n cap] w (Tells (.tuple #[.string ⟨#[]⟩, .int .i64 (wholeE n)]) w) := by
  have HC := Lib.hid (cut35_no a n cap hn he w)
  generalize wholeE n = x at *
  have e1 : (x != 0) = true := by simpa using he
  clear he
  go_enter Tryd.func6, Tryd.ntmps6
  go_wp2_with (go_at_call 16; (with_reducible refine HC.out.mono ?_); rintro e w1 ⟨rfl, hb, hh⟩; have HB := Lib.hid (And.intro hb hh); clear hb hh)
  go_ret2
  exact ⟨rfl, HB.out.1, HB.out.2⟩
set_option maxRecDepth 100000 in
set_option maxHeartbeats 8000000 in
theorem write6 (a : Option Addr) (n cap : Nat) (hcap : n ≤ cap) (hc : cap ≤ 9223372036854775807) (he : wholeE n = 0) (f : Nat → Nat) (hf : ∀ j, f j < 18446744073709551616) (w : World) (h : WordsAt w.heap.size w a n f) (h0 : 0 < n) :
    Calls Tryd.prog 6 #[.slice a n cap] w (WriteTo f (n / 8) w) := by
  obtain ⟨b0, off, ha, hcell⟩ := h
  have HCUT : Hid (Calls Tryd.prog 16 #[.slice a n cap] w (CutTo (fun j => (f j : Int)) n w)) :=
    Lib.hid (cut35 a b0 off n cap (fun h => (ha h0).1) hcap hc he (fun j => (f j : Int)) w (fun _ => (ha h0).2) hcell)
  have HSUM : Hid (∀ W, Below w.heap.size w W → Calls Tryd.prog 20 #[.slice a n cap] W (Says (.int .u32 (sumW f n)) W)) := Lib.hid fun W hb =>
    sum20 a n cap (by omega) f hf W (WordsAt.mono (WordsAt.below ⟨b0, off, ha, hcell⟩ hb (Nat.le_refl _)) hb.size)
  have hm8 : n = 8 * (n / 8) ∧ n / 8 ≤ 262144 := by unfold wholeE at he; split at he; omega; split at he; omega; omega
  obtain ⟨m, hm⟩ : ∃ m, m = n / 8 := ⟨_, rfl⟩
  rw [← hm] at hm8
  have HF := Lib.hid hf
  have HS8 : Hid (8 * m = n ∧ m ≤ 262144 ∧ 1 ≤ m) := Lib.hid (by omega)
  have HSL := Lib.hid (sumW_lt f n)
  unfold WriteTo
  unfold CutTo at HCUT
  rw [← hm] at HCUT ⊢
  have HT : Hid (textTo f m 0 = [105, 109, 97, 103, 101, 32] ++ dig 10 m ++ [32] ++ pad8 (dig 16 (sumW f n)) ++ [10]) := Lib.hid (by unfold textTo headT; rw [HS8.out.1]; simp)
  have HD : Hid ((dig 10 m).length ≤ 6) := Lib.hid (dig_length (by decide) 6 m (by decide) (by have := HS8.out; omega))
  have HP : Hid ((pad8 (dig 16 (sumW f n))).length = 8) := Lib.hid (pad8_length _ (dig_length (by decide) 8 _ (by decide) (by have := sumW_lt f n; omega)))
  generalize sumW f n = sm at *
  clear ha hcell hf hm hm8 he
  go_enter Tryd.func6, Tryd.ntmps6
  have d0 : ((m : Int) == 0) = false := by have := HS8.out; rw [beq_eq_false_iff_ne]; omega
  obtain ⟨t1, ht1⟩ : ∃ t1, t1 = [105, 109, 97, 103, 101, 32] ++ dig 10 m := ⟨_, rfl⟩
  obtain ⟨t2, ht2⟩ : ∃ t2, t2 = t1 ++ [32] := ⟨_, rfl⟩
  obtain ⟨t3, ht3⟩ : ∃ t3, t3 = t2 ++ pad8 (dig 16 sm) := ⟨_, rfl⟩
  rw [← ht1, ← ht2, ← ht3] at HT
  have l1 : t1.length ≤ 12 := by have := HD.out; rw [ht1]; simp; omega
  have l2 : t2.length ≤ 13 := by rw [ht2]; simp; omega
  have l3 : t3.length ≤ 21 := by have := HP.out; rw [ht3, List.length_append]; omega
  have q1 : (⟨#[105, 109, 97, 103, 101, 32]⟩ : ByteArray) ++ txt (dig 10 m) = txt t1 := by rw [ht1]; exact txt_append _ _
  have q2 : txt t1 ++ (⟨#[32]⟩ : ByteArray) = txt t2 := by rw [ht2]; exact txt_append _ _
  have q3 : txt t2 ++ txt (pad8 (dig 16 sm)) = txt t3 := by rw [ht3]; exact txt_append _ _
  have q4 : txt t3 ++ (⟨#[10]⟩ : ByteArray) = txt (t3 ++ [10]) := txt_append _ _
  have s1 : ¬ 9223372036854775807 < (ByteArray.mk #[105, 109, 97, 103, 101, 32]).size + (txt (dig 10 m)).size := by have := HD.out; rw [txt_size]; show ¬ _ < 6 + _; omega
  have s2 : ¬ 9223372036854775807 < (txt t1).size + (ByteArray.mk #[32]).size := by rw [txt_size]; show ¬ _ < _ + 1; omega
  have s3 : ¬ 9223372036854775807 < (txt t2).size + (txt (pad8 (dig 16 sm))).size := by have := HP.out; rw [txt_size, txt_size]; omega
  have s4 : ¬ 9223372036854775807 < (txt t3).size + (ByteArray.mk #[10]).size := by rw [txt_size]; show ¬ _ < _ + 1; omega
  rw [← HT.out] at q4
  have HTL : Hid ((textTo f m 0).length ≤ 40) := Lib.hid (by rw [HT.out]; simp; omega)
  obtain ⟨TT, hTT⟩ : ∃ TT : Nat → List UInt8, TT = textTo f m := ⟨_, rfl⟩
  rw [← hTT] at HT HTL q4
  have HTT := Lib.hid hTT
  clear hTT ht1 ht2 ht3 l1 l2 l3
  go_wp2_with (first
    | (go_at_call 16; (with_reducible refine HCUT.out.mono ?_); rintro e wa ⟨vl, rfl, hb1, ho1⟩; obtain ⟨la, lc, rfl, hla⟩ := lines_own ho1; have HB1 := Lib.hid hb1; have HLA := Lib.hid hla; have HBK : Hid ((wa.alloc (.cells #[.pointer none, .slice none 0 0] 46)).heap[wa.heap.size]? = some (.cells #[.pointer none, .slice none 0 0] 46 (0, 0))) := Lib.hid (heap_alloc_new wa _); clear hb1 ho1 hla)
    | (go_at_call 18; (with_reducible refine (dec18 m _ _ (HS8.out.2.1) rfl).mono ?_); rintro e w1 ⟨rfl, hb2⟩; have HB2 := Lib.hid hb2; clear hb2)
    | (go_at_call 20; (with_reducible refine (HSUM.out _ ?_).mono ?_); (exact (HB1.out.alloc HB1.out.size _).trans (HB2.out.mono (by have := HB1.out.size; simp; omega))); rintro e w2 ⟨rfl, hw⟩; cases hw)
    | (go_at_call 19; (with_reducible refine (sumText19 sm HSL.out _).mono ?_); rintro e w2 ⟨rfl, hb3⟩; have HB3 := Lib.hid hb3; clear hb3))
  obtain ⟨b, hb⟩ : ∃ b, b = wa.heap.size := ⟨_, rfl⟩
  have hb1 : b < w1.heap.size := by have := HB2.out.size; simp at this; omega
  have hb2 : b < w2.heap.size := Nat.lt_of_lt_of_le hb1 HB3.out.size
  have hk2 : w2.heap[b]? = some (.cells #[.pointer none, .slice none 0 0] 46 (0, 0)) := by
    rw [HB3.out.block b hb1, hb, HB2.out.block _ (by simp), HBK.out]
  have HBA : Hid (Below b wa w2) := Lib.hid (by
    rw [hb]
    exact ((Below.refl _ wa).alloc (Nat.le_refl _) _).trans ((HB2.out.mono (by simp)).trans (HB3.out.mono (by omega))))
  have HWS : Hid (Calls Tryd.prog 17 #[.pointer (some ⟨b, 0, none⟩), .string (txt (TT 0))] w2 fun e w' => e = .returned (.tuple #[.int .i64 (txt (TT 0)).size, .nilIface]) ∧ (Lib.BuilderAt 46 5 b b (.pointer (some ⟨b, 0, none⟩)) ([] ++ Lib.strCells (txt (TT 0))) w' ∧ Below b w2 w')) :=
    Lib.hid (Tryd.Builder_WriteString b b [] (txt (TT 0)) w2 (.inl ⟨Nat.le_refl _, .slice none 0 0, hk2, World.ownsRow_nil _ _ _ _, by simp [Value.ownBlock]⟩) (by rw [txt_size]; have := HTL.out; simp; omega) (by omega))
  rw [← hb] at HLA ⊢
  have HB0 : Hid (w.heap.size ≤ b) := Lib.hid (by rw [hb]; exact HB1.out.size)
  have HBB := Lib.hid hb
  clear hb1 hb2 hk2 hb HBK HB2 HB3 q1 q2 q3 q4 s1 s2 s3 s4 HT d0 HCUT HSUM
  refine HWS.out.mono ?_
  rintro e w3 ⟨rfl, hbd, hb3⟩
  rw [strCells_txt, List.nil_append] at hbd
  have HBD := Lib.hid hbd
  have HBA3 : Hid (Below b wa w3) := Lib.hid (HBA.out.trans hb3)
  have HLA3 : Hid (LinesAt w3.heap.size w3 la m f) := Lib.hid ((HLA.out.below HBA3.out (Nat.le_refl _)).mono (by have := hbd.lt; omega))
  clear hbd hb3 HWS HBA
  obtain ⟨PL, hPL⟩ : ∃ PL, PL = partsW f m := ⟨_, rfl⟩
  have HNX : Hid (∀ k, k < PL.length → TT (k + 1) = TT k ++ (rowT f (PL[k]?.getD 0) ++ [10]) ∧ PL[k]?.getD 0 < m) := Lib.hid fun k hk => by
    rw [hPL] at hk ⊢
    rw [HTT.out]
    exact ⟨textTo_next f m k hk, partsW_lt f m k hk⟩
  have HALL : Hid (TT PL.length = textT f m ∧ PL.length ≤ m ∧ ∀ k, k ≤ PL.length → (TT k).length ≤ (textT f m).length) := Lib.hid (by
    rw [hPL, HTT.out]
    exact ⟨textTo_all f m, partsW_length f m, fun k hk => textTo_le f m k hk⟩)
  have HFI : Hid (Calls Tryd.prog 21 #[.slice la m lc] w3 (NewInts PL w3)) := Lib.hid (by rw [hPL]; exact filled21 la m lc HS8.out.2.1 f w3 HLA3.out)
  clear hPL
  unfold NewInts at HFI
  go_wp2_with (go_at_call 21; (with_reducible refine HFI.out.mono ?_); rintro e w4 ⟨vf, rfl, hb4, ho4⟩; obtain ⟨fa, fc, g, rfl, hfa⟩ := own_ints ho4; have HB4 := Lib.hid hb4; have HFA := Lib.hid hfa; clear hb4 ho4 hfa)
  have HBD4 : Hid (Lib.BuilderAt 46 5 b b (.pointer (some ⟨b, 0, none⟩)) (Lib.byteCells (TT 0)) w4) := Lib.hid (bld_below HBD.out HB4.out)
  have HBA4 : Hid (Below b wa w4) := Lib.hid (HBA3.out.trans (HB4.out.mono (by have := HBD.out.lt; omega)))
  clear HBD HBA3 HFI HLA3 HB4
  go_loopw [36] (fun i wr => ∃ k : Nat, k ≤ PL.length ∧ i = .int .i64 k ∧ Hid (Lib.BuilderAt 46 5 b b (.pointer (some ⟨b, 0, none⟩)) (Lib.byteCells (TT k)) wr) ∧ Hid (Below b wa wr) ∧ Hid (Leaves b w4 wr) ∧ Hid ((TT k).length ≤ 4194304)) (fun i _ => PL.length - (intOf i).toNat)
  case atStart => exact ⟨0, by omega, rfl, HBD4, HBA4, Leaves.refl _ _, Lib.hid (by have := HTL.out; omega)⟩
  case round =>
    obtain ⟨k, hk, rfl, HBD, HBA, HLV, HLEN⟩ := hrel
    have hkb : k ≤ 262144 := by have := HALL.out.2.1; have := HS8.out; omega
    by_cases hlt : k < PL.length
    · have d1 : decide ((k : Int) < (PL.length : Int)) = true := bool_yes (by omega)
      obtain ⟨rfl, hgB, ⟨cs, hcs⟩, hgc⟩ := HFA.out (by omega)
      have hgl : g < w4.heap.size := (Array.getElem?_eq_some_iff.1 hcs).1
      have hgk : wr.heap[g]? = w4.heap[g]? := HLV.out.2 g hgl (by have := HBD4.out.lt; have := HBB.out; have := HBD.out.1; intro e; subst e; have hq := HBD4.out; obtain ⟨-, v, hbk, -⟩ := hq; rw [hcs] at hbk; cases hbk) (fun cs' f' e => by rw [hcs] at e; cases e)
      have c1 : wr.cell? ⟨g, k, none⟩ = some (.int .i64 (Int.ofNat (PL[k]?.getD 0))) := (cell_of_heap hgk k).trans (hgc k hlt)
      have hnx := HNX.out k hlt
      have HN := Lib.hid hnx
      have hqm := hnx.2
      obtain ⟨lb, hlb, hlc⟩ := HLA.out
      obtain ⟨rfl, hlbb⟩ := hlb (by omega)
      clear hnx hgc hcs
      generalize PL[k]?.getD 0 = q at *
      have h8 : Eight wr lb (q * 8) (fun r => (f (8 * q + r) : Nat)) := fun r hr' => by rw [HBA.out.cell (p := ⟨lb, q * 8 + r, none⟩) hlbb, hlc _ (by omega), Nat.mul_comm q 8]
      obtain ⟨e0, e1, e2, e3, e4, e5, e6, e7⟩ := h8.cells
      rw [Nat.add_zero] at e0
      have i0 : (0 : Int) ≤ Int.ofNat q := by simp
      have i1 : Int.ofNat q < (m : Int) := by simp; omega
      have HR : Hid (∀ (z : Int) W, z = (q : Int) → Calls Tryd.prog 22 #[.int .i64 z, .agg #[.int .u64 (f (8 * q + 0) : Nat), .int .u64 (f (8 * q + 1) : Nat), .int .u64 (f (8 * q + 2) : Nat), .int .u64 (f (8 * q + 3) : Nat), .int .u64 (f (8 * q + 4) : Nat), .int .u64 (f (8 * q + 5) : Nat), .int .u64 (f (8 * q + 6) : Nat), .int .u64 (f (8 * q + 7) : Nat)]] W (TextTo (rowT f q ++ [10]) W)) :=
        Lib.hid fun z W hz => by
          subst hz; exact row22 q (by have := HS8.out; omega) (fun j => f (8 * q + j)) (fun j => HF.out _) W
      have HRL : Hid ((rowT f q ++ [10]).length ≤ 144) := Lib.hid (by have := rowT_length f HF.out q (by have := HS8.out; omega); simp; omega)
      unfold TextTo at HR
      obtain ⟨R, hR⟩ : ∃ R, R = rowT f q ++ [10] := ⟨_, rfl⟩
      rw [← hR] at HR HRL HN
      clear hR h8 hlc hlb
      generalize f (8 * q + 0) = v0 at *
      generalize f (8 * q + 1) = v1 at *
      generalize f (8 * q + 2) = v2 at *
      generalize f (8 * q + 3) = v3 at *
      generalize f (8 * q + 4) = v4 at *
      generalize f (8 * q + 5) = v5 at *
      generalize f (8 * q + 6) = v6 at *
      generalize f (8 * q + 7) = v7 at *
      have ht1 := txt_size R
      have HWR : Hid (∀ W, Below wr.heap.size wr W → Calls Tryd.prog 17 #[.pointer (some ⟨b, 0, none⟩), .string (txt R)] W (Wrote b b (Lib.byteCells (TT k)) (txt R) W)) := Lib.hid fun W hb =>
        write17 b b (Lib.byteCells (TT k)) (txt R) W (bld_below HBD.out hb) (by rw [txt_size]; have := HLEN.out; have := HRL.out; simp [Lib.byteCells]; omega) (by have := HBD.out.lt; have := hb.size; omega)
      have HLN : Hid (∀ W, Lib.BuilderAt 46 5 b b (.pointer (some ⟨b, 0, none⟩)) (Lib.byteCells (TT (k + 1))) W → Calls Tryd.prog 23 #[.pointer (some ⟨b, 0, none⟩)] W (Says (.int .i64 ((TT (k + 1)).length : Nat)) W)) := Lib.hid fun W hb => by
        have h1 := Tryd.Builder_Len b b (Lib.byteCells (TT (k + 1))) W (.inr hb)
        rw [show (Lib.byteCells (TT (k + 1))).length = (TT (k + 1)).length by simp [Lib.byteCells]] at h1
        exact h1
      unfold Wrote at HWR
      unfold Says at HLN
      obtain ⟨tl, htl⟩ : ∃ tl, tl = (TT (k + 1)).length := ⟨_, rfl⟩
      rw [← htl] at HLN
      have HTLN := Lib.hid htl
      clear htl ht1
      by_cases hbig : 4194304 < tl
      · have d2 : decide ((4194304 : Int) < (tl : Int)) = true := bool_yes (by omega)
        go_wp2_with (first
          | (go_at_call 22; (with_reducible refine (HR.out _ _ rfl).mono ?_); rintro e w5 ⟨rfl, hb5⟩; have HB5 := Lib.hid hb5; clear hb5)
          | (go_at_call 17; (with_reducible refine (HWR.out _ HB5.out).mono ?_); rintro e w6 ⟨⟨v, rfl⟩, hbd6, hb6, hl6⟩; rw [strCells_txt, ← byteCells_append, ← HN.out.1] at hbd6; have HBD6 := Lib.hid hbd6; have HB6 := Lib.hid hb6; have HL6 := Lib.hid hl6; clear hbd6 hb6 hl6)
          | (go_at_call 23; (with_reducible refine (HLN.out _ HBD6.out).mono ?_); rintro e w7 ⟨rfl, hw⟩; cases hw))
        go_ret2
        refine ⟨?_, fun h => absurd h (by have := HALL.out.2.2 (k + 1) (by omega); rw [← HTLN.out] at this; omega), fun _ => rfl⟩
        exact (HB1.out.trans ((HBA.out.trans ((HB5.out.mono (by have := HBD.out.lt; omega)).trans HB6.out)).mono HB0.out))
      · have d2 : decide ((4194304 : Int) < (tl : Int)) = false := bool_no (by omega)
        go_wp2_with (first
          | (go_at_call 22; (with_reducible refine (HR.out _ _ rfl).mono ?_); rintro e w5 ⟨rfl, hb5⟩; have HB5 := Lib.hid hb5; clear hb5)
          | (go_at_call 17; (with_reducible refine (HWR.out _ HB5.out).mono ?_); rintro e w6 ⟨⟨v, rfl⟩, hbd6, hb6, hl6⟩; rw [strCells_txt, ← byteCells_append, ← HN.out.1] at hbd6; have HBD6 := Lib.hid hbd6; have HB6 := Lib.hid hb6; have HL6 := Lib.hid hl6; clear hbd6 hb6 hl6)
          | (go_at_call 23; (with_reducible refine (HLN.out _ HBD6.out).mono ?_); rintro e w7 ⟨rfl, hw⟩; cases hw))
        go_roundw
        case rel => exact ⟨k + 1, by omega, by go_num, HBD6, Lib.hid (HBA.out.trans ((HB5.out.mono (by have := HBD.out.lt; omega)).trans HB6.out)), Lib.hid ((HLV.out.trans (Leaves.of_below HB5.out)).trans HL6.out), Lib.hid (by rw [← HTLN.out]; omega)⟩
        case measure => simp [intOf]; omega
    · obtain rfl : k = PL.length := by omega
      have d1 : decide ((PL.length : Int) < (PL.length : Int)) = false := by simp
      have HST := Lib.hid (Tryd.Builder_String_any b b (TT PL.length) wr (.inr HBD.out) (by have := HBD.out.lt; omega))
      go_wp2_with (go_at_call 24; (with_reducible refine HST.out.mono ?_); rintro e w5 ⟨rfl, hb5⟩; have HB5 := Lib.hid hb5; clear hb5)
      go_ret2
      refine ⟨HB1.out.trans ((HBA.out.trans HB5.out).mono HB0.out), fun _ => by rw [← HALL.out.1]; rfl, fun h => absurd h (by have := HLEN.out; rw [HALL.out.1] at this; omega)⟩
end Go.Proofs.YtjbngddmmdcagaaDoor
