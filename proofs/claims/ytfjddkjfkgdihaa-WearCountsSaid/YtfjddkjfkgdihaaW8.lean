/- The law WearCounts, walked. -/
import Derived.Test.YtfjddkjfkgdihaaW7
import Derived.Deep.RegionHeld3
import Derived.Deep.CutRange
namespace Go.Proofs.Ytfjddkjfkgdihaa
open Go.RowKit Go.BigFrame
set_option linter.unusedVariables false
set_option linter.unusedSimpArgs false

def cat (c1 : Nat → AccD) (la : Nat) (c2 : Nat → AccD) : Nat → AccD := fun i => if i < la then c1 i else c2 (i - la)
theorem cnt_cat1 (p : AccD → Bool) (c1 c2 : Nat → AccD) (la k : Nat) (h : k ≤ la) : cnt p (cat c1 la c2) k = cnt p c1 k := by
  induction k with
  | zero => rfl
  | succ k ih => unfold cnt; rw [ih (by omega)]; simp [cat, show k < la by omega]
theorem cat_at (c1 c2 : Nat → AccD) (la k : Nat) : cat c1 la c2 (la + k) = c2 k := by
  show (if la + k < la then _ else c2 (la + k - la)) = _
  rw [if_neg (by omega), Nat.add_sub_cancel_left]
theorem cnt_cat (p : AccD → Bool) (c1 c2 : Nat → AccD) (la k : Nat) : cnt p (cat c1 la c2) (la + k) = cnt p c1 la + cnt p c2 k := by
  induction k with
  | zero => rw [Nat.add_zero, cnt_cat1 p c1 c2 la la (Nat.le_refl _)]; rfl
  | succ k ih => show cnt p (cat c1 la c2) (la + k) + _ = _ + (cnt p c2 k + _); rw [ih, show cat c1 la c2 (la.add k) = c2 k from cat_at c1 c2 la k]; omega
def accCells (c : Nat → AccD) : Nat → List Value
  | 0 => []
  | n + 1 => accCells c n ++ (c n).cells.toList
theorem accCells_len (c : Nat → AccD) (n : Nat) : (accCells c n).length = n * 6 := by
  induction n with
  | zero => rfl
  | succ n ih => simp [accCells, ih, AccD.cells]; omega
theorem accCells_at (c : Nat → AccD) (n i r : Nat) (hi : i < n) (hr : r < 6) : (accCells c n)[i * 6 + r]? = (c i).cells.toList[r]? := by
  induction n with
  | zero => omega
  | succ n ih =>
    unfold accCells
    by_cases e : i = n
    · subst e
      rw [List.getElem?_append_right (by rw [accCells_len]; omega), accCells_len]
      congr 1; omega
    · rw [List.getElem?_append_left (by rw [accCells_len]; omega)]
      exact ih (by omega)
theorem accs_of_own {w : World} {base : Nat} {a : Option Addr} {n cc : Nat} {c : Nat → AccD} (h : w.ownsRow base 50 6 (.slice a n cc) n (accCells c n)) (hn : n ≤ 200) : AccsAt w a n cc c := by
  have h0 := h
  obtain ⟨a', c', e, h2⟩ := own_form3 h
  cases e
  refine ⟨?_, ?_, fun i hi => ?_⟩
  · rcases h0.2 with ⟨e, h0⟩ | ⟨g, cap, cur, e, hb, hg, hnc, hcm, hcs, htake⟩
    · cases e; omega
    · cases e; exact hnc
  · rcases h0.2 with ⟨e, h0⟩ | ⟨g, cap, cur, e, hb, hg, hnc, hcm, hcs, htake⟩
    · cases e; simp [maxLen]
    · cases e; exact hcm
  · obtain ⟨g, rfl, hb, hg, hc⟩ := h2 (by omega)
    refine ⟨g, 0, rfl, hg, ?_⟩
    rw [Nat.zero_add]
    refine ⟨?_, ?_, ?_, ?_, ?_, ?_⟩
    · rw [hc _ (by omega)]; exact accCells_at c n i 0 hi (by decide)
    · rw [hc _ (by omega)]; exact accCells_at c n i 1 hi (by decide)
    · rw [hc _ (by omega)]; exact accCells_at c n i 2 hi (by decide)
    · rw [hc _ (by omega)]; exact accCells_at c n i 3 hi (by decide)
    · rw [hc _ (by omega)]; exact accCells_at c n i 4 hi (by decide)
    · rw [hc _ (by omega)]; exact accCells_at c n i 5 hi (by decide)

theorem info50 : (Try.prog.info? 50).map (fun i => (i.zero, i.size, i.bytes)) = some (some (.agg #[.int .i64 0, .int .i64 0, .int .i64 0, .int .u64 0, .int .u64 0, .bool false]), 6, 48) := by kernel_rfl

set_option maxRecDepth 100000 in
set_option maxHeartbeats 4000000 in
theorem wear_long (a1 a2 : Option Addr) (l1 k1 l2 k2 : Nat) (t : Int) (w : World) (h : 100 < l1 ∨ 100 < l2) (m1 : l1 ≤ 9223372036854775807) (m2 : l2 ≤ 9223372036854775807) :
    Calls Try.prog 8 #[.slice a1 l1 k1, .slice a2 l2 k2, .int .i64 t] w (TrueOn w) := by
  by_cases h1 : 100 < l1
  · go_enter Try.func8, Try.ntmps8
    go_wp2_with (go_at_call 32; refine (awake33_any _).mono ?_; rintro e w' ⟨rfl, hb⟩)
    go_ret
    exact ⟨rfl, hb⟩
  · have h1' : l1 ≤ 100 := by omega
    have h2 : 100 < l2 := by omega
    clear h h1
    go_enter Try.func8, Try.ntmps8
    go_wp2_with (go_at_call 32; refine (awake33_any _).mono ?_; rintro e w' ⟨rfl, hb⟩)
    go_ret
    exact ⟨rfl, hb⟩

set_option maxRecDepth 100000 in
set_option maxHeartbeats 4000000 in
theorem wear_t (a1 a2 : Option Addr) (l1 k1 l2 k2 : Nat) (c1 c2 : Nat → AccD) (t : Int) (n : Nat) (hn : n = (min (max t 0) 64).toNat) (w : World) (h1 : AccsAt w a1 l1 k1 c1) (h2 : AccsAt w a2 l2 k2 c2) (hl1 : l1 ≤ 100) (hl2 : l2 ≤ 100) :
    Calls Try.prog 8 #[.slice a1 l1 k1, .slice a2 l2 k2, .int .i64 t] w (TrueOn w) := by
  obtain ⟨i50, hi, hz0, hz1, hz2⟩ := info_parts info50
  have HN := Lib.hid hn; clear hn
  have H1 := Lib.hid h1; have H2 := Lib.hid h2
  clear h1 h2
  obtain ⟨B, hB⟩ : ∃ B, B = w.heap.size := ⟨_, rfl⟩
  have HB := Lib.hid hB; clear hB
  obtain ⟨C, hC⟩ : ∃ C, C = cat c1 l1 c2 := ⟨_, rfl⟩
  have HCA : Hid (∀ i, i < l1 → C i = c1 i) := Lib.hid fun i hi => by rw [hC]; simp [cat, hi]
  have HCB : Hid (∀ i, C (l1 + i) = c2 i) := Lib.hid fun i => by rw [hC, cat_at]
  have HC := Lib.hid hC; clear hC
  go_enter Try.func8, Try.ntmps8
  go_wp2_with fail
  go_loopw [7, 8] (fun v i wr => ∃ (k : Nat) (aa : Option Addr) (cc : Nat), k ≤ l1 ∧ i = .int .i64 k ∧ v = .slice aa k cc ∧ Hid (wr.ownsRow B 50 6 (.slice aa k cc) k (accCells C k)) ∧ Hid (Below B w wr)) (fun _ i _ => l1 - (intOf i).toNat)
  case atStart => exact ⟨0, none, 0, Nat.zero_le _, rfl, rfl, Lib.hid (World.ownsRow_nil _ _ _ _), Lib.hid (Below.refl _ _)⟩
  case round =>
    obtain ⟨k, aa, cc, hk, rfl, rfl, HOW, HBE⟩ := hrel
    have hsz := HBE.out.size
    have hBw : B ≤ wr.heap.size := by rw [HB.out]; exact hsz
    by_cases hlt : k < l1
    · obtain ⟨b, off, rfl, hb, hc⟩ := H1.out.2.2 k hlt
      obtain ⟨d0, d1, d2, d3, d4, d5⟩ := hc.of (w' := wr) fun o => HBE.out.cell (p := ⟨b, o, none⟩) (by rw [HB.out]; exact hb)
      have hrs : Hid (accCells C (k + 1) = accCells C k ++ (c1 k).cells.toList) := Lib.hid (by rw [← HCA.out k hlt]; rfl)
      clear hc
      generalize c1 k = x at *
      go_wp2_with (at_builtin; refine wpList_push rfl _ _ 48 rfl B 50 i50 (.agg #[.int .i64 0, .int .i64 0, .int .i64 0, .int .u64 0, .int .u64 0, .bool false]) 6 48 Try.underlying48 hi hz0 hz1 hz2 rfl (by decide) wr hBw (.slice aa k cc) k (accCells C k) rfl HOW.out x.cells 1 1 rfl rfl (by simp [Value.oneCell', AccD.cells]) (by unfold maxLen; omega) (by omega) ?_; intro v' w' hown hgr hbel hne; obtain ⟨a', c', rfl, -⟩ := own_form3 hown; have HO' := Lib.hid hown; have HB' := Lib.hid (hbel B w HBE.out (Nat.le_refl _)); clear hown hgr hbel hne)
      go_roundw
      case rel => exact ⟨k + 1, a', c', by omega, by go_num, rfl, Lib.hid (by rw [hrs.out]; exact HO'.out), HB'⟩
      case measure => simp [intOf]; omega
    · obtain rfl : k = l1 := by omega
      go_wp2_with fail
      go_loopw [7, 9] (fun v i wr => ∃ (j : Nat) (aa : Option Addr) (cc : Nat), j ≤ l2 ∧ i = .int .i64 j ∧ v = .slice aa (k + j) cc ∧ Hid (wr.ownsRow B 50 6 (.slice aa (k + j) cc) (k + j) (accCells C (k + j))) ∧ Hid (Below B w wr)) (fun _ i _ => l2 - (intOf i).toNat)
      case atStart => exact ⟨0, aa, cc, Nat.zero_le _, rfl, rfl, HOW, HBE⟩
      case round =>
        clear HOW HBE hsz hBw
        obtain ⟨j, aa, cc, hj, rfl, rfl, HOW, HBE⟩ := hrel
        have hsz := HBE.out.size
        have hBw : B ≤ wr.heap.size := by rw [HB.out]; exact hsz
        by_cases hjl : j < l2
        · obtain ⟨b, off, rfl, hb, hc⟩ := H2.out.2.2 j hjl
          obtain ⟨d0, d1, d2, d3, d4, d5⟩ := hc.of (w' := wr) fun o => HBE.out.cell (p := ⟨b, o, none⟩) (by rw [HB.out]; exact hb)
          have hrs : Hid (accCells C (k + (j + 1)) = accCells C (k + j) ++ (c2 j).cells.toList) := Lib.hid (by rw [← HCB.out j]; rfl)
          clear hc
          generalize c2 j = x at *
          go_wp2_with (at_builtin; refine wpList_push rfl _ _ 48 rfl B 50 i50 (.agg #[.int .i64 0, .int .i64 0, .int .i64 0, .int .u64 0, .int .u64 0, .bool false]) 6 48 Try.underlying48 hi hz0 hz1 hz2 rfl (by decide) wr hBw (.slice aa (k + j) cc) (k + j) (accCells C (k + j)) rfl HOW.out x.cells 1 1 rfl rfl (by simp [Value.oneCell', AccD.cells]) (by unfold maxLen; omega) (by omega) ?_; intro v' w' hown hgr hbel hne; obtain ⟨a', c', rfl, -⟩ := own_form3 hown; have HO' := Lib.hid hown; have HB' := Lib.hid (hbel B w HBE.out (Nat.le_refl _)); clear hown hgr hbel hne)
          go_roundw
          case rel => exact ⟨j + 1, a', c', by omega, by go_num, rfl, Lib.hid (by rw [hrs.out]; exact HO'.out), HB'⟩
          case measure => simp [intOf]; omega
        · obtain rfl : j = l2 := by omega
          obtain ⟨S, hS⟩ : ∃ S, S = wr.heap.size := ⟨_, rfl⟩
          have HBS : Hid (B ≤ S) := Lib.hid (by rw [hS]; exact hBw)
          have hAA := accs_of_own HOW.out (by omega)
          have hbw : Below w.heap.size w wr := by rw [← HB.out]; exact HBE.out
          obtain ⟨Fa, hFa⟩ : ∃ F : Nat → Int, F = fun q => ((cnt (fun x => x.hit q) c1 k : Nat) : Int) := ⟨_, rfl⟩
          obtain ⟨Fb, hFb⟩ : ∃ F : Nat → Int, F = fun q => ((cnt (fun x => x.hit q) c2 j : Nat) : Int) := ⟨_, rfl⟩
          obtain ⟨Ta, hTa⟩ : ∃ F : Nat → Int, F = fun q => ((cnt (ofTh q) c1 k : Nat) : Int) := ⟨_, rfl⟩
          obtain ⟨Tb, hTb⟩ : ∃ F : Nat → Int, F = fun q => ((cnt (ofTh q) c2 j : Nat) : Int) := ⟨_, rfl⟩
          obtain ⟨Fz, hFz⟩ : ∃ F : Nat → Int, F = fun q => Fa q + Fb q := ⟨_, rfl⟩
          obtain ⟨Tz, hTz⟩ : ∃ F : Nat → Int, F = fun q => Ta q + Tb q := ⟨_, rfl⟩
          have eF : (fun q => ((cnt (fun x => x.hit q) C (k + j) : Nat) : Int)) = Fz := by
            rw [hFz, hFa, hFb]; funext q; rw [HC.out, cnt_cat]; simp
          have eT : (fun q => ((cnt (ofTh q) C (k + j) : Nat) : Int)) = Tz := by
            rw [hTz, hTa, hTb]; funext q; rw [HC.out, cnt_cat]; simp
          have bF : ∀ q, 0 ≤ Fa q ∧ Fa q ≤ 1000 ∧ 0 ≤ Fb q ∧ Fb q ≤ 1000 := fun q => by
            have := cnt_le (fun x => x.hit q) c1 k; have := cnt_le (fun x => x.hit q) c2 j; rw [hFa, hFb]; simp only []; omega
          have bT : ∀ q, 0 ≤ Ta q ∧ Ta q ≤ 1000 ∧ 0 ≤ Tb q ∧ Tb q ≤ 1000 := fun q => by
            have := cnt_le (ofTh q) c1 k; have := cnt_le (ofTh q) c2 j; rw [hTa, hTb]; simp only []; omega
          have hn64 : n ≤ 64 := by have := HN.out; omega
          have KA : Hid (∀ w', Below S wr w' → Calls Try.prog 33 #[.slice a1 k k1, .int .i64 t] w' (TallyTo Fa n Ta w')) := Lib.hid fun w' hb => by
            rw [hFa, hTa]; exact (count_any a1 k k1 c1 t n HN.out w' ((H1.out.below hbw).below (by rw [← hS]; exact hb)) (by omega)).mono fun _ _ h => h.tally
          have KB : Hid (∀ w', Below S wr w' → Calls Try.prog 33 #[.slice a2 j k2, .int .i64 t] w' (TallyTo Fb n Tb w')) := Lib.hid fun w' hb => by
            rw [hFb, hTb]; exact (count_any a2 j k2 c2 t n HN.out w' ((H2.out.below hbw).below (by rw [← hS]; exact hb)) (by omega)).mono fun _ _ h => h.tally
          have KZ : Hid (∀ w', Below S wr w' → Calls Try.prog 33 #[.slice aa (k + j) cc, .int .i64 t] w' (TallyTo Fz n Tz w')) := Lib.hid fun w' hb => by
            rw [← eF, ← eT]; exact (count_any aa (k + j) cc C t n HN.out w' (hAA.below (by rw [← hS]; exact hb)) (by omega)).mono fun _ _ h => h.tally
          have KRA : Hid (∀ w', Below S wr w' → Calls Try.prog 36 #[.slice a1 k k1, .int .i64 t] w' (TallyTo Fa n Ta w')) := Lib.hid fun w' hb => by
            rw [hFa, hTa]; exact refCount_any a1 k k1 c1 t n HN.out w' ((H1.out.below hbw).below (by rw [← hS]; exact hb)) (by omega)
          have KRZ : Hid (∀ w', Below S wr w' → Calls Try.prog 36 #[.slice aa (k + j) cc, .int .i64 t] w' (TallyTo Fz n Tz w')) := Lib.hid fun w' hb => by
            rw [← eF, ← eT]; exact refCount_any aa (k + j) cc C t n HN.out w' (hAA.below (by rw [← hS]; exact hb)) (by omega)
          have KADD : Hid (∀ x cx y cy w', ListAt w' x n Ta → ListAt w' y n Tb → Calls Try.prog 34 #[tallyV Fa x n cx, tallyV Fb y n cy] w' (TallyTo Fz n Tz w')) := Lib.hid fun x cx y cy w' g1 g2 => by
            rw [hFz, hTz]; exact add_any Fa Fb x y n cx cy Ta Tb w' hn64 g1 g2 (fun q _ => ⟨(bT q).1, (bT q).2.1⟩) (fun q _ => (bT q).2.2) (fun q _ => ⟨(bF q).1, (bF q).2.1⟩) (fun q _ => (bF q).2.2)
          have KSA : Hid (∀ x cx y cy w', ListAt w' x n Ta → ListAt w' y n Ta → Calls Try.prog 35 #[tallyV Fa x n cx, tallyV Fa y n cy] w' (TrueOn w')) := Lib.hid fun x cx y cy w' g1 g2 => same_any Fa x y n cx cy Ta w' hn64 g1 g2
          have KSZ : Hid (∀ x cx y cy w', ListAt w' x n Tz → ListAt w' y n Tz → Calls Try.prog 35 #[tallyV Fz x n cx, tallyV Fz y n cy] w' (TrueOn w')) := Lib.hid fun x cx y cy w' g1 g2 => same_any Fz x y n cx cy Tz w' hn64 g1 g2
          simp only [tallyV] at KADD KSA KSZ
          have HFIN : Hid (∀ w', Below S wr w' → Below w.heap.size w w') := Lib.hid fun w' hb => hbw.trans (hb.mono (by rw [hS]; exact hbw.size))
          have HS := Lib.hid hS
          clear hFa hFb hTa hTb hFz hTz eF eT bF bT hAA hbw hS HOW HC HCA HCB H1 H2 hi hz0 hz1 hz2 HN
          go_wp2_with fail
          refine (KA.out _ (Below.refl _ _)).mono ?_
          rintro e w1 ⟨aX, cX, rfl, hb1, hlX⟩
          have HW1 : Hid (Below S wr w1) := Lib.hid (by rw [HS.out]; exact hb1)
          have HLX := Lib.hid hlX
          clear hb1 hlX
          simp only [tallyV]
          go_wp2_with fail
          refine (KB.out _ HW1.out).mono ?_
          rintro e w2 ⟨aY, cY, rfl, hb2, hlY⟩
          have HLX := Lib.hid (HLX.out.below hb2)
          have HW2 : Hid (Below S wr w2) := Lib.hid (HW1.out.trans (hb2.mono (by rw [HS.out]; exact HW1.out.size)))
          have HLY := Lib.hid hlY
          clear hb2 hlY
          simp only [tallyV]
          go_wp2_with fail
          obtain ⟨p, hp⟩ : ∃ p, p = w2.heap.size := ⟨_, rfl⟩
          obtain ⟨V2, hV2⟩ : ∃ V2, V2 = (w2.alloc (.cells (tallyC Fa (.slice aX n cX)) 53)).alloc (.cells (tallyC Fb (.slice aY n cY)) 53) := ⟨_, rfl⟩
          have HPA : Hid (V2.heap[p]? = some (.cells (tallyC Fa (.slice aX n cX)) 53 (0, 0))) := Lib.hid (by rw [hV2, hp, Below.heap_alloc _ _ _ (by simp), heap_alloc_new])
          have hbv : Below w2.heap.size w2 V2 := by rw [hV2]; exact ((Below.refl _ _).alloc (Nat.le_refl _) _).alloc (by simp) _
          have HV2 : Hid (Below S wr V2) := Lib.hid (HW2.out.trans (hbv.mono (by rw [HS.out]; exact HW2.out.size)))
          have HLX := Lib.hid (HLX.out.below hbv)
          have HLY := Lib.hid (HLY.out.below hbv)
          simp only [tallyC] at hV2
          rw [← hV2, ← hp]
          clear hV2 hp hbv
          refine (KADD.out _ _ _ _ _ HLX.out HLY.out).mono ?_
          rintro e w3 ⟨aZ, cZ, rfl, hb3, hlZ⟩
          have HW3 : Hid (Below S wr w3) := Lib.hid (HV2.out.trans (hb3.mono (by rw [HS.out]; exact HV2.out.size)))
          have HPA3 : Hid (w3.heap[p]? = some (.cells (tallyC Fa (.slice aX n cX)) 53 (0, 0))) := Lib.hid ((hb3.block p (Array.getElem?_eq_some_iff.1 HPA.out).1).trans HPA.out)
          have HLX := Lib.hid (HLX.out.below hb3)
          have HLZ := Lib.hid hlZ
          clear hb3 hlZ HLY
          simp only [tallyV]
          go_upto_region 14 with fail
          obtain ⟨r, hr⟩ : ∃ r, r = w3.heap.size := ⟨_, rfl⟩
          obtain ⟨W, hW⟩ : ∃ W, W = w3.alloc (.cells (tallyC Fz (.slice aZ n cZ)) 53) := ⟨_, rfl⟩
          have hbv : Below w3.heap.size w3 W := by rw [hW]; exact (Below.refl _ _).alloc (Nat.le_refl _) _
          have HRA : Hid (W.heap[r]? = some (.cells (tallyC Fz (.slice aZ n cZ)) 53 (0, 0))) := Lib.hid (by rw [hW, hr, heap_alloc_new])
          have HPA : Hid (W.heap[p]? = some (.cells (tallyC Fa (.slice aX n cX)) 53 (0, 0))) := Lib.hid ((hbv.block p (Array.getElem?_eq_some_iff.1 HPA3.out).1).trans HPA3.out)
          have HWW : Hid (Below S wr W) := Lib.hid (HW3.out.trans (hbv.mono (by rw [HS.out]; exact HW3.out.size)))
          have HLX := Lib.hid (HLX.out.below hbv)
          have HLZ := Lib.hid (HLZ.out.below hbv)
          simp only [tallyC] at hW
          rw [← hW, ← hr]
          clear hW hr hbv
          obtain ⟨V, hV⟩ : ∃ V, V = W.heap.size := ⟨_, rfl⟩
          have HRV : Hid (r < V) := Lib.hid (by rw [hV]; exact (Array.getElem?_eq_some_iff.1 HRA.out).1)
          have HPV : Hid (p < V) := Lib.hid (by rw [hV]; exact (Array.getElem?_eq_some_iff.1 HPA.out).1)
          have hSV : S ≤ V := by rw [HS.out, hV]; exact HWW.out.size
          have HL : Hid (∀ w', Below V W w' → Below S wr w') := Lib.hid fun w' hb => HWW.out.trans (hb.mono hSV)
          have HT : Hid (∀ w' w'', Below V W w' → Below w'.heap.size w' w'' → Below V W w'') := Lib.hid fun w' w'' h1 h2 => h1.trans (h2.mono (by rw [hV]; exact h1.size))
          have M32 : Hid (∀ w', Below V W w' → Calls Try.prog 32 #[] w' (fun e w'' => e = .returned (.bool true) ∧ Below V W w'')) := Lib.hid fun w' hb => (awake33_any w').mono fun e w'' ⟨h1, h2⟩ => ⟨h1, HT.out _ _ hb h2⟩
          have M36a : Hid (∀ w', Below V W w' → Calls Try.prog 36 #[.slice a1 k k1, .int .i64 t] w' (fun e w'' => ∃ a cap, e = .returned (tallyV Fa a n cap) ∧ Below V W w'' ∧ Below w'.heap.size w' w'' ∧ ListAt w'' a n Ta)) := Lib.hid fun w' hb => (KRA.out w' (HL.out w' hb)).mono fun e w'' ⟨a, cap, h1, h2, h3⟩ => ⟨a, cap, h1, HT.out _ _ hb h2, h2, h3⟩
          have M36z : Hid (∀ w', Below V W w' → Calls Try.prog 36 #[.slice aa (k + j) cc, .int .i64 t] w' (fun e w'' => ∃ a cap, e = .returned (tallyV Fz a n cap) ∧ Below V W w'' ∧ Below w'.heap.size w' w'' ∧ ListAt w'' a n Tz)) := Lib.hid fun w' hb => (KRZ.out w' (HL.out w' hb)).mono fun e w'' ⟨a, cap, h1, h2, h3⟩ => ⟨a, cap, h1, HT.out _ _ hb h2, h2, h3⟩
          have M33z : Hid (∀ w', Below V W w' → Calls Try.prog 33 #[.slice aa (k + j) cc, .int .i64 t] w' (fun e w'' => ∃ a cap, e = .returned (tallyV Fz a n cap) ∧ Below V W w'' ∧ Below w'.heap.size w' w'' ∧ ListAt w'' a n Tz)) := Lib.hid fun w' hb => (KZ.out w' (HL.out w' hb)).mono fun e w'' ⟨a, cap, h1, h2, h3⟩ => ⟨a, cap, h1, HT.out _ _ hb h2, h2, h3⟩
          have M35a : Hid (∀ y cy w', Below V W w' → ListAt w' y n Ta → Calls Try.prog 35 #[.agg #[.int .i64 (Fa 0), .int .i64 (Fa 1), .int .i64 (Fa 2), .int .i64 (Fa 3), .int .i64 (Fa 4), .int .i64 (Fa 5), .int .i64 (Fa 6), .int .i64 (Fa 7), .int .i64 (Fa 8), .slice aX n cX], .agg #[.int .i64 (Fa 0), .int .i64 (Fa 1), .int .i64 (Fa 2), .int .i64 (Fa 3), .int .i64 (Fa 4), .int .i64 (Fa 5), .int .i64 (Fa 6), .int .i64 (Fa 7), .int .i64 (Fa 8), .slice y n cy]] w' (fun e w'' => e = .returned (.bool true) ∧ Below V W w'')) := Lib.hid fun y cy w' hb hl => (KSA.out aX cX y cy w' (HLX.out.below (by rw [← hV]; exact hb)) hl).mono fun e w'' ⟨h1, h2⟩ => ⟨h1, HT.out _ _ hb h2⟩
          have M35z : Hid (∀ y cy w', Below V W w' → ListAt w' y n Tz → Calls Try.prog 35 #[.agg #[.int .i64 (Fz 0), .int .i64 (Fz 1), .int .i64 (Fz 2), .int .i64 (Fz 3), .int .i64 (Fz 4), .int .i64 (Fz 5), .int .i64 (Fz 6), .int .i64 (Fz 7), .int .i64 (Fz 8), .slice aZ n cZ], .agg #[.int .i64 (Fz 0), .int .i64 (Fz 1), .int .i64 (Fz 2), .int .i64 (Fz 3), .int .i64 (Fz 4), .int .i64 (Fz 5), .int .i64 (Fz 6), .int .i64 (Fz 7), .int .i64 (Fz 8), .slice y n cy]] w' (fun e w'' => e = .returned (.bool true) ∧ Below V W w'')) := Lib.hid fun y cy w' hb hl => (KSZ.out aZ cZ y cy w' (HLZ.out.below (by rw [← hV]; exact hb)) hl).mono fun e w'' ⟨h1, h2⟩ => ⟨h1, HT.out _ _ hb h2⟩
          have M35y : Hid (∀ x cx y cy w', Below V W w' → ListAt w' x n Tz → ListAt w' y n Tz → Calls Try.prog 35 #[.agg #[.int .i64 (Fz 0), .int .i64 (Fz 1), .int .i64 (Fz 2), .int .i64 (Fz 3), .int .i64 (Fz 4), .int .i64 (Fz 5), .int .i64 (Fz 6), .int .i64 (Fz 7), .int .i64 (Fz 8), .slice x n cx], .agg #[.int .i64 (Fz 0), .int .i64 (Fz 1), .int .i64 (Fz 2), .int .i64 (Fz 3), .int .i64 (Fz 4), .int .i64 (Fz 5), .int .i64 (Fz 6), .int .i64 (Fz 7), .int .i64 (Fz 8), .slice y n cy]] w' (fun e w'' => e = .returned (.bool true) ∧ Below V W w'')) := Lib.hid fun x cx y cy w' hb hl hm => (KSZ.out x cx y cy w' hl hm).mono fun e w'' ⟨h1, h2⟩ => ⟨h1, HT.out _ _ hb h2⟩
          simp only [tallyV] at M36a M36z M33z
          obtain ⟨x0, x1, x2, x3, x4, x5, x6, x7, x8, x9, -⟩ := tally_cells HPA.out
          obtain ⟨y0, y1, y2, y3, y4, y5, y6, y7, y8, y9, -⟩ := tally_cells HRA.out
          have HV := Lib.hid hV
          clear hV hSV KA KB KZ KRA KRZ KADD KSA KSZ HL HT
          go_region_held3 (fun w' => w'.cell? ⟨p, 0, none⟩ = some (.int .i64 (Fa 0)) ∧ w'.cell? ⟨p, 1, none⟩ = some (.int .i64 (Fa 1)) ∧ w'.cell? ⟨p, 2, none⟩ = some (.int .i64 (Fa 2)) ∧ w'.cell? ⟨p, 3, none⟩ = some (.int .i64 (Fa 3)) ∧ w'.cell? ⟨p, 4, none⟩ = some (.int .i64 (Fa 4)) ∧ w'.cell? ⟨p, 5, none⟩ = some (.int .i64 (Fa 5)) ∧ w'.cell? ⟨p, 6, none⟩ = some (.int .i64 (Fa 6)) ∧ w'.cell? ⟨p, 7, none⟩ = some (.int .i64 (Fa 7)) ∧ w'.cell? ⟨p, 8, none⟩ = some (.int .i64 (Fa 8)) ∧ w'.cell? ⟨p, 9, none⟩ = some (.slice aX n cX) ∧ w'.cell? ⟨r, 0, none⟩ = some (.int .i64 (Fz 0)) ∧ w'.cell? ⟨r, 1, none⟩ = some (.int .i64 (Fz 1)) ∧ w'.cell? ⟨r, 2, none⟩ = some (.int .i64 (Fz 2)) ∧ w'.cell? ⟨r, 3, none⟩ = some (.int .i64 (Fz 3)) ∧ w'.cell? ⟨r, 4, none⟩ = some (.int .i64 (Fz 4)) ∧ w'.cell? ⟨r, 5, none⟩ = some (.int .i64 (Fz 5)) ∧ w'.cell? ⟨r, 6, none⟩ = some (.int .i64 (Fz 6)) ∧ w'.cell? ⟨r, 7, none⟩ = some (.int .i64 (Fz 7)) ∧ w'.cell? ⟨r, 8, none⟩ = some (.int .i64 (Fz 8)) ∧ w'.cell? ⟨r, 9, none⟩ = some (.slice aZ n cZ)) (go_keep) (first | (go_at_call 32; refine (M32.out _ (Below.refl _ _).drew).mono ?_; rintro e w4 ⟨rfl, hb⟩; have q1 : ∀ o, w4.cell? ⟨p, o, none⟩ = W.cell? ⟨p, o, none⟩ := fun o => hb.cell (p := ⟨p, o, none⟩) HPV.out; have q2 : ∀ o, w4.cell? ⟨r, o, none⟩ = W.cell? ⟨r, o, none⟩ := fun o => hb.cell (p := ⟨r, o, none⟩) HRV.out; have HNOW := Lib.hid hb; clear hb) | (go_at_call 33; refine (M33z.out _ HNOW.out).mono ?_; rintro e w5 ⟨ax, cx, rfl, hb, hb', hl⟩; have HLC := Lib.hid hl; clear hl hb'; have q1 : ∀ o, w5.cell? ⟨p, o, none⟩ = W.cell? ⟨p, o, none⟩ := fun o => hb.cell (p := ⟨p, o, none⟩) HPV.out; have q2 : ∀ o, w5.cell? ⟨r, o, none⟩ = W.cell? ⟨r, o, none⟩ := fun o => hb.cell (p := ⟨r, o, none⟩) HRV.out; have HNOW := Lib.hid hb; clear hb) | (go_at_call 36; (first | (with_reducible refine (M36a.out _ HNOW.out).mono ?_) | (with_reducible refine (M36z.out _ HNOW.out).mono ?_)); rintro e w6 ⟨ar, cr, rfl, hb, hb', hl⟩; have HLR := Lib.hid hl; (try have HLC := Lib.hid (HLC.out.below hb')); clear hl hb'; have q1 : ∀ o, w6.cell? ⟨p, o, none⟩ = W.cell? ⟨p, o, none⟩ := fun o => hb.cell (p := ⟨p, o, none⟩) HPV.out; have q2 : ∀ o, w6.cell? ⟨r, o, none⟩ = W.cell? ⟨r, o, none⟩ := fun o => hb.cell (p := ⟨r, o, none⟩) HRV.out; have HNOW := Lib.hid hb; clear hb) | (go_at_call 35; (first | (with_reducible refine (M35a.out _ _ _ HNOW.out HLR.out).mono ?_) | (with_reducible refine (M35z.out _ _ _ HNOW.out HLR.out).mono ?_) | (with_reducible refine (M35y.out _ _ _ _ _ HNOW.out HLC.out HLR.out).mono ?_)); rintro e w7 ⟨rfl, hb⟩; have q1 : ∀ o, w7.cell? ⟨p, o, none⟩ = W.cell? ⟨p, o, none⟩ := fun o => hb.cell (p := ⟨p, o, none⟩) HPV.out; have q2 : ∀ o, w7.cell? ⟨r, o, none⟩ = W.cell? ⟨r, o, none⟩ := fun o => hb.cell (p := ⟨r, o, none⟩) HRV.out; have HNOW := Lib.hid hb; clear hb))
          all_goals
            go_wp2
            go_ret
            exact ⟨rfl, HFIN.out _ (HWW.out.trans (HNOW.out.mono (by rw [HS.out, HV.out]; exact HWW.out.size)))⟩
end Go.Proofs.Ytfjddkjfkgdihaa
