/- Layer 32: a number is read. -/
import Derived.Test.YtjbngddmmdcagaaDoorH1
import Derived.Test.YtjbngddmmdcagaaDoorShelf
import Derived.Laws.Closers25b
namespace Go.Proofs.YtjbngddmmdcagaaDoor
open Go.RowKit Go.BigFrame
set_option linter.unusedVariables false
set_option linter.unusedSimpArgs false

def hexB : ByteArray := ⟨#[48, 49, 50, 51, 52, 53, 54, 55, 56, 57, 97, 98, 99, 100, 101, 102]⟩
set_option maxRecDepth 100000 in
theorem idx_all : ∀ n : Fin 256, Lib.indexByte [48, 49, 50, 51, 52, 53, 54, 55, 56, 57, 97, 98, 99, 100, 101, 102] (UInt8.ofNat n.val) = if val (UInt8.ofNat n.val) < 16 then (val (UInt8.ofNat n.val) : Int) else -1 := by decide
theorem val_le (c : UInt8) : val c ≤ 16 := by
  unfold val; split
  · omega
  · split <;> omega
theorem index44 (c : UInt8) (z : Int) (hz : z = (c.toNat : Int)) (w : World) : Calls Tryd.prog 44 #[.string ⟨#[48, 49, 50, 51, 52, 53, 54, 55, 56, 57, 97, 98, 99, 100, 101, 102]⟩, .int .u8 z] w (Says (.int .i64 (if val c < 16 then (val c : Int) else -1)) w) := by
  subst hz
  have h := Tryd.strings_IndexByte ⟨#[48, 49, 50, 51, 52, 53, 54, 55, 56, 57, 97, 98, 99, 100, 101, 102]⟩ (c.toNat : Int) w
  refine h.mono ?_
  rintro e w' ⟨rfl, rfl⟩
  refine ⟨?_, rfl⟩
  have h1 := idx_all ⟨c.toNat, c.toNat_lt⟩
  have h2 : UInt8.ofNat c.toNat = c := by simp
  rw [h2] at h1
  have h3 : ((c.toNat : Int)).toNat.toUInt8 = c := by simp
  rw [h3]
  exact congrArg (fun x => Ending.returned (Value.int .i64 x)) h1
theorem txt_get (l : List UInt8) (k : Nat) (h2 : k < l.length) : ∀ h : k < (txt l).size, (txt l)[k]'h = l[k] := fun h => by
  show (txt l).data[k]'h = l[k]
  rfl
theorem txt_ne {l : List UInt8} (h : l ≠ []) : (txt l).toList.isEmpty = false := by
  have h1 : ¬ (txt l).toList = [] := fun e => h (txt_inj (m := []) ((toList_nil_iff_emptyBytes _).1 e))
  cases hh : (txt l).toList with
  | nil => exact absurd hh h1
  | cons a t => rfl
theorem txt_nil : (txt []).toList.isEmpty = true := by
  rw [(toList_nil_iff_emptyBytes (txt [])).2 rfl]; rfl
/-- A number was told, or none. -/
def numV : Option Nat → Value
  | some n => .tuple #[.int .u64 (n : Int), .bool true]
  | none => .tuple #[.int .u64 0, .bool false]
def NumTo (o : Option Nat) (w : World) (e : Ending) (w' : World) : Prop := w' = w ∧ e = .returned (numV o)
theorem reads_bound {b : Nat} (hb : 2 ≤ b) {l : List UInt8} {k most v : Nat} (hk : k ≤ l.length) (hl : l.length ≤ most) (h : reads b (l.take k) 0 = some v) : v < b ^ k := by
  have := reads_lt hb (l.take k) 0 0 v (by simp) h
  rw [List.length_take, Nat.min_eq_left hk, Nat.zero_add] at this
  exact this
theorem reads_take (b : Nat) (l : List UInt8) (k : Nat) (h : k < l.length) : reads b (l.take (k + 1)) 0 = (reads b (l.take k) 0).bind fun v => if val l[k] < b then some (v * b + val l[k]) else none := by
  rw [List.take_add_one, List.getElem?_eq_getElem h]
  simp only [Option.toList_some]
  rw [reads_append]
  rfl
theorem reads_none (b : Nat) (l : List UInt8) (k : Nat) (h : reads b (l.take k) 0 = none) : reads b l 0 = none := by
  rw [← List.take_append_drop k l, reads_append, h]; rfl
set_option maxRecDepth 100000 in
set_option maxHeartbeats 4000000 in
theorem digits27 (b most : Nat) (hb : 2 ≤ b) (h16 : b ≤ 16) (hp : b ^ most ≤ 18446744073709551616) (h1 : 1 ≤ b ^ most) (hm : most ≤ 16) (l : List UInt8) (hl : l.length ≤ 9223372036854775807) (w : World) :
    Calls Tryd.prog 27 #[.string (txt l), .int .u64 b, .int .i64 most] w (NumTo (digits b most l) w) := by
  unfold NumTo
  by_cases h0 : l = []
  · subst h0
    have hd : digits b most [] = none := by unfold digits; rw [if_pos (Or.inl rfl)]
    rw [hd]
    have e1 := txt_nil
    go_enter Tryd.func27, Tryd.ntmps27
    go_wp2_with fail
    go_ret2
    exact ⟨rfl, rfl⟩
  · have e1 := txt_ne h0
    have es : (txt l).size = l.length := txt_size l
    by_cases hlen : most < l.length
    · have hd : digits b most l = none := by unfold digits; rw [if_pos (Or.inr hlen)]
      rw [hd]
      have d1 : decide ((most : Int) < (l.length : Int)) = true := bool_yes (by omega)
      go_enter Tryd.func27, Tryd.ntmps27
      go_wp2_with fail
      go_ret2
      exact ⟨rfl, rfl⟩
    · have hd : digits b most l = reads b l 0 := by unfold digits; rw [if_neg (by rintro (h | h) <;> contradiction)]
      rw [hd]
      have HD := Lib.hid hd
      have d1 : decide ((most : Int) < (l.length : Int)) = false := bool_no (by omega)
      have hl16 : l.length ≤ 16 := by omega
      have HPB : Hid (∀ k, k ≤ l.length → b ^ k ≤ 18446744073709551616) := Lib.hid fun k hk => Nat.le_trans (Nat.pow_le_pow_right (by omega) (by omega)) hp
      clear hd hp h1
      go_enter Tryd.func27, Tryd.ntmps27
      go_wp2_with fail
      clear d1 e1
      go_loop [8, 21] (fun v i => ∃ k y : Nat, k ≤ l.length ∧ v = .int .u64 y ∧ i = .int .i64 k ∧ Hid (reads b (l.take k) 0 = some y)) (fun _ i => l.length - (intOf i).toNat)
      case atStart => exact ⟨0, 0, by omega, rfl, rfl, rfl⟩
      case round =>
        obtain ⟨k, y, hk, rfl, rfl, HE⟩ := hrel
        by_cases hlt : k < l.length
        · have d2 : decide ((k : Int) < (l.length : Int)) = true := bool_yes (by omega)
          have hg := txt_get l k hlt
          have HT := Lib.hid (reads_take b l k hlt)
          rw [HE.out] at HT
          have HNN := Lib.hid (reads_none b l (k + 1))
          have HBD : Hid (∀ z, reads b (l.take (k + 1)) 0 = some z → z < b ^ (k + 1)) := Lib.hid fun z hz => reads_bound (most := most) hb (by omega) (by omega) hz
          have HP1 := Lib.hid (HPB.out (k + 1) (by omega))
          have hv16 := val_le l[k]
          have HI : Hid (∀ z : Int, z = (l[k].toNat : Int) → Calls Tryd.prog 44 #[.string ⟨#[48, 49, 50, 51, 52, 53, 54, 55, 56, 57, 97, 98, 99, 100, 101, 102]⟩, .int .u8 z] w (Says (.int .i64 (if val l[k] < 16 then (val l[k] : Int) else -1)) w)) := Lib.hid fun z hz => index44 l[k] z hz w
          obtain ⟨x, hx⟩ : ∃ x, x = val l[k] := ⟨_, rfl⟩
          rw [← hx] at HT hv16 HI
          clear hx
          by_cases hx16 : x < 16
          · rw [if_pos hx16] at HI
            unfold Says at HI
            by_cases hxb : x < b
            · have d4 : decide ((b : Int) ≤ (x : Int)) = false := bool_no (by omega)
              have HR : Hid (reads b (l.take (k + 1)) 0 = some (y * b + x)) := Lib.hid (by rw [HT.out]; simp [hxb])
              have hlt2 := HBD.out _ HR.out
              have hfin : y * b + x < 18446744073709551616 := by have := HP1.out; omega
              have j0 : ((y : Int) * (b : Int) + (x : Int)) = ((y * b + x : Nat) : Int) := by simp
              have hyb : y * b < 18446744073709551616 := by omega
              have j1 : ((y : Int) * (b : Int)) = ((y * b : Nat) : Int) := by simp
              have HJ := Lib.hid j0
              clear hlt2 j0
              generalize y * b = yb at *
              have d5 : decide ((x : Int) < 0) = false := bool_no (by omega)
              go_wp2_with (go_at_call 44; (with_reducible refine (HI.out _ ?_).mono ?_); (exact rfl); rintro e w1 ⟨rfl, hw⟩; cases hw)
              go_round
              case rel => exact ⟨k + 1, yb + x, by omega, by go_num, by go_num, HR⟩
              case measure => simp [intOf]; omega
            · have d4 : decide ((b : Int) ≤ (x : Int)) = true := bool_yes (by omega)
              have HR : Hid (reads b l 0 = none) := Lib.hid (HNN.out (by rw [HT.out]; simp [hxb]))
              have d5 : decide ((x : Int) < 0) = false := bool_no (by omega)
              go_wp2_with (go_at_call 44; (with_reducible refine (HI.out _ ?_).mono ?_); (exact rfl); rintro e w1 ⟨rfl, hw⟩; cases hw)
              go_ret2
              exact ⟨rfl, by rw [HR.out]; rfl⟩
          · rw [if_neg hx16] at HI
            unfold Says at HI
            have HR : Hid (reads b l 0 = none) := Lib.hid (HNN.out (by rw [HT.out]; simp; omega))
            go_wp2_with (go_at_call 44; (with_reducible refine (HI.out _ ?_).mono ?_); (exact rfl); rintro e w1 ⟨rfl, hw⟩; cases hw)
            go_ret2
            exact ⟨rfl, by rw [HR.out]; rfl⟩
        · obtain rfl : k = l.length := by omega
          have d2 : decide ((l.length : Int) < (l.length : Int)) = false := by simp
          have HR : Hid (reads b l 0 = some y) := Lib.hid (by have := HE.out; rw [List.take_length] at this; exact this)
          go_wp2_with fail
          go_ret2
          exact ⟨rfl, by rw [HR.out]; rfl⟩
end Go.Proofs.YtjbngddmmdcagaaDoor
