/- Layer 32's reader of the document: a number. -/
import Derived.Test.YtjbngddmmdcagaaDoorH1
import Derived.Test.YtjbngddmmdcagaaDoorPl
import Derived.Lib.EndianBits
namespace Go.Proofs.YtjbngddmmdcagaaDoor
open Go.RowKit Go.BigFrame
set_option linter.unusedVariables false
set_option linter.unusedSimpArgs false

theorem numR_lt (b : Nat) : ∀ (s : List UInt8) (n : Nat), n < 18446744073709551616 → numR b s n < 18446744073709551616
  | [], n, h => h
  | c :: t, n, h => by rw [numR]; exact numR_lt b t _ (Nat.mod_lt _ (by decide))
theorem numR_take (b : Nat) (l : List UInt8) (k : Nat) (h : k < l.length) : numR b (l.take (k + 1)) 0 = (numR b (l.take k) 0 * b + valR l[k]) % 18446744073709551616 := by
  rw [List.take_add_one, List.getElem?_eq_getElem h, numR_append]
  rfl
theorem txt_at (l : List UInt8) (k : Nat) (h2 : k < l.length) : ∀ h : k < (txt l).size, (txt l)[k]'h = l[k] := fun h => by
  show (txt l).data[k]'h = l[k]
  rfl
theorem mod_step (y b v : Nat) : (y * b % 18446744073709551616 + v) % 18446744073709551616 = (y * b + v) % 18446744073709551616 := by omega
set_option maxRecDepth 100000 in
set_option maxHeartbeats 4000000 in
theorem number34 (b : Nat) (hb : b = 10 ∨ b = 16) (l : List UInt8) (hl : l.length ≤ 9223372036854775806) (w : World) :
    Calls Tryd.prog 34 #[.string (txt l), .int .i64 b] w (Says (.int .u64 (numberR b l)) w) := by
  unfold Says
  have es : (txt l).size = l.length := txt_size l
  by_cases hlen : 16 < l.length
  · have hd : numberR b l = 0 := by unfold numberR; rw [if_pos hlen]
    rw [hd]
    have d1 : decide ((l.length : Int) ≤ 16) = false := bool_no (by omega)
    have d2 : decide ((0 : Int) < (l.length : Int)) = true := bool_yes (by omega)
    have d3 : decide (0 < l.length) = true := bool_yes (by omega)
    go_enter Tryd.func34, Tryd.ntmps34
    go_wp2_with fail
    go_loop [5, 6] (fun v i => v = .int .u64 0 ∧ i = .int .i64 0) (fun _ _ => 0)
    case atStart => exact ⟨rfl, rfl⟩
    case round =>
      obtain ⟨rfl, rfl⟩ := hrel
      go_wp2_with fail
      go_ret
      exact ⟨rfl, rfl⟩
  · have hd : numberR b l = numR b l 0 := by unfold numberR; rw [if_neg hlen]
    rw [hd]
    have HD := Lib.hid hd
    clear hd
    have d1 : decide ((l.length : Int) ≤ 16) = true := bool_yes (by omega)
    have hb16 : b ≤ 16 := by omega
    have HBB := Lib.hid hb
    clear hb
    go_enter Tryd.func34, Tryd.ntmps34
    go_wp2_with fail
    go_loop [5, 6] (fun v i => ∃ k y : Nat, k ≤ l.length ∧ y < 18446744073709551616 ∧ v = .int .u64 y ∧ i = .int .i64 k ∧ Hid (numR b (l.take k) 0 = y)) (fun _ i => l.length - (intOf i).toNat)
    case atStart => exact ⟨0, 0, by omega, by omega, rfl, rfl, rfl⟩
    case round =>
      obtain ⟨k, y, hk, hy, rfl, rfl, HE⟩ := hrel
      by_cases hlt : k < l.length
      · have d2 : decide ((k : Int) < (l.length : Int)) = true := bool_yes (by omega)
        have hg := txt_at l k hlt
        have HT := Lib.hid (numR_take b l k hlt)
        rw [HE.out] at HT
        have HX : valR l[k] = if 97 ≤ l[k].toNat ∧ l[k].toNat ≤ 102 then l[k].toNat - 87 else if 48 ≤ l[k].toNat ∧ l[k].toNat ≤ 57 then l[k].toNat - 48 else 0 := rfl
        have hx256 : l[k].toNat < 256 := l[k].toNat_lt
        obtain ⟨v, hv⟩ : ∃ v, v = valR l[k] := ⟨_, rfl⟩
        rw [← hv] at HT HX
        obtain ⟨x, hx⟩ : ∃ x, x = l[k].toNat := ⟨_, rfl⟩
        have HXX := Lib.hid hx
        have hgx : ∀ h : k < (txt l).size, ((txt l)[k]'h).toNat = x := fun h => by rw [hx]; exact congrArg UInt8.toNat (hg h)
        rw [← hx] at HX hx256
        clear hg hv hx
        have HXV := Lib.hid HX
        clear HX
        have HV : Hid (v < 16) := Lib.hid (by have := HXV.out; split at this; omega; split at this; omega; omega)
        have hfin0 : Value.int .u64 (IntKind.u64.wrap (IntKind.u64.wrap ((y : Int) * (b : Int)) + (v : Int))) = Value.int .u64 (((y * b + v) % 18446744073709551616 : Nat) : Int) := by
          have e1 : ((y : Int) * (b : Int)) = ((y * b : Nat) : Int) := by simp
          rw [e1]
          generalize y * b = yb
          congr 1
          rw [IntKind.wrap_u64, IntKind.wrap_u64]
          omega
        have HF := Lib.hid hfin0
        clear hfin0
        by_cases c1 : 48 ≤ x ∧ x ≤ 57
        · have hvx : (x : Int) - 48 = (v : Int) := by have := HXV.out; rw [if_neg (by omega), if_pos c1] at this; omega
          have t1 : decide ((48 : Int) ≤ (x : Int)) = true := bool_yes (by omega)
          have t2 : decide ((x : Int) ≤ 57) = true := bool_yes (by omega)
          have t3 : decide ((97 : Int) ≤ (x : Int)) = false := bool_no (by omega)
          go_wp2_with fail
          go_round
          case rel => exact ⟨k + 1, (y * b + v) % 18446744073709551616, by omega, by omega, HF.out, by go_num, HT⟩
          case measure => simp [intOf]; omega
        · by_cases c2 : 97 ≤ x ∧ x ≤ 102
          · have hvx : (x : Int) - 87 = (v : Int) := by have := HXV.out; rw [if_pos c2] at this; omega
            have t1 : decide ((48 : Int) ≤ (x : Int)) = true := bool_yes (by omega)
            have t2 : decide ((x : Int) ≤ 57) = false := bool_no (by omega)
            have t3 : decide ((97 : Int) ≤ (x : Int)) = true := bool_yes (by omega)
            have t4 : decide ((x : Int) ≤ 102) = true := bool_yes (by omega)
            go_wp2_with fail
            go_round
            case rel => exact ⟨k + 1, (y * b + v) % 18446744073709551616, by omega, by omega, HF.out, by go_num, HT⟩
            case measure => simp [intOf]; omega
          · have hvx : v = 0 := by have := HXV.out; rw [if_neg c2, if_neg c1] at this; exact this
            subst hvx
            by_cases c3 : 48 ≤ x
            · have t1 : decide ((48 : Int) ≤ (x : Int)) = true := bool_yes (by omega)
              have t2 : decide ((x : Int) ≤ 57) = false := bool_no (by omega)
              by_cases c4 : 97 ≤ x
              · have t3 : decide ((97 : Int) ≤ (x : Int)) = true := bool_yes (by omega)
                have t4 : decide ((x : Int) ≤ 102) = false := bool_no (by omega)
                go_wp2_with fail
                go_round
                case rel => exact ⟨k + 1, (y * b + 0) % 18446744073709551616, by omega, by omega, HF.out, by go_num, HT⟩
                case measure => simp [intOf]; omega
              · have t3 : decide ((97 : Int) ≤ (x : Int)) = false := bool_no (by omega)
                go_wp2_with fail
                go_round
                case rel => exact ⟨k + 1, (y * b + 0) % 18446744073709551616, by omega, by omega, HF.out, by go_num, HT⟩
                case measure => simp [intOf]; omega
            · have t1 : decide ((48 : Int) ≤ (x : Int)) = false := bool_no (by omega)
              have t3 : decide ((97 : Int) ≤ (x : Int)) = false := bool_no (by omega)
              go_wp2_with fail
              go_round
              case rel => exact ⟨k + 1, (y * b + 0) % 18446744073709551616, by omega, by omega, HF.out, by go_num, HT⟩
              case measure => simp [intOf]; omega
      · obtain rfl : k = l.length := by omega
        have d2 : decide ((l.length : Int) < (l.length : Int)) = false := by simp
        have HR : Hid (numR b l 0 = y) := Lib.hid (by have := HE.out; rw [List.take_length] at this; exact this)
        go_wp2_with fail
        go_ret
        exact ⟨by rw [HR.out]; rfl, rfl⟩
end Go.Proofs.YtjbngddmmdcagaaDoor
