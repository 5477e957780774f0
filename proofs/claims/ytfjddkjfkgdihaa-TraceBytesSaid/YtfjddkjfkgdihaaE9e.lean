/- Walk of the reader's access (layer 37; the ways printed by e9.py). -/
import Derived.Test.YtfjddkjfkgdihaaE9a
import Derived.Test.YtfjddkjfkgdihaaE9b
import Derived.Test.YtfjddkjfkgdihaaE9c
import Derived.Test.YtfjddkjfkgdihaaE9d
import Derived.Deep.CutRange
namespace Go.Proofs.Ytfjddkjfkgdihaa
open Go.RowKit Go.BigFrame
set_option linter.unusedVariables false
set_option linter.unusedSimpArgs false

set_option maxRecDepth 100000 in
theorem access_nil (B p : Nat) (last : Int) (a : Option Addr) (len cap : Nat) (w : World) (h : RdrAt w B p [] last a len cap) :
    Calls Try.prog 72 #[.pointer (some ⟨p, 0, none⟩)] w (AccTo B p [] last w) := by
  have HC := Lib.hid (byte_no B p last a len cap _ (h.alloc (.cells #[.int .i64 0, .int .i64 0, .int .i64 0, .int .u64 0, .int .u64 0, .bool false] 50)))
  clear h
  go_enter Try.func72, Try.ntmps72
  go_wp2_with fail
  with_reducible refine HC.out.mono ?_
  rintro e w1 ⟨rfl, hb⟩
  exact ⟨rfl, AccTo.no (((But.refl p p w).alloc _).trans hb) (fun x r hg e => by simp [AccD.enc] at e)⟩
theorem access_any (B p : Nat) (M : List Int) (last : Int) (l0 : -1073741824 ≤ last) (l1 : last ≤ 1073741824) (a : Option Addr) (len cap : Nat) (w : World) (h : RdrAt w B p M last a len cap) :
    Calls Try.prog 72 #[.pointer (some ⟨p, 0, none⟩)] w (AccTo B p M last w) := by
  cases M with
  | nil => exact access_nil B p last a len cap w h
  | cons f M1 =>
    obtain ⟨f0, f1⟩ := h.bytes f (by simp)
    obtain ⟨f, rfl⟩ := Int.eq_ofNat_of_zero_le f0
    have hf : f < 256 := by omega
    rcases (show f % 8 = 0 ∨ f % 8 = 1 ∨ f % 8 = 2 ∨ f % 8 = 3 ∨ f % 8 = 4 ∨ f % 8 = 5 ∨ f % 8 = 6 ∨ f % 8 = 7 by omega) with hk | hk | hk | hk | hk | hk | hk | hk
    · rcases hd : decide ((f / 8) % 2 = 1) with _ | _
      · exact access_0f B p f hf hk hd M1 last l0 l1 a len cap w h
      · exact access_0t B p f hf hk hd M1 last l0 l1 a len cap w h
    · rcases hd : decide ((f / 8) % 2 = 1) with _ | _
      · exact access_1f B p f hf hk hd M1 last l0 l1 a len cap w h
      · exact access_1t B p f hf hk hd M1 last l0 l1 a len cap w h
    · rcases hd : decide ((f / 8) % 2 = 1) with _ | _
      · exact access_2f B p f hf hk hd M1 last l0 l1 a len cap w h
      · exact access_2t B p f hf hk hd M1 last l0 l1 a len cap w h
    · rcases hd : decide ((f / 8) % 2 = 1) with _ | _
      · exact access_3f B p f hf hk hd M1 last l0 l1 a len cap w h
      · exact access_3t B p f hf hk hd M1 last l0 l1 a len cap w h
    · rcases hd : decide ((f / 8) % 2 = 1) with _ | _
      · exact access_4f B p f hf hk hd M1 last l0 l1 a len cap w h
      · exact access_4t B p f hf hk hd M1 last l0 l1 a len cap w h
    · rcases hd : decide ((f / 8) % 2 = 1) with _ | _
      · exact access_5f B p f hf hk hd M1 last l0 l1 a len cap w h
      · exact access_5t B p f hf hk hd M1 last l0 l1 a len cap w h
    · rcases hd : decide ((f / 8) % 2 = 1) with _ | _
      · exact access_6f B p f hf hk hd M1 last l0 l1 a len cap w h
      · exact access_6t B p f hf hk hd M1 last l0 l1 a len cap w h
    · rcases hd : decide ((f / 8) % 2 = 1) with _ | _
      · exact access_7f B p f hf hk hd M1 last l0 l1 a len cap w h
      · exact access_7t B p f hf hk hd M1 last l0 l1 a len cap w h
end Go.Proofs.Ytfjddkjfkgdihaa
