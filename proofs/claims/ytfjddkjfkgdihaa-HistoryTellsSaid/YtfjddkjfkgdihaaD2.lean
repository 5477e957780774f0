/- Layer 24: Took and Of on whatever slice of calls. -/
import Derived.Test.YtfjddkjfkgdihaaD1
import Derived.Deep.Onto
namespace Go.Proofs.Ytfjddkjfkgdihaa
open Go.RowKit Go.BigFrame
set_option linter.unusedVariables false

theorem enters_at {P : Program} {f : FuncId} {fn : Func} {c : Code} (hf : P.funcs[f]? = some fn) (hname : (fn.name == "runtime.NumGoroutine") = false) (hb : fn.body = some c) (args : Array Value) (w : World) :
    (callFunc f args).run P w = .ok (.enter f args) w := by
  have h1 : fn.name ≠ "runtime.NumGoroutine" := by simpa using hname
  simp [callFunc, hf, h1, hb]
theorem info65 : (Try.prog.info? 65).map (fun i => (i.zero, i.size, i.bytes)) = some (some (.agg #[.int .i64 0, .int .i64 0, .int .u32 0, .int .u32 0, .int .i64 0, .int .u32 0, .int .i64 0, .int .i64 0, .int .i64 0, .bool false, .bool false]), 11, 72) := by kernel_rfl
theorem where_nil (p : CallD → Bool) (fv : Value) (a : Option Addr) (cap : Nat) (c : Nat → CallD) (w : World) : Calls Try.prog 63 #[.slice a 0 cap, fv] w (WhereTo p c 0 w) := by
  go_enter Try.func63, Try.ntmps63
  go_wp2_with fail
  go_loop [5, 10] (fun v i => v = .slice none 0 0 ∧ i = .int .i64 0) (fun _ _ => 0)
  case atStart => exact ⟨rfl, rfl⟩
  case round =>
    obtain ⟨rfl, rfl⟩ := hrel
    go_wp2_with fail
    go_ret
    exact ⟨_, rfl, Below.refl _ _, World.ownsRow_nil _ _ _ _⟩
theorem where_all (p : CallD → Bool) (f : Nat) (lb : Array Value) (ef : ∀ args w, (callFunc f args).run Try.prog w = .ok (.enter f args) w) (a : Option Addr) (len cap : Nat) (c : Nat → CallD) (w : World) (hl : len ≤ 100) (h : CallsAt w a len cap c)
    (hp : ∀ x W, Below w.heap.size w W → Calls Try.prog f (#[.agg (CallD.cells x)] ++ lb) W (BoolOn (p x) W)) :
    Calls Try.prog 63 #[.slice a len cap, .func (.func f) #[] lb] w (WhereTo p c len w) := by
  by_cases h0 : 0 < len
  · obtain ⟨b, off, rfl, hb, hc⟩ := h.block h0
    exact where_any p f lb ef b off len cap c w hl hb hc hp
  · obtain rfl : len = 0 := by omega
    exact where_nil p _ a cap c w
theorem took_all (a : Option Addr) (len cap : Nat) (c : Nat → CallD) (w : World) (hl : len ≤ 100) (h : CallsAt w a len cap c) :
    Calls Try.prog 44 #[.slice a len cap] w (WhereTo CallD.tookB c len w) := by
  have H := Lib.hid (where_all CallD.tookB 64 #[] (enters_at Try.func64 (by kernel_rfl) rfl) a len cap c w hl h (fun x W _ => by simpa using took1_any x W))
  go_enter Try.func44, Try.ntmps44
  go_wp2_with fail
  refine (H.out).mono ?_
  rintro e w2 ⟨v, rfl, hb, ho⟩
  go_wp2_with fail
  go_ret
  exact ⟨v, rfl, hb, ho⟩

/-- The calls' cells, one behind the other. -/
def callsOf (l : List CallD) : List Value := l.flatMap fun c => c.cells.toList
theorem callsOf_append (l m : List CallD) : callsOf (l ++ m) = callsOf l ++ callsOf m := by simp [callsOf]
def OfTo (t : Int) (c : Nat → CallD) (len : Nat) (w : World) (e : Ending) (w' : World) : Prop :=
  ∃ v, e = .returned v ∧ Below w.heap.size w w' ∧ w'.ownsRow w.heap.size 65 11 v (idxTo (CallD.ofB t) c len).length (callsOf ((idxTo (CallD.ofB t) c len).map c))

set_option maxRecDepth 100000 in
set_option maxHeartbeats 4000000 in
theorem of_all (t : Int) (a : Option Addr) (len cap : Nat) (c : Nat → CallD) (w : World) (hl : len ≤ 100) (h : CallsAt w a len cap c) :
    Calls Try.prog 45 #[.slice a len cap, .int .i64 t] w (OfTo t c len w) := by
  have hmf : ∀ (fn : Fn) (first cap : Array Value) (w : World), (Instr.makeFunc fn first cap).run Try.prog w = .ok (.func fn first cap) w := fun _ _ _ _ => rfl
  obtain ⟨i65, hi, hz0, hz1, hz2⟩ := info_parts info65
  have HCS := Lib.hid h; clear h
  obtain ⟨W0, hW0⟩ : ∃ W0, W0 = w.alloc (.cells #[.int .i64 t] 3) := ⟨_, rfl⟩
  have hcell : W0.cell? ⟨w.heap.size, 0, none⟩ = some (.int .i64 t) := by rw [hW0]; exact cell_alloc w #[.int .i64 t] 3 0 _ rfl
  have hsz : W0.heap.size = w.heap.size + 1 := by rw [hW0]; simp
  have HB0 : Hid (Below w.heap.size w W0) := Lib.hid (by rw [hW0]; exact (Below.refl _ _).alloc (Nat.le_refl _) _)
  have CS0 := Lib.hid (HCS.out.below HB0.out)
  have H := Lib.hid (where_all (CallD.ofB t) 65 #[.pointer (some ⟨w.heap.size, 0, none⟩)] (enters_at Try.func65 (by kernel_rfl) rfl) a len cap c W0 hl CS0.out (fun x W hb => by
    have := of1_any x t w.heap.size W ((hb.cell (p := ⟨w.heap.size, 0, none⟩) (by rw [hsz]; exact Nat.lt_succ_self _)).trans hcell) (Nat.lt_of_lt_of_le (by rw [hsz]; exact Nat.lt_succ_self _) hb.size)
    simpa using this))
  have HW0 := Lib.hid hW0
  have HS0 : Hid (w.heap.size ≤ W0.heap.size) := Lib.hid (by rw [hsz]; exact Nat.le_succ _)
  clear hW0 hcell hsz
  go_enter Try.func45, Try.ntmps45
  go_wp2_with fail
  rw [← HW0.out]
  refine (H.out).mono ?_
  rintro e w2 ⟨v, rfl, hb2, ho⟩
  have HB2 := Lib.hid (HB0.out.trans (hb2.mono HS0.out))
  have CS2 := Lib.hid (CS0.out.below hb2)
  obtain ⟨B, hB⟩ : ∃ B, B = w2.heap.size := ⟨_, rfl⟩
  have HSB : Hid (w.heap.size ≤ B) := Lib.hid (by rw [hB]; exact HB2.out.size)
  clear hb2 H CS0 HB0 HS0
  rcases own_slice ho with ⟨hn, a', cap', rfl⟩ | ⟨g, cap', rfl, hnc, hcm, -, hgs, hcell⟩
  · have HL : Hid (idxTo (CallD.ofB t) c len = []) := Lib.hid (List.length_eq_zero_iff.1 hn)
    clear ho hn
    go_wp2_with fail
    go_loop [5, 12] (fun v i => v = .slice none 0 0 ∧ i = .int .i64 0) (fun _ _ => 0)
    case atStart => exact ⟨rfl, rfl⟩
    case round =>
      obtain ⟨rfl, rfl⟩ := hrel
      go_wp2_with fail
      go_ret
      exact ⟨_, rfl, HB2.out, by rw [HL.out]; exact World.ownsRow_nil _ _ _ _⟩
  · clear ho hnc hcm
    obtain ⟨l, hl0⟩ : ∃ l, l = idxTo (CallD.ofB t) c len := ⟨_, rfl⟩
    rw [← hl0] at hcell
    have HLT : Hid (∀ k (hk : k < l.length), l[k] < len) := Lib.hid fun k hk => (idxTo_lt (CallD.ofB t) c len _ (by rw [← hl0]; exact List.getElem_mem hk)).1
    have HCELL : Hid (∀ k (hk : k < l.length), w2.cell? ⟨g, k, none⟩ = some (.int .i64 ((l[k] : Nat) : Int))) := Lib.hid fun k hk => by
      rw [hcell k (by omega), intsOf, List.getElem?_map, List.getElem?_eq_getElem hk]; rfl
    have HLL : Hid (l.length ≤ 100) := Lib.hid (by have := idxTo_len (CallD.ofB t) c len; rw [← hl0] at this; omega)
    have HG : Hid (g < B) := Lib.hid (by rw [hB]; exact hgs)
    clear hcell hgs
    rw [← hl0]
    have HL0 := Lib.hid hl0; clear hl0
    go_wp2_with fail
    go_loopw [5, 12] (fun v i wr => ∃ k : Nat, k ≤ l.length ∧ i = .int .i64 k ∧ Hid (wr.ownsRow B 65 11 v k (callsOf ((l.take k).map c))) ∧ Hid (Below B w2 wr)) (fun _ i _ => l.length - (intOf i).toNat)
    case atStart => exact ⟨0, Nat.zero_le _, rfl, World.ownsRow_nil _ _ _ _, Below.refl _ _⟩
    case round =>
      obtain ⟨k, hk, rfl, HO, HBE⟩ := hrel
      have hBw : B ≤ wr.heap.size := by rw [hB]; exact HBE.out.size
      by_cases hlt : k < l.length
      · obtain ⟨b, off, rfl, hbs, hcs⟩ := CS2.out.block (by have := HLT.out k hlt; omega)
        obtain ⟨i, hiq⟩ : ∃ i, i = l[k] := ⟨_, rfl⟩
        have hil : i < len := by rw [hiq]; exact HLT.out k hlt
        have p1 : wr.cell? ⟨g, k, none⟩ = some (.int .i64 (i : Int)) := by rw [HBE.out.cell (p := ⟨g, k, none⟩) HG.out, hiq]; exact HCELL.out k hlt
        obtain ⟨d0, d1, d2, d3, d4, d5, d6, d7, d8, d9, d10⟩ := (hcs i hil).of (w' := wr) fun o => HBE.out.cell (p := ⟨b, o, none⟩) (by rw [hB]; exact hbs)
        obtain ⟨x, hx⟩ : ∃ x, x = c i := ⟨_, rfl⟩
        rw [← hx] at d0 d1 d2 d3 d4 d5 d6 d7 d8 d9 d10
        have HT : Hid (callsOf ((l.take (k + 1)).map c) = callsOf ((l.take k).map c) ++ x.cells.toList) := Lib.hid (by
          rw [← List.take_append_getElem hlt, List.map_append, callsOf_append, ← hiq, hx]; simp [callsOf])
        obtain ⟨L, hL⟩ : ∃ L, L = callsOf ((l.take k).map c) := ⟨_, rfl⟩
        rw [← hL] at HO HT
        have i0 : (0 : Int) ≤ (k : Int) := by omega
        have i1 : (k : Int) < (l.length : Int) := by omega
        have i2 : (0 : Int) ≤ (i : Int) := by omega
        have i3 : (i : Int) < (len : Int) := by omega
        clear hcs hbs hx hL
        have HIQ := Lib.hid hiq; clear hiq
        have HLL2 := HLL.out
        go_wp2_with (at_builtin; refine wpList_push rfl _ _ 60 rfl B 65 i65 (.agg #[.int .i64 0, .int .i64 0, .int .u32 0, .int .u32 0, .int .i64 0, .int .u32 0, .int .i64 0, .int .i64 0, .int .i64 0, .bool false, .bool false]) 11 72 Try.underlying60 hi hz0 hz1 hz2 rfl (by decide) wr hBw u5 k L rfl HO.out #[.int .i64 x.th, .int .i64 x.ki, .int .u32 x.ky, .int .u32 x.va, .int .i64 x.rk, .int .u32 x.rv, .int .i64 x.be, .int .i64 x.en, .int .i64 x.wh, .bool x.cr, .bool x.kp] 1 1 rfl rfl (by simp [Value.oneCell']) (by unfold maxLen; omega) (by omega) ?_; intro v' w' hown hgr hbel hne; have HO' := Lib.hid hown; have HB' := Lib.hid (hbel B w2 HBE.out (Nat.le_refl _)); clear hown hgr hbel hne)
        go_wp2_with fail
        go_roundw
        case rel => exact ⟨k + 1, by omega, by go_num, Lib.hid (by rw [HT.out]; exact HO'.out), HB'⟩
        case measure => simp [intOf]; omega
      · obtain rfl : k = l.length := by omega
        go_wp2_with fail
        go_ret
        refine ⟨_, rfl, HB2.out.trans (HBE.out.mono HSB.out), ?_⟩
        rw [← HL0.out]
        have := HO.out.mono HSB.out
        rwa [List.take_length] at this
end Go.Proofs.Ytfjddkjfkgdihaa
