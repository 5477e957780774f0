/- Bytes of one's own as a text; an element put ahead of a list of one's own. -/
import Derived.Test.YtjbngddmmdcagaaDoorB0
import Derived.Test.YtjbngddmmdcagaaDoorPl
import Derived.Test.YtjbngddmmdcagaaDoorC36
import Derived.Deep.AppendSrc
import Derived.Laws.IdiomStrings
import Derived.Lib.UnsafeStr
import Derived.Laws.MakeOwn
namespace Go.Proofs.YtjbngddmmdcagaaDoor
open Go.RowKit Go.BigFrame
set_option linter.unusedVariables false
set_option linter.unusedSimpArgs false

/-- A text of bytes. -/
def txt (l : List UInt8) : ByteArray := ⟨l.toArray⟩
theorem txt_append (l m : List UInt8) : txt l ++ txt m = txt (l ++ m) := by
  unfold txt
  apply ByteArray.ext
  simp
theorem txt_list (l : List UInt8) : (txt l).data.toList = l := by simp [txt]
theorem txt_size (l : List UInt8) : (txt l).size = l.length := by simp [txt, ByteArray.size]
theorem txt_inj {l m : List UInt8} (h : txt l = txt m) : l = m := by rw [← txt_list l, h, txt_list]
theorem txt_of (s : ByteArray) : s = txt s.data.toList := by
  unfold txt; apply ByteArray.ext; simp
/-- Bytes of one's own read as a text. -/
theorem own_text {w : World} {B : Nat} {v : Value} {n : Nat} {l : List UInt8} (h : w.ownsRow B 5 1 v n (Lib.byteCells l)) (hn : 1 ≤ n) : (convert 44 9 v).run Tryd.prog w = .ok (.string (txt l)) w := by
  have hl : l.length = n := by have := h.1; simpa [Lib.byteCells] using this
  rcases h.2 with ⟨-, h0⟩ | ⟨g, cap, cur, rfl, hb, hg, h1, h2, h3, h4⟩
  · omega
  · subst hl
    refine run_convert_bytes_back w 44 9 5 ⟨g, 0, none⟩ cap l Tryd.underlying44 Tryd.underlying5 Tryd.underlying9 fun j hj => ?_
    rw [Addr.add_lit, Nat.zero_add, cell_in hg]
    have h5 : cur.toList[j]? = (Lib.byteCells l)[j]? := by
      rw [← h4, Nat.mul_one, List.getElem?_take, if_pos hj]
    rw [← Array.getElem?_toList, h5]
    simp [Lib.byteCells, List.getElem?_eq_getElem hj]
theorem own_made1 (w : World) (B : Nat) (e : TypeId) (c : Value) (hB : B ≤ w.heap.size) : (w.alloc (.cells #[c] e)).ownsRow B e 1 (.slice (some ⟨w.heap.size, 0, none⟩) 1 1) 1 [c] :=
  ⟨rfl, .inr ⟨w.heap.size, 1, #[c], rfl, hB, heap_alloc_new w _, Nat.le_refl _, by unfold maxLen; omega, rfl, rfl⟩⟩
/-- 'append([]T{c}, v...)' where v is a row of one's own. -/
theorem wpList_front {P : Program} {ops : Array Oper} {rest : List Oper} {o : Oper} {a : Act} {Q : Exit → Act → World → Prop} (hgd : o.guard = none) (s x : Operand) (t : TypeId)
    (ho : o.op = .call { callee := .builtin .append, args := #[s, x], argTypes := #[t, t] })
    (base : Nat) (e : TypeId) (i : TypeInfo) (z : Value) (bytes : Nat) (ht : P.underlying t = some (.slice e)) (hi : P.info? e = some i) (hz : i.zero = some z)
    (hsize : i.size = 1) (hby : i.bytes = bytes) (hzs : z.cells.size = 1)
    (wr : World) (hbase : base ≤ wr.heap.size) (c : Value) (hc : c.oneCell' = true) (hs : a.eval s = .slice (some ⟨wr.heap.size, 0, none⟩) 1 1)
    (v : Value) (n : Nat) (xs : List Value) (hx : a.eval x = v) (hown : wr.ownsRow base e 1 v n xs) (h1 : ∀ u ∈ xs, u.oneCell' = true)
    (h63 : 1 + n ≤ maxLen) (hbytes : (1 + n) * bytes ≤ 140737488355328)
    (h : ∀ v' w', w'.ownsRow base e 1 v' (1 + n) (c :: xs) → (∀ B W, Below B W wr → B ≤ base → Below B W w') → wpList P ops Q rest (a.put o.dst v') w') :
    wpList P ops Q (o :: rest) a (wr.alloc (.cells #[c] e)) := by
  have hm := own_made1 wr base e c hbase
  rcases hown.2 with ⟨rfl, rfl⟩ | ⟨g, cap, cur, rfl, hb, hg, h2, h3, h4, h5⟩
  · have hxs : xs = [] := by have := hown.1; simpa using this
    subst hxs
    refine wpList_plain hgd fun K hK => ?_
    have hr := run_append_room_src (P := P) (wr.alloc (.cells #[c] e)) t t o.type e i ht hi wr.heap.size 0 1 1 (.slice none 0 0) 0 [] (Src.ofNil _ ht 0) (by omega) (fun j hj => by simp at hj) (fun j hj => by simp at hj)
    unfold Oper.wp execOp
    simp only [ho, resolve, invoke, builtin, Sem.run_bind, Sem.run_pure, Result.andThen_ok, List.map_toArray, List.map_cons, List.map_nil, hs, hx, hr]
    refine hK _ _ (h _ _ hm fun B W hb hB => ?_)
    exact hb.alloc (by have := hb.size; omega) _
  · have hgl := (Array.getElem?_eq_some_iff.1 hg).1
    refine wpList_append_own _ hgd s x t ho base e i z 1 bytes ht hi hz hsize hby hzs (by omega) _ 1 [c] hs hm ⟨g, 0, none⟩ n cap xs hx hown.1 (fun j u hj => ?_) h1 h63 hbytes (by simp; omega) ?_
    · rw [Addr.add_lit, Nat.zero_add, World.cell?_alloc_old _ _ _ (Nat.ne_of_lt hgl), cell_in hg, ← Array.getElem?_toList]
      rw [← h5] at hj
      rw [List.getElem?_take] at hj
      split at hj
      · exact hj
      · cases hj
    · intro v' w' ho' hg' hn'
      refine h v' w' ho' fun B W hb hB => ?_
      refine Below.grown (hb.alloc (by have := hb.size; omega) _) hg' (by have := hb.size; simp; omega) (fun k e => ?_)
      cases e
      show B ≤ wr.heap.size
      omega
end Go.Proofs.YtjbngddmmdcagaaDoor
