/- -/
import Derived.Test.YtfnkmolffhfpoaaGreatHp32
set_option linter.unusedVariables false
set_option linter.unusedSimpArgs false
namespace Go.Proofs.YtfnkmolffhfpoaaGreat
open Go.RowKit Go.BigFrame
theorem YD(x:Nat)(k:Int)(b c:Value)(w:World)(hk:¬(1<=k/\k<=8)):Calls Tryz.prog 28 #[.pointer (some ⟨x,0,none⟩), .agg #[.int .i64 k,b,c]] w (Fc (.int .i64 1) w):=by
 have HK:=Lib.hid fun w=>XU k w
 have e1:(decide (1<=k)&&decide (k<=8))=false:=by
  by_cases h1:1<=k
  . have:¬k<=8:=fun h=>hk ⟨h1,h⟩
    simp [this]
  . simp [h1]
 rw [e1]at HK;clear hk e1
 go_enter Tryz.func28,Tryz.ntmps28
 go_wp2_with fail
 refine (HK.out _).mono ?_
 rintro e w1 ⟨rfl,rfl⟩
 go_wp2_with fail
 go_ret
 exact ⟨rfl,(Below.refl _ _).alloc (Nat.le_refl _) _⟩
theorem rQ(x:Nat)(k:Int)(b c:Value)(w:World)(hk:k<1):Calls Tryz.prog 35 #[.pointer (some ⟨x,0,none⟩), .agg #[.int .i64 k,b,c]] w (Fc (.int .i64 1) w):=by
 have d1:decide (k<1)=true:=ga hk;clear hk
 go_enter Tryz.func35,Tryz.ntmps35
 go_wp2_with fail
 go_ret
 exact ⟨rfl,(Below.refl _ _).alloc (Nat.le_refl _) _⟩
theorem gK(x:Nat)(k:Int)(b c:Value)(w:World)(hk:8<k):Calls Tryz.prog 35 #[.pointer (some ⟨x,0,none⟩), .agg #[.int .i64 k,b,c]] w (Fc (.int .i64 1) w):=by
 have d1:decide (k<1)=false:=ua (by omega);have d2:decide (8<k)=true:=ga hk;clear hk
 go_enter Tryz.func35,Tryz.ntmps35
 go_wp2_with fail
 go_ret
 exact ⟨rfl,(Below.refl _ _).alloc (Nat.le_refl _) _⟩
theorem iK(x:Nat)(n k:Int)(b c:Value)(w:World)(h:w.cell? ⟨x,5,none⟩=some (.int .i64 n))(hn:n≠0)(hx:x<w.heap.size)(hk:1<=k/\k<=8):Calls Tryz.prog 35 #[.pointer (some ⟨x,0,none⟩), .agg #[.int .i64 k,b,c]] w (Fc (.int .i64 7) w):=by
 have h2:∀o,(w.alloc o).cell? ⟨x,5,none⟩=some (.int .i64 n):=fun o=>by rw [<-h];exact ((Below.refl _ _).alloc (Nat.le_refl _) o).cell (p:=⟨x,5,none⟩) hx
 have hd:(n != 0)=true:=by simpa using hn
 have d1:decide (k<1)=false:=ua (by omega);have d2:decide (8<k)=false:=ua (by omega);clear h hx hn hk
 go_enter Tryz.func35,Tryz.ntmps35
 go_wp2_with fail
 go_ret
 exact ⟨rfl,(Below.refl _ _).alloc (Nat.le_refl _) _⟩
theorem aV(x:Nat)(n k:Int)(b c:Value)(w:World)(h:w.cell? ⟨x,5,none⟩=some (.int .i64 n))(hx:x<w.heap.size)(hn:n≠0\/¬(1<=k/\k<=8)):Calls Tryz.prog 35 #[.pointer (some ⟨x,0,none⟩), .agg #[.int .i64 k,b,c]] w (Fc (.int .i64 (wu k)) w):=by
 by_cases hk:1<=k/\k<=8
 . have e:wu k=7:=if_pos hk;rw [e];exact iK x n k b c w h (hn.resolve_right fun f=>f hk) hx hk
 . have e:wu k=1:=if_neg hk;rw [e];by_cases h1:k<1
   . exact rQ x k b c w h1
   . exact gK x k b c w (by omega)
theorem bV(x:Nat)(n k:Int)(b c:Value)(w:World)(h:w.cell? ⟨x,2,none⟩=some (.int .i64 n))(hx:x<w.heap.size)(hn:n≠0\/¬(1<=k/\k<=8)):Calls Tryz.prog 28 #[.pointer (some ⟨x,0,none⟩), .agg #[.int .i64 k,b,c]] w (Fc (.int .i64 (wu k)) w):=by
 by_cases hk:1<=k/\k<=8
 . exact wA x n k b c w h (hn.resolve_right fun f=>f hk) hx
 . have e:wu k=1:=if_neg hk;rw [e];exact YD x k b c w hk
theorem Was(l:Nat)(t:Int)(w:World):Calls Tryz.prog 25 #[.pointer (some ⟨l,0,none⟩), .int .i64 t] w fun e w'=>e= .returned (.pointer (some ⟨w.heap.size,0,none⟩))/\Below w.heap.size w w'/\∃k1 k2 k3 a b d,w'.heap[w.heap.size]?=some (.cells #[.pointer (some ⟨l,0,none⟩), .int .i64 t, .int .i64 0,k1,k2,k3,a,b,d] 161 (0,0)):=by
 go_enter Tryz.func25,Tryz.ntmps25
 go_wp2_with fail
 go_ret
 exact ⟨rfl,(Below.refl _ _).alloc (Nat.le_refl _) _,_,_,_,_,_,_,heap_alloc_new w _⟩
end Go.Proofs.YtfnkmolffhfpoaaGreat
