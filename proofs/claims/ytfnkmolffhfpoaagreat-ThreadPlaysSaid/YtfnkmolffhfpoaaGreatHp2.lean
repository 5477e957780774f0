/- -/
import Derived.Test.YtfnkmolffhfpoaaGreatHp1
import Derived.RowKit
import Derived.WalkKit
import Derived.Laws.Cells
import Derived.Laws.Tables
import Derived.Laws.StructEq
import Derived.Great.BuildSlice
import Derived.ChangeKeysEq
import Derived.Laws.Shifts
import Derived.Laws.BitsAllLaws
set_option linter.unusedVariables false
set_option linter.unusedSimpArgs false
set_option linter.unusedSectionVars false
namespace Go.Proofs.YtfnkmolffhfpoaaGreat
namespace Sk
theorem Va(a b:Nat):Nat.beq a b=decide (a=b):=by rw [Bool.eq_iff_iff];simp [Nat.beq_eq]
theorem xd(a b:Nat):Nat.ble a b=decide (a<=b):=by rw [Bool.eq_iff_iff];simp
theorem xl{β:Sort _}(n:Nat)(k:Nat->β):pq n k=k n:=by cases n<;>rfl
theorem VN{β:Sort _}(v:Value)(k:Value->β):aI v k=k v:=by
 cases v with
 |pointer a=>cases a with|none=>rfl|some a=>obtain ⟨b,o,s⟩:=a;simp [aI,xl]
 |_=>rfl
theorem Li{β:Sort _}(v:Value)(k:Value->β):Ij v k=k v:=by
 cases v with
 |int q n=>cases n<;>simp [Ij,xl]
 |bool b=>cases b<;>rfl
 |pointer a=>cases a with|none=>rfl|some a=>obtain ⟨b,o,s⟩:=a;simp [Ij,xl]
 |slice a n c=>cases a with|none=>rfl|some a=>obtain ⟨b,o,s⟩:=a;simp [Ij,xl]
 |iface t v=>simp [Ij,VN]
 |_=>rfl
theorem Xr{β:Sort _}:∀(l:List Value) (k:List Value->β),Iv l k=k l
 |[],k=>rfl
 |x::xs,k=>by simp [Iv,Li,Xr xs]
theorem jk{β:Sort _}(v:Value)(k:Value->β):ml v k=k v:=by
 cases v with
 |agg l=>obtain ⟨l⟩:=l;simp [ml,Xr]
 |tuple l=>obtain ⟨l⟩:=l;simp [ml,Xr]
 |_=>simp [ml,Li]
theorem Pc{α:Type}:∀(l:List α) (n:Nat),Xf l n=l[n]?
 |[],n=>by simp [Xf]
 |x::xs,0=>by simp [Xf]
 |x::xs,n+1=>by simp [Xf,Pc xs n]
theorem Dc{α:Type}:∀l:List α,Ze l=l.length
 |[]=>rfl
 |_::xs=>by simp [Ze,Dc xs]
theorem IE:∀(n:Nat) (l r:List Value),takeN n l=some r->n<=l.length/\r=l.take n
 |0,l,r,h=>by simp [takeN]at h;simp [h]
 |n+1,[],r,h=>by simp [takeN]at h
 |n+1,x::xs,r,h=>by
  simp only [takeN]at h;cases hr:takeN n xs with
  |none=>simp [hr]at h
  |some l=>
   simp [hr]at h;have:=IE n xs l hr;simp [<-h,this.2];exact this.1
theorem JE:∀(n:Nat) (l:List Value),Jv n l=l.drop n
 |0,l=>by simp [Jv]
 |n+1,[]=>by simp [Jv]
 |n+1,x::xs=>by simp [Jv,JE n xs]
theorem IK:∀(c l r:List Value),over c l=some r->l.length<=c.length/\r=l++c.drop l.length
 |c,[],r,h=>by simp [over]at h;simp [h]
 |[],x::l,r,h=>by simp [over]at h
 |y::c,x::l,r,h=>by
  simp only [over]at h;cases hr:over c l with
  |none=>simp [hr]at h
  |some q=>
   simp [hr]at h;have:=IK c l q hr;simp [<-h,this.2];exact this.1
theorem Yr:∀(n:Nat) (c l r:List Value),Km n c l=some r->n+l.length<=c.length/\r=c.take n++l++c.drop (n+l.length)
 |0,c,l,r,h=>by
  have:=IK c l r (by simpa [Km]using h);simp [this.2];exact this.1
 |n+1,[],l,r,h=>by simp [Km]at h
 |n+1,x::c,l,r,h=>by
  simp only [Km]at h;cases hr:Km n c l with
  |none=>simp [hr]at h
  |some q=>
   simp [hr]at h;have:=Yr n c l q hr;constructor
   . simp;omega
   . rw [<-h,this.2,show n+1+l.length=(n+l.length)+1 by omega];simp
theorem Da(a b:Bool):La a b=(a&&b):=by cases a<;>rfl
theorem zl(a b:Bool):BE a b=(a||b):=by cases a<;>rfl
theorem Cd(a:Bool):Wg a= !a:=by cases a<;>rfl
theorem nk(a b:Bool):Ov a b=(a==b):=by cases a<;>cases b<;>rfl
theorem yq{α:Type}(p:α->Bool):∀l:List α,Kz p l=l.all p
 |[]=>rfl
 |x::xs=>by cases h:p x<;>simp [Kz,h,yq p xs]
theorem Sd(a b:Int):ae a b=decide (a=b):=by
 cases a with
 |ofNat a=>cases b with
  |ofNat b=>
   simp only [ae,Va,decide_eq_decide];exact ⟨fun h=>by rw [h],fun h=>Int.ofNat.inj h⟩
  |negSucc b=>simp [ae]
 |negSucc a=>cases b with
  |ofNat b=>simp [ae]
  |negSucc b=>simp only [ae,Va,decide_eq_decide];exact ⟨fun h=>by rw [h],fun h=>Int.negSucc.inj h⟩
theorem lC(a b:Int):LQ a b=decide (a<=b):=by
 cases a with
 |ofNat a=>cases b with
  |ofNat b=>simp only [LQ];rw [Bool.eq_iff_iff];simp
  |negSucc b=>simp only [LQ];rw [Bool.eq_iff_iff];simp;omega
 |negSucc a=>cases b with
  |ofNat b=>simp only [LQ];rw [Bool.eq_iff_iff];simp;omega
  |negSucc b=>simp only [LQ];rw [Bool.eq_iff_iff];simp;omega
theorem Zb{a b:IntKind}(h:Nat.beq (Hc a) (Hc b)=true):a=b:=by
 cases a<;>cases b<;>first|rfl|(simp [Hc]at h)
theorem Qm(k:IntKind)(n:Int):Vo k n=k.wrap n:=by
 cases k<;>cases n<;>simp only [Vo]
 all_goals
  split
  . rename_i h;simp at h;simp only [IntKind.wrap,IntKind.bits,IntKind.signed]
    first|omega|(simp;omega)
  . rfl
theorem Gd{α:Type}(l r:Tr α)(v:Option α)(n:Nat):(Tr.node l v r).get n=match n with|0=>v|m+1=>if m %2=0 then l.get (m/2)else r.get (m/2):=by
 cases n with
 |zero=>simp [Tr.qq]
 |succ m=>
  simp only [Tr.qq];have:Nat.beq (Nat.mod m 2) 0=decide (m %2=0):=by rw [Va];rfl
  rw [this];by_cases h:m %2=0<;>simp [h]<;>rfl
def Tr.put{α:Type}:Nat->Tr α->Nat->Option α->Tr α
 |0,t,_,_=>t
 |f+1,t,n,x=>
  match t with
  | .nil=>match n with
    |0=> .node .nil x .nil
    |m+1=>if m %2=0 then .node (Tr.put f .nil (m/2) x) none .nil else .node .nil none (Tr.put f .nil (m/2) x)
  | .node l v r=>match n with
    |0=> .node l x r
    |m+1=>if m %2=0 then .node (Tr.put f l (m/2) x) v r else .node l v (Tr.put f r (m/2) x)
theorem mo{α:Type}{β:Sort _}:∀(f:Nat) (t:Tr α) (n:Nat) (x:Option α) (k:Tr α->β),Tr.oe f t n x k=k (Tr.put f t n x)
 |0,t,n,x,k=>rfl
 |f+1,t,n,x,k=>by
  have hb:∀m,Nat.beq (Nat.mod m 2) 0=decide (m %2=0):=fun m=>by rw [Va];rfl
  have hd:∀m,Nat.div m 2=m/2:=fun m=>rfl
  cases t with
  |nil=>
   cases n with
   |zero=>simp [Tr.rq,Tr.bo,Tr.put]
   |succ m=>
    simp only [Tr.rq,Tr.bo,Tr.put,hb,hd];by_cases h:m %2=0<;>simp [h,mo f]
  |node l v r=>
   cases n with
   |zero=>simp [Tr.rq,Tr.bo,Tr.put]
   |succ m=>
    simp only [Tr.rq,Tr.bo,Tr.put,hb,hd];by_cases h:m %2=0<;>simp [h,mo f]
theorem Ii{α:Type}:∀(f:Nat) (t:Tr α) (n:Nat) (x:Option α) (j:Nat),n<f->(Tr.put f t n x).get j=if j=n then x else t.get j
 |0,t,n,x,j,h=>absurd h (Nat.not_lt_zero _)
 |f+1,t,n,x,j,h=>by
  cases t with
  |nil=>
   cases n with
   |zero=>cases j with
    |zero=>simp [Tr.put,Tr.get_nil,Gd]
    |succ j=>simp only [Tr.put,Gd];simp [Tr.get_nil]
   |succ m=>
    have ih:=fun i=>Ii f (Tr.nil:Tr α) (m/2) x i (by omega)
    simp only [Tr.put];cases j with
    |zero=>split<;>simp [Gd,Tr.get_nil]
    |succ i=>
     split<;>rename_i hm
     . rw [Gd];simp only [Tr.get_nil]at ih⊢;by_cases hi:i %2=0
       . simp only [hi,if_true,ih];by_cases e:i=m
         . subst e;simp
         . rw [if_neg (by omega),if_neg (by omega)]
       . simp only [hi,if_false];rw [if_neg (by omega)]
     . rw [Gd];simp only [Tr.get_nil]at ih⊢;by_cases hi:i %2=0
       . simp only [hi,if_true];rw [if_neg (by omega)]
       . simp only [hi,if_false,ih];by_cases e:i=m
         . subst e;simp
         . rw [if_neg (by omega),if_neg (by omega)]
  |node l v r=>
   cases n with
   |zero=>cases j<;>simp [Tr.put,Gd]
   |succ m=>
    have ihl:=fun i=>Ii f l (m/2) x i (by omega)
    have ihr:=fun i=>Ii f r (m/2) x i (by omega)
    simp only [Tr.put];cases j with
    |zero=>split<;>simp [Gd]
    |succ i=>
     split<;>rename_i hm
     . rw [Gd,Gd];by_cases hi:i %2=0
       . simp only [hi,if_true,ihl];by_cases e:i=m
         . subst e;simp
         . rw [if_neg (by omega),if_neg (by omega)]
       . simp only [hi,if_false];rw [if_neg (by omega)]
     . rw [Gd,Gd];by_cases hi:i %2=0
       . simp only [hi,if_true];rw [if_neg (by omega)]
       . simp only [hi,if_false,ihr];by_cases e:i=m
         . subst e;simp
         . rw [if_neg (by omega),if_neg (by omega)]
def Row.put(r:Row)(i:Nat)(v:Value):Row:=⟨r.n,r.d,Tr.put (i+1) r.tr i (some v)⟩
theorem qk{β:Type}(r:Row)(i:Nat)(v:Value)(k:Row->Option β):r.oe i v k=if i<r.n then k (r.put i v)else none:=by
 obtain ⟨n,d,t⟩:=r;simp only [Row.oe,Row.put,mo];by_cases h:i<n
 . have:Nat.ble (Nat.succ i) n=true:=by rw [xd];exact decide_eq_true (by omega)
   simp only [this,h,if_true]
 . have:Nat.ble (Nat.succ i) n=false:=by rw [xd];exact decide_eq_false (by omega)
   simp only [this,h,if_false]
theorem rj(r:Row)(i:Nat):r.get i=match r.tr.get i with|some v=>some v|none=>if i<r.n then r.d else none:=by
 unfold Row.get;cases r.tr.get i with
 |some v=>rfl
 |none=>
  by_cases h:i<r.n
  . have:Nat.ble (Nat.succ i) r.n=true:=by rw [xd];exact decide_eq_true (by omega)
    simp only [this,h,if_true]
  . have:Nat.ble (Nat.succ i) r.n=false:=by rw [xd];exact decide_eq_false (by omega)
    simp only [this,h,if_false]
theorem Rm(r:Row)(i:Nat)(v:Value)(j:Nat):(r.put i v).get j=if j=i then some v else r.get j:=by
 rw [rj,rj,Row.put];simp only [Ii (i+1) r.tr i (some v) j (by omega)];by_cases h:j=i<;>simp [h]
def Row.di(r:Row)(o:Nat):List Value->Row
 |[]=>r
 |v::l=>(r.put o v).di (o+1) l
theorem Al(l:List Value):∀(r:Row) (o:Nat),(r.di o l).n=r.n/\(r.di o l).d=r.d:=by
 induction l with
 |nil=>intro r o;exact ⟨rfl,rfl⟩
 |cons v l ih=>intro r o;simp only [Row.di];rw [(ih _ _).1,(ih _ _).2];exact ⟨rfl,rfl⟩
theorem zq{β:Type}(l:List Value):∀(r:Row) (o:Nat) (k:Row->Option β) (x:β),r.XB o l k=some x->o+l.length<=r.n\/l=[]:=by
 induction l with
 |nil=>intro r o k x h;exact .inr rfl
 |cons v l ih=>
  intro r o k x h;simp only [Row.XB,Li,qk]at h;by_cases hi:o<r.n
  . rw [if_pos hi]at h;left;rcases ih _ _ _ _ h with h'|h'
    . have:(r.put o v).n=r.n:=rfl
      rw [this]at h';simp;omega
    . subst h';simp;omega
  . rw [if_neg hi]at h;cases h
theorem sj{β:Type}(l:List Value):∀(r:Row) (o:Nat) (k:Row->Option β) (x:β),r.XB o l k=some x->k (r.di o l)=some x:=by
 induction l with
 |nil=>intro r o k x h;exact h
 |cons v l ih=>
  intro r o k x h;simp only [Row.XB,Li,qk]at h;by_cases hi:o<r.n
  . rw [if_pos hi]at h;exact ih _ _ _ _ h
  . rw [if_neg hi]at h;cases h
theorem mC(l:List Value):∀(r:Row) (o j:Nat),(r.di o l).get j=if o<=j/\j<o+l.length then l[j -o]?else r.get j:=by
 induction l with
 |nil=>intro r o j;simp [Row.di];omega
 |cons v l ih=>
  intro r o j;simp only [Row.di,ih,Rm];by_cases e:j=o
  . subst e;rw [if_neg (by omega),if_pos (by simp)];simp
  . by_cases h:o+1<=j/\j<o+1+l.length
    . rw [if_pos h,if_pos (by simp;omega),show j -o=(j -(o+1))+1 by omega];simp
    . rw [if_neg h,if_neg e,if_neg (by simp;omega)]
def Row.app(r:Row):List Value->Row
 |[]=>r
 |v::l=>Row.app ⟨r.n+1,r.d,Tr.put (r.n+1) r.tr r.n (some v)⟩ l
theorem tj{β:Type}(l:List Value):∀(r:Row) (k:Row->Option β),r.ext l k=k (r.app l):=by
 induction l with
 |nil=>intro r k;rfl
 |cons v l ih=>intro r k;obtain ⟨n,d,t⟩:=r;simp only [Row.ext,Li,xl,mo];rw [ih];rfl
theorem Re(l:List Value):∀r:Row,(r.app l).n=r.n+l.length/\(r.app l).d=r.d:=by
 induction l with
 |nil=>intro r;exact ⟨rfl,rfl⟩
 |cons v l ih=>intro r;simp only [Row.app];rw [(ih _).1,(ih _).2];simp;omega
theorem uj(l:List Value):∀(r:Row) (hd:r.d=none) (j:Nat),(r.app l).get j=if r.n<=j/\j<r.n+l.length then l[j -r.n]?else r.get j:=by
 induction l with
 |nil=>intro r hd j;simp [Row.app];omega
 |cons v l ih=>
  intro r hd j;simp only [Row.app];rw [ih _ (by simpa using hd)];simp only [rj,Ii (r.n+1) r.tr r.n (some v) _ (by omega),hd];by_cases e:j=r.n
  . subst e;rw [if_neg (by omega),if_pos (by simp)];simp
  . by_cases h:r.n+1<=j/\j<r.n+1+l.length
    . rw [if_pos h,if_pos (by simp;omega),show j -r.n=(j -(r.n+1))+1 by omega];simp
    . have h2:¬(r.n<=j/\j<r.n+(v::l).length):=by simp only [List.length_cons];omega
      rw [if_neg h,if_neg e,if_neg h2];cases r.tr.get j<;>simp
theorem KE(m:Nat):∀(r:Row) (o:Nat) (l:List Value),r.from o m=some l->l.length=m/\∀j,j<m->r.get (o+j)=l[j]?:=by
 induction m with
 |zero=>intro r o l h;simp [Row.from]at h;subst h;exact ⟨rfl,fun j hj=>absurd hj (Nat.not_lt_zero _)⟩
 |succ m ih=>
  intro r o l h;simp only [Row.from]at h;cases hv:r.get o with
  |none=>simp [hv]at h
  |some v=>
   cases hl:r.from (Nat.succ o) m with
   |none=>simp [hv,hl]at h
   |some q=>
    simp [hv,hl]at h;obtain ⟨h1,h2⟩:=ih r (o+1) q hl;subst h;refine ⟨by simp [h1],fun j hj=> ?_⟩;cases j with
    |zero=>simpa using hv
    |succ j=>have:=h2 j (by omega);rw [show o+(j+1)=o+1+j by omega];simpa using this
inductive Tc(G:Type) where
 |v(x:Value)
 |g(x:G)
def tY(n:Nat):Option IntKind:=
 match n with
 |0=>some .i8|1=>some .i16|2=>some .i32|3=>some .i64|4=>some .u8|5=>some .u16|6=>some .u32|7=>some .u64
 |_=>none
class Interp where
 G:Type
 ρ:Nat->Int
 γ:Nat->G
 U:Nat->List (Tc G)->Int
 V:Nat->List (Tc G)->G
 W:Nat->G->G
 W_W:∀k g,W k (W k g)=W k g
 gh:G->Nat->(Nat->Prop)->World->Prop
 gh_lt:∀g r O w,gh g r O w->∀k,O k->k<w.heap.size
 gh_own:∀g r O w,gh g r O w->O r
 gh_keep:∀g r O w w',gh g r O w->w.heap.size<=w'.heap.size->(∀k,O k->w'.heap[k]?=w.heap[k]?)->gh g r O w'
def Oa{G:Type}:Tc G->Int
 | .v (.int _ n)=>n
 | .v (.bool b)=>if b then 1 else 0
 |_=>0
def WN(op:BinOp)(k:IntKind)(x y:Int):Int:=
 let a:=BitVec.ofInt k.bits x;let b:=BitVec.ofInt k.bits y
 match op with
 | .and=>(a&&&b).toNat
 | .or=>(a|||b).toNat
 | .xor=>(a^^^b).toNat
 | .andNot=>(a&&&~~~b).toNat
 |_=>0
def Aq(op:Nat)(l:List Int)(k:IntKind):Int:=
 match op,l with
 |1,[x,y]=>x+y
 |2,[x,y]=>x -y
 |3,[x,y]=>x*y
 |4,[x,y]=>WN .and k x y
 |5,[x,y]=>WN .or k x y
 |6,[x,y]=>WN .xor k x y
 |7,[x,y]=>WN .andNot k x y
 |8,[x,y]=>x*2^(min y.toNat k.bits)
 |9,[x,y]=>x.fdiv (2^(min y.toNat k.bits))
 |10,[x]=>x
 |11,[x,y]=>x.tdiv y
 |12,[x,y]=>x.tmod y
 |16,[x,y]=>if x=y then 1 else 0
 |17,[x,y]=>if x<y then 1 else 0
 |18,[x]=>if x=0 then 1 else 0
 |_,_=>0
def Sm(ρ:Nat->Int)(op:Nat)(l:List Int)(k:IntKind):Int:=
 match op with
 |0=>match l with
  |[i]=>ρ i.toNat
  |_=>0
 |n+1=>Aq (n+1) l k
section
variable[Interp]
def fk(c:Nat)(n:Int):Value:=
 match tY c with
 |some k=> .int k (k.wrap n)
 |none=> .bool (decide (n≠0))
def Bh(t:Nat)(l:List (Tc Interp.G)):Tc Interp.G:=
 match Nat.ble (Nat.mod t 16) 8 with
 |true=> .v (fk (Nat.mod t 16) (match Nat.ble 64 (Nat.div t 16)with
  |true=>Interp.U (Nat.div t 16) l
  |false=>Sm Interp.ρ (Nat.div t 16) (l.map Oa) ((tY (Nat.mod t 16)).getD .i64)))
 |false=> .g (Interp.W (Nat.mod t 16) (match Nat.div t 16,l with
  |0,[x]=>Interp.γ (Oa x).toNat
  |n,l=>Interp.V n l))
mutual
def den:Value->Tc Interp.G
 | .func f a c=>match f with
   | .methodOf t s=>Bh t (jI a)
   |f=> .v (.func f a c)
 |v=> .v v
def jI:Array Value->List (Tc Interp.G)
 |⟨l⟩=>mc l
def mc:List Value->List (Tc Interp.G)
 |[]=>[]
 |x::xs=>den x::mc xs
end
theorem Raj(c:Nat)(n:Int):(∃k m,fk c n= .int k m)\/∃b,fk c n= .bool b:=by
 unfold fk
 split
 . exact .inl ⟨_,_,rfl⟩
 . exact .inr ⟨_,rfl⟩
theorem Qf(t:Nat)(s:String)(l c:Array Value):den (.func (.methodOf t s) l c)=Bh t (jI l):=rfl
theorem JK{t:Nat}{l:List (Tc Interp.G)}{v:Value}(h:Bh t l= .v v):(∃k m,v= .int k m)\/∃b,v= .bool b:=by
 unfold Bh at h
 split at h
 . cases h;exact Raj _ _
 . cases h
end
variable[Interp]
abbrev Mp:=Nat->Option (Nat×Nat)
def Mp.le(R R':Mp):Prop:=∀b x,R b=some x->R' b=some x
theorem Mp.le_refl(R:Mp):R.le R:=fun _ _ h=>h
theorem Mp.le_trans{R S T:Mp}(h:R.le S)(k:S.le T):R.le T:=fun b x e=>k b x (h b x e)
inductive VR(R:Mp):Value->Value->Prop
 |flat (v:Value) (h:Mc v=true):VR R v v
 |sym (t:Nat) (s:String) (l c:Array Value) (v':Value) (h:den (.func (.methodOf t s) l c)= .v v'):VR R (.func (.methodOf t s) l c) v'
 |ptr (b o b' s:Nat) (h:R b=some (b',s)):VR R (.pointer (some ⟨b,o,none⟩)) (.pointer (some ⟨b',o,none⟩))
 |Fz (b o b' s n z c':Nat) (h:R b=some (b',s)) (hz:1<=z) (hc:c'*z+o=s) (hn:n<=c'):VR R (.slice (some ⟨b,o,none⟩) n z) (.slice (some ⟨b',o,none⟩) n c')
 |MQ (b o b' s n z c:Nat) (h:R b=some (b',s)) (hz:1<=z) (hn:n<=c):VR R (.slice (some ⟨b,o,some (c+2)⟩) n z) (.slice (some ⟨b',o,none⟩) n c)
 |dI (a:Addr) (c':Nat):VR R (.slice (some ⟨0,0,some 1⟩) 0 0) (.slice (some a) 0 c')
 |XN (a:Addr):VR R (.slice (some ⟨0,0,none⟩) 0 0) (.slice (some a) 0 0)
 |map (r r' s:Nat) (h:R r=some (r',s)):VR R (.map (some r)) (.map (some r'))
 |fn (f:FuncId) (a a' c c':List Value) (ha:a.length=a'.length) (hc:c.length=c'.length) (h1:∀(i:Nat) (x y:Value),a[i]?=some x->a'[i]?=some y->VR R x y) (h2:∀(i:Nat) (x y:Value),c[i]?=some x->c'[i]?=some y->VR R x y):
   VR R (.func (.func f) ⟨a⟩ ⟨c⟩) (.func (.func f) ⟨a'⟩ ⟨c'⟩)
 |yl (l l' s:Nat) (h:R l=some (l',s)):VR R (.func (.yield l) #[] #[]) (.func (.yield l') #[] #[])
 |Kv (t:TypeId) (v v':Value) (h:VR R v v'):VR R (.iface t v) (.iface t v')
 |agg (l l':List Value) (hs:l.length=l'.length) (h:∀(i:Nat) (x y:Value),l[i]?=some x->l'[i]?=some y->VR R x y):VR R (.agg ⟨l⟩) (.agg ⟨l'⟩)
 |kI (l l':List Value) (hs:l.length=l'.length) (h:∀(i:Nat) (x y:Value),l[i]?=some x->l'[i]?=some y->VR R x y):VR R (.tuple ⟨l⟩) (.tuple ⟨l'⟩)
theorem VR.mono{R R':Mp}(hle:R.le R'){v v':Value}(h:VR R v v'):VR R' v v':=by
 induction h with
 |flat v h=>exact .flat v h
 |sym t s l c v' h=>exact .sym t s l c v' h
 |ptr b o b' s h=>exact .ptr b o b' s (hle _ _ h)
 |Fz b o b' s n z c' h hz hc hn=>exact .Fz b o b' s n z c' (hle _ _ h) hz hc hn
 |MQ b o b' s n z c h hz hn=>exact .MQ b o b' s n z c (hle _ _ h) hz hn
 |dI a c'=>exact .dI a c'
 |XN a=>exact .XN a
 |map r r' s h=>exact .map r r' s (hle _ _ h)
 |fn f a a' c c' ha hc _ _ i1 i2=>exact .fn f a a' c c' ha hc i1 i2
 |yl l l' s h=>exact .yl l l' s (hle _ _ h)
 |Kv t v v' _ ih=>exact .Kv t v v' ih
 |agg l l' hs _ ih=>exact .agg l l' hs ih
 |kI l l' hs _ ih=>exact .kI l l' hs ih
def LR(R:Mp)(l l':List Value):Prop:=l.length=l'.length/\∀(i:Nat) (x y:Value),l[i]?=some x->l'[i]?=some y->VR R x y
theorem LR.mono{R R':Mp}(hle:R.le R'){l l':List Value}(h:LR R l l'):LR R' l l':=⟨h.1,fun i x y a b=>(h.2 i x y a b).mono hle⟩
theorem LR.nil(R:Mp):LR R [] []:=⟨rfl,fun i x y h=>by simp at h⟩
theorem LR.cons{R:Mp}{x y:Value}{l l':List Value}(hx:VR R x y)(h:LR R l l'):LR R (x::l) (y::l'):=
 ⟨by simp [h.1],fun i a b ha hb=>by
   cases i with
   |zero=>simp at ha hb;subst ha;subst hb;exact hx
   |succ i=>exact h.2 i a b (by simpa using ha) (by simpa using hb)⟩
theorem LR.ya{R:Mp}{x:Value}{l m:List Value}(h:LR R (x::l) m):∃y l',m=y::l'/\VR R x y/\LR R l l':=by
 cases m with
 |nil=>have:=h.1;simp at this
 |cons y l'=>exact ⟨y,l',rfl,h.2 0 x y rfl rfl,by simpa using h.1,fun i a b ha hb=>h.2 (i+1) a b (by simpa using ha) (by simpa using hb)⟩
theorem LR.ic{R:Mp}{m:List Value}(h:LR R [] m):m=[]:=by have:=h.1;simpa using this.symm
theorem LR.append{R:Mp}:∀{l l' m m':List Value},LR R l l'->LR R m m'->LR R (l++m) (l'++m')
 |[],l',m,m',h,k=>by rw [h.ic];exact k
 |x::l,l',m,m',h,k=>by
  obtain ⟨y,q,rfl,h1,h2⟩:=h.ya;exact .cons h1 (LR.append h2 k)
theorem LR.take{R:Mp}{l l':List Value}(n:Nat)(h:LR R l l'):LR R (l.take n) (l'.take n):=
 ⟨by simp [h.1],fun i x y a b=>by
   rw [List.getElem?_take]at a b;by_cases hi:i<n
   . rw [if_pos hi]at a b;exact h.2 i x y a b
   . rw [if_neg hi]at a;cases a⟩
theorem LR.drop{R:Mp}{l l':List Value}(n:Nat)(h:LR R l l'):LR R (l.drop n) (l'.drop n):=
 ⟨by simp [h.1],fun i x y a b=>by rw [List.getElem?_drop]at a b;exact h.2 _ x y a b⟩
theorem LR.get{R:Mp}{l l':List Value}(h:LR R l l'){i:Nat}{x:Value}(hx:l[i]?=some x):∃y,l'[i]?=some y/\VR R x y:=by
 have hi:i<l'.length:=by rw [<-h.1];exact (List.getElem?_eq_some_iff.1 hx).1
 exact ⟨l'[i],List.getElem?_eq_getElem hi,h.2 i x _ hx (List.getElem?_eq_getElem hi)⟩
theorem LR.agg{R:Mp}{l l':List Value}(h:LR R l l'):VR R (.agg ⟨l⟩) (.agg ⟨l'⟩):= .agg l l' h.1 h.2
theorem LR.kI{R:Mp}{l l':List Value}(h:LR R l l'):VR R (.tuple ⟨l⟩) (.tuple ⟨l'⟩):= .kI l l' h.1 h.2
theorem Ge(R:Mp):VR R undef undef:=(LR.nil R).kI
theorem LR.flat{R:Mp}{l:List Value}(h:bI l=true):LR R l l:=by
 induction l with
 |nil=>exact .nil R
 |cons x xs ih=>
  simp only [bI]at h;cases hx:Mc x with
  |true=>rw [hx]at h;exact .cons (.flat x hx) (ih h)
  |false=>rw [hx]at h;cases h
theorem Bf(R:Mp){v:Value}(h:Sk.flat v=true):VR R v v:=by
 cases v with
 |agg l=>obtain ⟨l⟩:=l;exact (LR.flat (by simpa [Sk.flat]using h)).agg
 |tuple l=>obtain ⟨l⟩:=l;exact (LR.flat (by simpa [Sk.flat]using h)).kI
 |_=>exact .flat _ (by simpa [Sk.flat]using h)
theorem Ic{R:Mp}{v v':Value}(h:VR R v v')(hf:Mc v=true):v'=v:=by
 cases h with
 |flat v h=>rfl
 |fn f a a' c c' ha hc h1 h2=>
  cases a with
  |nil=>cases c with
   |nil=>cases a' with
    |nil=>cases c' with
     |nil=>rfl
     |cons=>simp at hc
    |cons=>simp at ha
   |cons=>simp [Mc]at hf
  |cons=>simp [Mc]at hf
 |_=>simp [Mc]at hf
theorem LR.nC{R:Mp}:∀{l l':List Value},LR R l l'->bI l=true->l'=l
 |[],l',h,_=>h.ic
 |x::xs,l',h,hf=>by
  obtain ⟨y,q,rfl,h1,h2⟩:=h.ya;simp only [bI]at hf;cases hx:Mc x with
  |true=>rw [hx]at hf;rw [Ic h1 hx,LR.nC h2 hf]
  |false=>rw [hx]at hf;cases hf
theorem Hp{R:Mp}{v v':Value}(h:VR R v v')(hf:Sk.flat v=true):v'=v:=by
 cases v with
 |agg l=>
  cases h with
  |flat v h=>rfl
  |agg l l' hs h=>rw [LR.nC ⟨hs,h⟩ (by simpa [Sk.flat]using hf)]
 |tuple l=>
  cases h with
  |flat v h=>rfl
  |kI l l' hs h=>rw [LR.nC ⟨hs,h⟩ (by simpa [Sk.flat]using hf)]
 |_=>exact Ic h (by simpa [Sk.flat]using hf)
theorem qc{R:Mp}{k:IntKind}{n:Int}{v:Value}(h:VR R (.int k n) v):v= .int k n:=Ic h rfl
theorem Jh{R:Mp}{b:Bool}{v:Value}(h:VR R (.bool b) v):v= .bool b:=Ic h rfl
theorem ji{R:Mp}{b o:Nat}{v:Value}(h:VR R (.pointer (some ⟨b,o,none⟩)) v):∃b' s,R b=some (b',s)/\v= .pointer (some ⟨b',o,none⟩):=by
 cases h with
 |flat v h=>simp [Mc]at h
 |ptr b o b' s h=>exact ⟨b',s,h,rfl⟩
theorem KK{R:Mp}{a:Addr}{v:Value}(h:VR R (.pointer (some a)) v):∃b o b' s,a=⟨b,o,none⟩/\R b=some (b',s)/\v= .pointer (some ⟨b',o,none⟩):=by
 cases h with
 |flat v h=>simp [Mc]at h
 |ptr b o b' s h=>exact ⟨b,o,b',s,rfl,h,rfl⟩
theorem Um{R:Mp}{a:Addr}{n z:Nat}{v:Value}(h:VR R (.slice (some a) n z) v)(hn:0<n):∃b' s c',R a.block=some (b',s)/\v= .slice (some ⟨b',a.off,none⟩) n c'/\n<=c'/\1<=z:=by
 cases h with
 |flat v h=>simp [Mc]at h
 |Fz b o b' s n z c' h hz hc hn=>exact ⟨b',s,c',h,rfl,hn,hz⟩
 |MQ b o b' s n z c h hz hn=>exact ⟨b',s,c,h,rfl,hn,hz⟩
 |dI a c'=>omega
 |XN a=>omega
theorem mi{R:Mp}{l:Array Value}{v:Value}(h:VR R (.agg l) v):∃l',LR R l.toList l'/\v= .agg ⟨l'⟩:=by
 cases h with
 |flat v h=>simp [Mc]at h
 |agg l l' hs h=>exact ⟨l',⟨hs,h⟩,rfl⟩
theorem oC{R:Mp}{l:Array Value}{v:Value}(h:VR R (.tuple l) v):∃l',LR R l.toList l'/\v= .tuple ⟨l'⟩:=by
 cases h with
 |flat v h=>simp [Mc]at h
 |kI l l' hs h=>exact ⟨l',⟨hs,h⟩,rfl⟩
theorem yd(v:Value):Ra v=v.cells.toList:=by cases v<;>rfl
theorem tk{R:Mp}{v v':Value}(h:VR R v v'):LR R (Ra v) (Ra v'):=by
 cases v with
 |agg l=>obtain ⟨l',h1,rfl⟩:=mi h;exact h1
 |_=>
  have h0:=h;cases h<;>first
   |exact .cons h0 (.nil R)
   |(rename_i hd
     rcases JK (by rw [<-Qf];exact hd)with⟨k,m,rfl⟩|⟨b,rfl⟩<;>exact .cons h0 (.nil R))
structure TR(R:Mp)(t:Tm)(a:Array Value):Prop where
 d:t.d=some undef
 n:a.size=t.n
 get:∀i v,t.get i=some v->VR R v (a.getD i undef)
theorem TR.mono{R R':Mp}(hle:R.le R'){t:Tm}{a:Array Value}(h:TR R t a):TR R' t a:=⟨h.d,h.n,fun i v hv=>(h.get i v hv).mono hle⟩
theorem TR.nth{R:Mp}{t:Tm}{a:Array Value}(h:TR R t a)(i:Nat):VR R (nth t i) (a.getD i undef):=by
 unfold Sk.nth;cases hv:t.get i with
 |some v=>exact h.get i v hv
 |none=>
  have:¬i<t.n:=fun hi=>by
   rw [rj]at hv;cases ht:t.tr.get i with
   |some v=>rw [ht]at hv;cases hv
   |none=>rw [ht,h.d]at hv;simp [hi]at hv
  have hs:a.getD i undef=undef:=by
   rw [Array.getD_eq_getD_getElem?,Array.getElem?_eq_none (by rw [h.n];omega)];rfl
  rw [hs];exact Ge R
theorem TR.put{R:Mp}{t:Tm}{a:Array Value}(h:TR R t a){d:Nat}(hd:d<t.n){v v':Value}(hv:VR R v v'):TR R (t.put d v) (a.setIfInBounds d v'):=
 ⟨h.d,by rw [Array.size_setIfInBounds];exact h.n,fun i x hx=>by
   rw [Rm]at hx;by_cases e:i=d
   . subst e;rw [if_pos rfl]at hx;cases hx;rw [Array.getD_eq_getD_getElem?];have:i<a.size:=by rw [h.n];exact hd
     simp [this];exact hv
   . rw [if_neg e]at hx;have:=h.get i x hx;rw [Array.getD_eq_getD_getElem?]at this⊢;rw [Array.getElem?_setIfInBounds_ne (Ne.symm e)];exact this⟩
theorem Qa{R:Mp}{t:Tm}{a:Act}(h:TR R t a.tmps){x:Operand}{v:Value}(hx:ev t x=some v):VR R v (a.eval x):=by
 cases x with
 |tmp i=>simp [ev]at hx;subst hx;exact h.nth i
 |const c=>
  simp only [ev]at hx;cases hf:Sk.flat c with
  |true=>rw [hf]at hx;cases hx;exact Bf R hf
  |false=>rw [hf]at hx;cases hx
 |global g=>simp [ev]at hx
 |func f=>simp [ev]at hx;subst hx;exact .flat _ rfl
theorem Yf{R:Mp}{t:Tm}{a:Act}(h:TR R t a.tmps):∀{xs:List Operand} {l:List Value},KQ t xs=some l->LR R l (xs.map a.eval)
 |[],l,hx=>by simp [KQ]at hx;subst hx;exact .nil R
 |x::xs,l,hx=>by
  simp only [KQ]at hx;cases h1:ev t x with
  |none=>rw [h1]at hx;cases hx
  |some v=>
   cases h2:KQ t xs with
   |none=>rw [h1,h2]at hx;cases hx
   |some q=>rw [h1,h2]at hx;cases hx;exact .cons (Qa h h1) (Yf h h2)
structure Yb(E:Env):Prop where
 fn:∀f fn,E.fn f=some fn->E.P.funcs[f]?=some fn/\(fn.name== "runtime.NumGoroutine")=false
 ty:∀t i,E.ty t=some i->Tae E.P t=some i
 Jz:∀t n f,E.Jz t n=some f->∀v w,(method (E.P.types.size+Made.depth) t v n).run E.P w= .ok (f,v) w
 mixed:E.P.follows .mixedOrders=true
 facts:∀p,p∈E.facts->den p.1=den p.2
 Ju:∀F,(∀p,p∈F->den p.1=den p.2)->∀v c,Wf v=some c->(∃c',Wf (E.Ju F v)=some c')/\den (E.Ju F v)=den v
 oY:∀e o ty v,E.oY e o ty=some v->∀g r O w,den e= .g g->Interp.gh g r O w->∃v',(∃c,Wf v=some c)/\den v= .v v'/\(loadVar ty ⟨r,o,none⟩).run E.P w= .ok v' w
structure Tg(P:Program)(t:TypeId)(i:Ti)(ii:TypeInfo)(d:TypeDesc):Prop where
 info:P.info? t=some ii
 zg:P.underlying t=some d
 eq:i=⟨ii.size,ii.bytes,Jj P d,iI d,zeroOf ii.zero,sY P t d⟩
theorem Yb.is{E:Env}(h:Yb E){t:TypeId}{i:Ti}(ht:E.ty t=some i):∃ii d,Tg E.P t i ii d:=by
 have:=h.ty t i ht;unfold Tae at this;cases h1:E.P.info? t with
 |none=>rw [h1]at this;cases this
 |some ii=>cases h2:E.P.underlying t with
  |none=>rw [h1,h2]at this;cases this
  |some d=>rw [h1,h2]at this;cases this;exact ⟨ii,d,h1,h2,rfl⟩
section
variable{P:Program}{t:TypeId}{i:Ti}{ii:TypeInfo}{d:TypeDesc}
theorem Tg.size(h:Tg P t i ii d):ii.size=i.size:=by rw [h.eq]
theorem Tg.agg(h:Tg P t i ii d):i.agg=iI d:=by rw [h.eq]
theorem Tg.zero(h:Tg P t i ii d){z:Value}(hz:i.zero=some z):ii.zero=some z/\Sk.flat z=true:=by
 rw [h.eq]at hz;unfold zeroOf at hz;cases h1:ii.zero with
 |none=>simp [h1]at hz
 |some v=>
  simp only [h1]at hz;cases h2:Sk.flat v with
  |true=>simp [h2]at hz;subst hz;exact ⟨rfl,h2⟩
  |false=>simp [h2]at hz
theorem Ji{P:Program}{F:Array Field}{x:Ds}(h:Jj P (.struct F)=x)(hx:x≠ .ot):x= .st (fieldsOf P F)/\F.toList.all (fun f=>(P.info? f.type).isSome)=true:=by
 simp only [Jj]at h
 split at h
 . exact ⟨h.symm,‹_›⟩
 . exact absurd h.symm hx
theorem Tg.J3(h:Tg P t i ii d){fs:List (Nat×Nat×TypeId)}(hd:i.ds= .st fs):∃F,d= .struct F/\fs=fieldsOf P F/\F.toList.all (fun f=>(P.info? f.type).isSome)=true:=by
 rw [h.eq]at hd;cases d with
 |struct F=>obtain ⟨h1,h2⟩:=Ji hd (by simp);injection h1 with h1;exact ⟨F,rfl,h1,h2⟩
 |_=>simp [Jj]at hd
theorem Tg.st(h:Tg P t i ii d){fs:List (Nat×Nat×TypeId)}(hd:i.ds= .st fs):∃F,d= .struct F/\fs=fieldsOf P F:=by
 obtain ⟨F,h1,h2,_⟩:=h.J3 hd;exact ⟨F,h1,h2⟩
theorem Tg.ar(h:Tg P t i ii d){n:Nat}{e:TypeId}(hd:i.ds= .ar n e):d= .array n e:=by
 rw [h.eq]at hd;cases d<;>first|(simp [Jj]at hd;done)|(have:=(Ji hd (by simp)).1;cases this;done)|skip
 simp [Jj]at hd;simp [hd]
theorem Tg.sl(h:Tg P t i ii d){e:TypeId}(hd:i.ds= .sl e):d= .slice e:=by
 rw [h.eq]at hd;cases d<;>first|(simp [Jj]at hd;done)|(have:=(Ji hd (by simp)).1;cases this;done)|skip
 simp [Jj]at hd;simp [hd]
theorem Tg.pt(h:Tg P t i ii d){e:TypeId}(hd:i.ds= .pt e):d= .pointer e:=by
 rw [h.eq]at hd;cases d<;>first|(simp [Jj]at hd;done)|(have:=(Ji hd (by simp)).1;cases this;done)|skip
 simp [Jj]at hd;simp [hd]
theorem Tg.mp(h:Tg P t i ii d){k e:TypeId}(hd:i.ds= .mp k e):d= .map k e:=by
 rw [h.eq]at hd;cases d<;>first|(simp [Jj]at hd;done)|(have:=(Ji hd (by simp)).1;cases this;done)|skip
 simp [Jj]at hd;simp [hd]
theorem Tg.it(h:Tg P t i ii d){q:IntKind}(hd:i.ds= .it q):d= .int q:=by
 rw [h.eq]at hd;cases d<;>first|(simp [Jj]at hd;done)|(have:=(Ji hd (by simp)).1;cases this;done)|skip
 simp [Jj]at hd;rw [hd]
theorem Tg.Kv(h:Tg P t i ii d)(hd:i.ds= .Kv):∃k,d= .interface k:=by
 rw [h.eq]at hd;cases d<;>first|(simp [Jj]at hd;done)|(have:=(Ji hd (by simp)).1;cases this;done)|skip
 simp [Jj]at hd;exact ⟨_,rfl⟩
theorem Tg.fn(h:Tg P t i ii d)(hd:i.ds= .fn):∃a b c,d= .func a b c:=by
 rw [h.eq]at hd;cases d<;>first|(simp [Jj]at hd;done)|(have:=(Ji hd (by simp)).1;cases this;done)|skip
 simp [Jj]at hd;exact ⟨_,_,_,rfl⟩
theorem Tg.str(h:Tg P t i ii d)(hd:i.ds= .str):d= .string:=by
 rw [h.eq]at hd;cases d<;>first|(simp [Jj]at hd;done)|(have:=(Ji hd (by simp)).1;cases this;done)|skip
 simp [Jj]at hd;rfl
theorem Tg.Uae(h:Tg P t i ii d)(hd:i.ds≠ .Kv):∀k,d≠ .interface k:=fun k e=>by
 rw [h.eq,e]at hd;exact hd rfl
theorem eb(w:World)(h:P.underlying t=some d):(underlying t).run P w= .ok d w:=by simp [underlying,h,go_sem]
theorem pR(w:World)(h:P.info? t=some ii):(typeInfo t).run P w= .ok ii w:=by simp [typeInfo,h,go_sem]
theorem Hd(w:World)(h:P.info? t=some ii):(Go.sizeOf t).run P w= .ok ii.size w:=by simp [Go.sizeOf,h,go_sem,pR]
theorem Bq(w:World)(h:P.info? t=some ii){z:Value}(hz:ii.zero=some z):(zeroValue t).run P w= .ok z w:=by simp [zeroValue,h,go_sem,pR,hz]
theorem qo(w:World)(h:P.underlying t=some d):(isAgg t).run P w= .ok (iI d) w:=by
 cases d<;>simp [isAgg,go_sem,eb w h,iI]
end
theorem Zv{P:Program}{F:Array Field}{k:Nat}{f:Nat×Nat×TypeId}(h:Xf (fieldsOf P F) k=some f):∃g,F[k]?=some g/\f=(g.offset,P.cellsOf g.type,g.type):=by
 rw [Pc,fieldsOf,List.getElem?_map]at h;cases hg:F.toList[k]?with
 |none=>rw [hg]at h;cases h
 |some g=>rw [hg]at h;cases h;exact ⟨g,by simpa using hg,rfl⟩
theorem pC{P:Program}{t:TypeId}{n:Nat}(h:P.cellsOf t=n+1):∃ii,P.info? t=some ii/\ii.size=n+1:=by
 unfold Program.cellsOf at h;cases hi:P.info? t with
 |none=>rw [hi]at h;cases h
 |some ii=>rw [hi]at h;exact ⟨ii,rfl,h⟩
theorem lI{E:Env}(hE:Yb E){R:Mp}{t:TypeId}{l l':List Value}{o:Nat}{v:Value}(hl:LR R l l')(h:E.part t l o=some v):
  ∃v',VR R v v'/\∀w,(_root_.Go.part t ⟨l'⟩ o).run E.P w= .ok v' w:=by
 unfold Env.part at h;cases hi:E.ty t with
 |none=>rw [hi]at h;cases h
 |some i=>
  obtain ⟨ii,d,hT⟩:=hE.is hi;rw [hi]at h;simp only at h;cases ha:i.agg with
  |true=>
   rw [ha]at h;simp only [Nv]at h;cases hk:takeN i.size (Jv o l)with
   |none=>rw [hk]at h;cases h
   |some q=>
    rw [hk]at h;cases h;obtain ⟨_,rfl⟩:=IE _ _ _ hk;refine ⟨.agg ⟨(l'.drop o).take i.size⟩,(LR.take _ (by rw [JE];exact hl.drop o)).agg,fun w=> ?_⟩;have:=qo (P:=E.P) (t:=t) w hT.zg;rw [<-hT.agg,ha]at this;simp [_root_.Go.part,go_sem,this,Hd w hT.info];rw [hT.size]
  |false=>
   rw [ha]at h;simp only [Pc]at h;obtain ⟨y,hy,hv⟩:=hl.get h;refine ⟨y,hv,fun w=> ?_⟩;have:=qo (P:=E.P) (t:=t) w hT.zg;rw [<-hT.agg,ha]at this;simp [_root_.Go.part,go_sem,this,hy]
end Sk
end Go.Proofs.YtfnkmolffhfpoaaGreat
namespace Go.Proofs.YtfnkmolffhfpoaaGreat
namespace Sk
variable[Interp]
theorem je(k:IntKind):tY (Hc k)=some k:=by cases k<;>rfl
theorem Ag(k:IntKind):Hc k<=7:=by cases k<;>decide
theorem qC{c:Nat}(h:c<=7):∃k,tY c=some k/\Hc k=c:=by
 have:c=0\/c=1\/c=2\/c=3\/c=4\/c=5\/c=6\/c=7:=by omega
 rcases this with rfl|rfl|rfl|rfl|rfl|rfl|rfl|rfl<;>exact ⟨_,rfl,rfl⟩
theorem pd(k:IntKind)(n:Int):fk (Hc k) n= .int k (k.wrap n):=by unfold fk;rw [je]
theorem Dd(n:Int):fk 8 n= .bool (decide (n≠0)):=rfl
theorem wrap_wrap(k:IntKind)(n:Int):k.wrap (k.wrap n)=k.wrap n:=by
 cases k<;>simp only [IntKind.wrap,IntKind.bits,IntKind.signed]<;>simp<;>(try split)<;>(try split)<;>omega
mutual
theorem Hf:∀(d:Nat) (a b:Value),re d a b=true->den a=den b
 |0,a,b,h=>by simp [re]at h
 |d+1,a,b,h=>by
  simp only [re]at h
  split at h
  . rename_i t s l c u s' m c'
    split at h
    . rename_i hb;rw [Va]at hb;have:=of_decide_eq_true hb;subst this;rw [Qf,Qf];exact congrArg (Bh t) (aw d l m h)
    . cases h
  . rename_i k a k' b
    split at h
    . rename_i hb;have:=Zb hb;subst this;rw [Sd]at h;rw [of_decide_eq_true h]
    . cases h
  . rename_i a b;cases a<;>cases b<;>first|rfl|(cases h;done)
  . cases h
theorem aw:∀(d:Nat) (l m:List Value),Ep d l m=true->mc l=mc m
 |0,l,m,h=>by cases l<;>cases m<;>simp [Ep]at h
 |d+1,[],[],h=>rfl
 |d+1,[],y::ys,h=>by simp [Ep]at h
 |d+1,x::xs,[],h=>by simp [Ep]at h
 |d+1,x::xs,y::ys,h=>by
  simp only [Ep]at h
  split at h
  . rename_i h1;simp only [mc];rw [Hf d x y h1,aw d xs ys h]
  . cases h
end
theorem EA(v:Value):∀(l:List (Value×Value)),(∀p,p∈l->den p.1=den p.2)->den (findF v l)=den v
 |[],_=>rfl
 |p::ps,h=>by
  simp only [findF]
  split
  . rename_i hs;rw [Hf 60 v p.1 hs];exact (h p (List.mem_cons_self ..)).symm
  . exact EA v ps fun q hq=>h q (List.mem_cons_of_mem _ hq)
theorem K3{t:Nat}{s:String}{l c:Array Value}{k:Nat}(h:Wf (.func (.methodOf t s) l c)=some k):k=t %16/\t %16<=8:=by
 simp only [Wf]at h
 split at h
 . rename_i hb;cases h;exact ⟨rfl,of_decide_eq_true (by rw [<-xd];exact hb)⟩
 . cases h
def Sc(c:Nat)(v:Value):Prop:=(∃k n,v= .int k n/\c=Hc k)\/(c=8/\∃b,v= .bool b)
theorem Bl{t:Nat}(l:List (Tc Interp.G))(h:t %16<=8):Bh t l= .v (fk (t %16) (match Nat.ble 64 (t/16)with|true=>Interp.U (t/16) l|false=>Sm Interp.ρ (t/16) (l.map Oa) ((tY (t %16)).getD .i64))):=by
 have:Nat.ble (Nat.mod t 16) 8=true:=by rw [xd];exact decide_eq_true h
 unfold Bh;rw [this];rfl
theorem Saj{c:Nat}(h:c<=8)(n:Int):Sc c (fk c n):=by
 by_cases h8:c=8
 . subst h8;exact .inr ⟨rfl,_,Dd n⟩
 . obtain ⟨k,h1,h2⟩:=qC (c:=c) (by omega);subst h2;exact .inl ⟨k,_,pd k n,rfl⟩
theorem Zr{a:Value}{c:Nat}(hc:Wf a=some c):∃a',den a= .v a'/\Sc c a':=by
 cases a with
 |int k n=>simp [Wf]at hc;subst hc;exact ⟨_,rfl, .inl ⟨k,n,rfl,rfl⟩⟩
 |bool b=>simp [Wf]at hc;subst hc;exact ⟨_,rfl, .inr ⟨rfl,b,rfl⟩⟩
 |func f l q=>cases f with
  |methodOf t s=>
   obtain ⟨rfl,h2⟩:=K3 hc;rw [Qf,Bl _ h2];exact ⟨_,rfl,Saj h2 _⟩
  |_=>simp [Wf]at hc
 |_=>simp [Wf]at hc
theorem js{R:Mp}{a a':Value}(h:VR R a a'){c:Nat}(hc:Wf a=some c):den a= .v a':=by
 cases h with
 |flat _ h=>cases a<;>first|rfl|(simp [Wf]at hc;done)|(rename_i f l q;cases f<;>first|rfl|(simp [Mc]at h))
 |sym t s l q v' h=>exact h
 |_=>simp [Wf]at hc
theorem Yc(R:Mp){a a':Value}{c:Nat}(hc:Wf a=some c)(h:den a= .v a'):VR R a a':=by
 cases a with
 |int k n=>cases h;exact .flat _ rfl
 |bool b=>cases h;exact .flat _ rfl
 |func f l q=>cases f with
  |methodOf t s=>exact .sym t s l q a' h
  |_=>simp [Wf]at hc
 |_=>simp [Wf]at hc
theorem Qi{R:Mp}{a a':Value}(h:VR R a a'){c:Nat}(hc:Wf a=some c):den a= .v a'/\Sc c a':=by
 obtain ⟨x,h1,h2⟩:=Zr hc;have:=js h hc;rw [h1]at this;cases this;exact ⟨h1,h2⟩
theorem Sc.int{c:Nat}{v:Value}(h:Sc c v)(hc:c<=7):∃k n,v= .int k n/\c=Hc k:=by
 rcases h with h|⟨rfl,_⟩
 . exact h
 . omega
theorem Sc.bool{v:Value}(h:Sc 8 v):∃b,v= .bool b:=by
 rcases h with⟨k,n,rfl,h⟩|⟨_,h⟩
 . have:=Ag k;omega
 . exact h
theorem ew{F:List (Value×Value)}{v:Value}{c:Nat}(h:Wf v=some c):∃c',Wf (Nt F v)=some c':=by
 unfold Nt;cases hk:Wf (findF v F)with
 |some k=>exact ⟨k,by simp only [hk]⟩
 |none=>exact ⟨c,by simp only [hk];exact h⟩
theorem so{F:List (Value×Value)}(hF:∀p,p∈F->den p.1=den p.2)(v:Value):den (Nt F v)=den v:=by
 unfold Nt;simp only
 split
 . exact EA v F hF
 . rfl
theorem uY{E:Env}(hE:Yb E){v:Value}{c:Nat}(h:Wf v=some c):∃c',Wf (E.norm v)=some c':=by
 obtain ⟨⟨c',h1⟩,_⟩:=hE.Ju E.facts hE.facts v c h;exact ew h1
theorem ME{E:Env}(hE:Yb E){v:Value}{c:Nat}(h:Wf v=some c):den (E.norm v)=den v:=by
 obtain ⟨_,h2⟩:=hE.Ju E.facts hE.facts v c h;unfold Env.norm;rw [so hE.facts,h2]
theorem PE{t:Nat}(l:List Value)(h:t %16<=8):Wf (sy t l)=some (t %16):=by
 have:Nat.ble (Nat.mod t 16) 8=true:=by rw [xd];exact decide_eq_true h
 unfold sy;simp only [Wf];rw [this];rfl
theorem Ch{n k:Nat}(hk:k<=8)(hn:n<64)(l:List Value):den (sy (16*n+k) l)= .v (fk k (Sm Interp.ρ n ((mc l).map Oa) ((tY k).getD .i64))):=by
 have e1:(16*n+k) %16=k:=by omega
 have e2:(16*n+k)/16=n:=by omega
 unfold sy;rw [Qf,Bl _ (by omega),e1,e2];have:Nat.ble 64 n=false:=by rw [xd];exact decide_eq_false (by omega)
 rw [this];rfl
theorem qR{n k:Nat}(hk:k<=8)(l:List Value):Wf (sy (16*n+k) l)=some k:=by
 have e1:(16*n+k) %16=k:=by omega
 rw [PE _ (by omega),e1]
end Sk
end Go.Proofs.YtfnkmolffhfpoaaGreat
