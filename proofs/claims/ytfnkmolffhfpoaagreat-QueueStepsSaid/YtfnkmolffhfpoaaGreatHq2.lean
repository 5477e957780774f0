/- -/
import Derived.Test.YtfnkmolffhfpoaaGreatHq1
import Derived.RowKit
import Derived.WalkKit
import Derived.Laws.Cells
import Derived.Laws.Tables
import Derived.Laws.StructEq
import Derived.Great.BuildSlice
import Derived.ChangeKeysEq
set_option linter.unusedVariables false
set_option linter.unusedSimpArgs false
set_option linter.unusedSectionVars false
namespace Go.Proofs.YtfnkmolffhfpoaaGreat
namespace Sk
theorem Na(a b:Nat):Nat.beq a b=decide (a=b):=by rw [Bool.eq_iff_iff];simp [Nat.beq_eq]
theorem yd(a b:Nat):Nat.ble a b=decide (a<=b):=by rw [Bool.eq_iff_iff];simp
theorem ql{β:Sort _}(n:Nat)(k:Nat->β):cq n k=k n:=by cases n<;>rfl
theorem KL{β:Sort _}(v:Value)(k:Value->β):CG v k=k v:=by
 cases v with
 |pointer a=>cases a with|none=>rfl|some a=>obtain ⟨b,o,s⟩:=a;simp [CG,ql]
 |_=>rfl
theorem di{β:Sort _}(v:Value)(k:Value->β):ek v k=k v:=by
 cases v with
 |int q n=>cases n<;>simp [ek,ql]
 |bool b=>cases b<;>rfl
 |pointer a=>cases a with|none=>rfl|some a=>obtain ⟨b,o,s⟩:=a;simp [ek,ql]
 |slice a n c=>cases a with|none=>rfl|some a=>obtain ⟨b,o,s⟩:=a;simp [ek,ql]
 |iface t v=>simp [ek,KL]
 |_=>rfl
theorem Lr{β:Sort _}:∀(l:List Value) (k:List Value->β),Uu l k=k l
 |[],k=>rfl
 |x::xs,k=>by simp [Uu,di,Lr xs]
theorem Bk{β:Sort _}(v:Value)(k:Value->β):jl v k=k v:=by
 cases v with
 |agg l=>obtain ⟨l⟩:=l;simp [jl,Lr]
 |tuple l=>obtain ⟨l⟩:=l;simp [jl,Lr]
 |_=>simp [jl,di]
theorem Ec{α:Type}:∀(l:List α) (n:Nat),Rf l n=l[n]?
 |[],n=>by simp [Rf]
 |x::xs,0=>by simp [Rf]
 |x::xs,n+1=>by simp [Rf,Ec xs n]
theorem cd{α:Type}:∀l:List α,Ue l=l.length
 |[]=>rfl
 |_::xs=>by simp [Ue,cd xs]
theorem rD:∀(n:Nat) (l r:List Value),takeN n l=some r->n<=l.length/\r=l.take n
 |0,l,r,h=>by simp [takeN]at h;simp [h]
 |n+1,[],r,h=>by simp [takeN]at h
 |n+1,x::xs,r,h=>by
  simp only [takeN]at h;cases hr:takeN n xs with
  |none=>simp [hr]at h
  |some l=>
   simp [hr]at h;have:=rD n xs l hr;simp [<-h,this.2];exact this.1
theorem sD:∀(n:Nat) (l:List Value),Vu n l=l.drop n
 |0,l=>by simp [Vu]
 |n+1,[]=>by simp [Vu]
 |n+1,x::xs=>by simp [Vu,sD n xs]
theorem iJ:∀(c l r:List Value),over c l=some r->l.length<=c.length/\r=l++c.drop l.length
 |c,[],r,h=>by simp [over]at h;simp [h]
 |[],x::l,r,h=>by simp [over]at h
 |y::c,x::l,r,h=>by
  simp only [over]at h;cases hr:over c l with
  |none=>simp [hr]at h
  |some q=>
   simp [hr]at h;have:=iJ c l q hr;simp [<-h,this.2];exact this.1
theorem Mr:∀(n:Nat) (c l r:List Value),Hm n c l=some r->n+l.length<=c.length/\r=c.take n++l++c.drop (n+l.length)
 |0,c,l,r,h=>by
  have:=iJ c l r (by simpa [Hm]using h);simp [this.2];exact this.1
 |n+1,[],l,r,h=>by simp [Hm]at h
 |n+1,x::c,l,r,h=>by
  simp only [Hm]at h;cases hr:Hm n c l with
  |none=>simp [hr]at h
  |some q=>
   simp [hr]at h;have:=Mr n c l q hr;constructor
   . simp;omega
   . rw [<-h,this.2,show n+1+l.length=(n+l.length)+1 by omega];simp
theorem Aa(a b:Bool):Ra a b=(a&&b):=by cases a<;>rfl
theorem rl(a b:Bool):mD a b=(a||b):=by cases a<;>rfl
theorem Ae(a:Bool):Qh a= !a:=by cases a<;>rfl
theorem Ck(a b:Bool):Yu a b=(a==b):=by cases a<;>cases b<;>rfl
theorem pq{α:Type}(p:α->Bool):∀l:List α,qy p l=l.all p
 |[]=>rfl
 |x::xs=>by cases h:p x<;>simp [qy,h,pq p xs]
theorem Ce(a b:Int):Pg a b=decide (a=b):=by
 cases a with
 |ofNat a=>cases b with
  |ofNat b=>
   simp only [Pg,Na,decide_eq_decide];exact ⟨fun h=>by rw [h],fun h=>Int.ofNat.inj h⟩
  |negSucc b=>simp [Pg]
 |negSucc a=>cases b with
  |ofNat b=>simp [Pg]
  |negSucc b=>simp only [Pg,Na,decide_eq_decide];exact ⟨fun h=>by rw [h],fun h=>Int.negSucc.inj h⟩
theorem lB(a b:Int):fO a b=decide (a<=b):=by
 cases a with
 |ofNat a=>cases b with
  |ofNat b=>simp only [fO];rw [Bool.eq_iff_iff];simp
  |negSucc b=>simp only [fO];rw [Bool.eq_iff_iff];simp;omega
 |negSucc a=>cases b with
  |ofNat b=>simp only [fO];rw [Bool.eq_iff_iff];simp;omega
  |negSucc b=>simp only [fO];rw [Bool.eq_iff_iff];simp;omega
theorem Qb{a b:IntKind}(h:Nat.beq (jc a) (jc b)=true):a=b:=by
 cases a<;>cases b<;>first|rfl|(simp [jc]at h)
theorem Mm(k:IntKind)(n:Int):Mo k n=k.wrap n:=by
 cases k<;>cases n<;>simp only [Mo]
 all_goals
  split
  . rename_i h;simp at h;simp only [IntKind.wrap,IntKind.bits,IntKind.signed]
    first|omega|(simp;omega)
  . rfl
theorem nd{α:Type}(l r:Tr α)(v:Option α)(n:Nat):(Tr.node l v r).get n=match n with|0=>v|m+1=>if m %2=0 then l.get (m/2)else r.get (m/2):=by
 cases n with
 |zero=>simp [Tr.fq]
 |succ m=>
  simp only [Tr.fq];have:Nat.beq (Nat.mod m 2) 0=decide (m %2=0):=by rw [Na];rfl
  rw [this];by_cases h:m %2=0<;>simp [h]<;>rfl
def Tr.put{α:Type}:Nat->Tr α->Nat->Option α->Tr α
 |0,t,_,_=>t
 |f+1,t,n,x=>
  match t with
  | .nil=>match n with
    |0=> .node .nil x .nil
    |m+1=>if m %2=0 then .node (Tr.put f .nil (m/2) x) none .nil else .node .nil none (Tr.put f .nil (m/2) x)
  | .node l v r=>match n with
    |0=> .node l x r
    |m+1=>if m %2=0 then .node (Tr.put f l (m/2) x) v r else .node l v (Tr.put f r (m/2) x)
theorem Vn{α:Type}{β:Sort _}:∀(f:Nat) (t:Tr α) (n:Nat) (x:Option α) (k:Tr α->β),Tr.Qd f t n x k=k (Tr.put f t n x)
 |0,t,n,x,k=>rfl
 |f+1,t,n,x,k=>by
  have hb:∀m,Nat.beq (Nat.mod m 2) 0=decide (m %2=0):=fun m=>by rw [Na];rfl
  have hd:∀m,Nat.div m 2=m/2:=fun m=>rfl
  cases t with
  |nil=>
   cases n with
   |zero=>simp [Tr.gq,Tr.Rn,Tr.put]
   |succ m=>
    simp only [Tr.gq,Tr.Rn,Tr.put,hb,hd];by_cases h:m %2=0<;>simp [h,Vn f]
  |node l v r=>
   cases n with
   |zero=>simp [Tr.gq,Tr.Rn,Tr.put]
   |succ m=>
    simp only [Tr.gq,Tr.Rn,Tr.put,hb,hd];by_cases h:m %2=0<;>simp [h,Vn f]
theorem Rh{α:Type}:∀(f:Nat) (t:Tr α) (n:Nat) (x:Option α) (j:Nat),n<f->(Tr.put f t n x).get j=if j=n then x else t.get j
 |0,t,n,x,j,h=>absurd h (Nat.not_lt_zero _)
 |f+1,t,n,x,j,h=>by
  cases t with
  |nil=>
   cases n with
   |zero=>cases j with
    |zero=>simp [Tr.put,Tr.get_nil,nd]
    |succ j=>simp only [Tr.put,nd];simp [Tr.get_nil]
   |succ m=>
    have ih:=fun i=>Rh f (Tr.nil:Tr α) (m/2) x i (by omega)
    simp only [Tr.put];cases j with
    |zero=>split<;>simp [nd,Tr.get_nil]
    |succ i=>
     split<;>rename_i hm
     . rw [nd];simp only [Tr.get_nil]at ih⊢;by_cases hi:i %2=0
       . simp only [hi,if_true,ih];by_cases e:i=m
         . subst e;simp
         . rw [if_neg (by omega),if_neg (by omega)]
       . simp only [hi,if_false];rw [if_neg (by omega)]
     . rw [nd];simp only [Tr.get_nil]at ih⊢;by_cases hi:i %2=0
       . simp only [hi,if_true];rw [if_neg (by omega)]
       . simp only [hi,if_false,ih];by_cases e:i=m
         . subst e;simp
         . rw [if_neg (by omega),if_neg (by omega)]
  |node l v r=>
   cases n with
   |zero=>cases j<;>simp [Tr.put,nd]
   |succ m=>
    have ihl:=fun i=>Rh f l (m/2) x i (by omega)
    have ihr:=fun i=>Rh f r (m/2) x i (by omega)
    simp only [Tr.put];cases j with
    |zero=>split<;>simp [nd]
    |succ i=>
     split<;>rename_i hm
     . rw [nd,nd];by_cases hi:i %2=0
       . simp only [hi,if_true,ihl];by_cases e:i=m
         . subst e;simp
         . rw [if_neg (by omega),if_neg (by omega)]
       . simp only [hi,if_false];rw [if_neg (by omega)]
     . rw [nd,nd];by_cases hi:i %2=0
       . simp only [hi,if_true];rw [if_neg (by omega)]
       . simp only [hi,if_false,ihr];by_cases e:i=m
         . subst e;simp
         . rw [if_neg (by omega),if_neg (by omega)]
def Row.put(r:Row)(i:Nat)(v:Value):Row:=⟨r.n,r.d,Tr.put (i+1) r.tr i (some v)⟩
theorem Dk{β:Type}(r:Row)(i:Nat)(v:Value)(k:Row->Option β):r.Qd i v k=if i<r.n then k (r.put i v)else none:=by
 obtain ⟨n,d,t⟩:=r;simp only [Row.Qd,Row.put,Vn];by_cases h:i<n
 . have:Nat.ble (Nat.succ i) n=true:=by rw [yd];exact decide_eq_true (by omega)
   simp only [this,h,if_true]
 . have:Nat.ble (Nat.succ i) n=false:=by rw [yd];exact decide_eq_false (by omega)
   simp only [this,h,if_false]
theorem Qi(r:Row)(i:Nat):r.get i=match r.tr.get i with|some v=>some v|none=>if i<r.n then r.d else none:=by
 unfold Row.get;cases r.tr.get i with
 |some v=>rfl
 |none=>
  by_cases h:i<r.n
  . have:Nat.ble (Nat.succ i) r.n=true:=by rw [yd];exact decide_eq_true (by omega)
    simp only [this,h,if_true]
  . have:Nat.ble (Nat.succ i) r.n=false:=by rw [yd];exact decide_eq_false (by omega)
    simp only [this,h,if_false]
theorem Om(r:Row)(i:Nat)(v:Value)(j:Nat):(r.put i v).get j=if j=i then some v else r.get j:=by
 rw [Qi,Qi,Row.put];simp only [Rh (i+1) r.tr i (some v) j (by omega)];by_cases h:j=i<;>simp [h]
def Row.Dh(r:Row)(o:Nat):List Value->Row
 |[]=>r
 |v::l=>(r.put o v).Dh (o+1) l
theorem tl(l:List Value):∀(r:Row) (o:Nat),(r.Dh o l).n=r.n/\(r.Dh o l).d=r.d:=by
 induction l with
 |nil=>intro r o;exact ⟨rfl,rfl⟩
 |cons v l ih=>intro r o;simp only [Row.Dh];rw [(ih _ _).1,(ih _ _).2];exact ⟨rfl,rfl⟩
theorem qq{β:Type}(l:List Value):∀(r:Row) (o:Nat) (k:Row->Option β) (x:β),r.WA o l k=some x->o+l.length<=r.n\/l=[]:=by
 induction l with
 |nil=>intro r o k x h;exact .inr rfl
 |cons v l ih=>
  intro r o k x h;simp only [Row.WA,di,Dk]at h;by_cases hi:o<r.n
  . rw [if_pos hi]at h;left;rcases ih _ _ _ _ h with h'|h'
    . have:(r.put o v).n=r.n:=rfl
      rw [this]at h';simp;omega
    . subst h';simp;omega
  . rw [if_neg hi]at h;cases h
theorem Ri{β:Type}(l:List Value):∀(r:Row) (o:Nat) (k:Row->Option β) (x:β),r.WA o l k=some x->k (r.Dh o l)=some x:=by
 induction l with
 |nil=>intro r o k x h;exact h
 |cons v l ih=>
  intro r o k x h;simp only [Row.WA,di,Dk]at h;by_cases hi:o<r.n
  . rw [if_pos hi]at h;exact ih _ _ _ _ h
  . rw [if_neg hi]at h;cases h
theorem mB(l:List Value):∀(r:Row) (o j:Nat),(r.Dh o l).get j=if o<=j/\j<o+l.length then l[j -o]?else r.get j:=by
 induction l with
 |nil=>intro r o j;simp [Row.Dh];omega
 |cons v l ih=>
  intro r o j;simp only [Row.Dh,ih,Om];by_cases e:j=o
  . subst e;rw [if_neg (by omega),if_pos (by simp)];simp
  . by_cases h:o+1<=j/\j<o+1+l.length
    . rw [if_pos h,if_pos (by simp;omega),show j -o=(j -(o+1))+1 by omega];simp
    . rw [if_neg h,if_neg e,if_neg (by simp;omega)]
def Row.app(r:Row):List Value->Row
 |[]=>r
 |v::l=>Row.app ⟨r.n+1,r.d,Tr.put (r.n+1) r.tr r.n (some v)⟩ l
theorem Si{β:Type}(l:List Value):∀(r:Row) (k:Row->Option β),r.ext l k=k (r.app l):=by
 induction l with
 |nil=>intro r k;rfl
 |cons v l ih=>intro r k;obtain ⟨n,d,t⟩:=r;simp only [Row.ext,di,ql,Vn];rw [ih];rfl
theorem De(l:List Value):∀r:Row,(r.app l).n=r.n+l.length/\(r.app l).d=r.d:=by
 induction l with
 |nil=>intro r;exact ⟨rfl,rfl⟩
 |cons v l ih=>intro r;simp only [Row.app];rw [(ih _).1,(ih _).2];simp;omega
theorem Ui(l:List Value):∀(r:Row) (hd:r.d=none) (j:Nat),(r.app l).get j=if r.n<=j/\j<r.n+l.length then l[j -r.n]?else r.get j:=by
 induction l with
 |nil=>intro r hd j;simp [Row.app];omega
 |cons v l ih=>
  intro r hd j;simp only [Row.app];rw [ih _ (by simpa using hd)];simp only [Qi,Rh (r.n+1) r.tr r.n (some v) _ (by omega),hd];by_cases e:j=r.n
  . subst e;rw [if_neg (by omega),if_pos (by simp)];simp
  . by_cases h:r.n+1<=j/\j<r.n+1+l.length
    . rw [if_pos h,if_pos (by simp;omega),show j -r.n=(j -(r.n+1))+1 by omega];simp
    . have h2:¬(r.n<=j/\j<r.n+(v::l).length):=by simp only [List.length_cons];omega
      rw [if_neg h,if_neg e,if_neg h2];cases r.tr.get j<;>simp
theorem tD(m:Nat):∀(r:Row) (o:Nat) (l:List Value),r.from o m=some l->l.length=m/\∀j,j<m->r.get (o+j)=l[j]?:=by
 induction m with
 |zero=>intro r o l h;simp [Row.from]at h;subst h;exact ⟨rfl,fun j hj=>absurd hj (Nat.not_lt_zero _)⟩
 |succ m ih=>
  intro r o l h;simp only [Row.from]at h;cases hv:r.get o with
  |none=>simp [hv]at h
  |some v=>
   cases hl:r.from (Nat.succ o) m with
   |none=>simp [hv,hl]at h
   |some q=>
    simp [hv,hl]at h;obtain ⟨h1,h2⟩:=ih r (o+1) q hl;subst h;refine ⟨by simp [h1],fun j hj=> ?_⟩;cases j with
    |zero=>simpa using hv
    |succ j=>have:=h2 j (by omega);rw [show o+(j+1)=o+1+j by omega];simpa using this
inductive Qc(G:Type) where
 |v(x:Value)
 |g(x:G)
def IU(n:Nat):Option IntKind:=
 match n with
 |0=>some .i8|1=>some .i16|2=>some .i32|3=>some .i64|4=>some .u8|5=>some .u16|6=>some .u32|7=>some .u64
 |_=>none
class Interp where
 G:Type
 ρ:Nat->Int
 γ:Nat->G
 U:Nat->List (Qc G)->Int
 V:Nat->List (Qc G)->G
 W:Nat->G->G
 W_W:∀k g,W k (W k g)=W k g
 gh:G->Nat->(Nat->Prop)->World->Prop
 gh_lt:∀g r O w,gh g r O w->∀k,O k->k<w.heap.size
 gh_own:∀g r O w,gh g r O w->O r
 gh_keep:∀g r O w w',gh g r O w->w.heap.size<=w'.heap.size->(∀k,O k->w'.heap[k]?=w.heap[k]?)->gh g r O w'
def Ma{G:Type}:Qc G->Int
 | .v (.int _ n)=>n
 | .v (.bool b)=>if b then 1 else 0
 |_=>0
def LL(op:BinOp)(k:IntKind)(x y:Int):Int:=
 let a:=BitVec.ofInt k.bits x;let b:=BitVec.ofInt k.bits y
 match op with
 | .and=>(a&&&b).toNat
 | .or=>(a|||b).toNat
 | .xor=>(a^^^b).toNat
 | .andNot=>(a&&&~~~b).toNat
 |_=>0
def rq(op:Nat)(l:List Int)(k:IntKind):Int:=
 match op,l with
 |1,[x,y]=>x+y
 |2,[x,y]=>x -y
 |3,[x,y]=>x*y
 |4,[x,y]=>LL .and k x y
 |5,[x,y]=>LL .or k x y
 |6,[x,y]=>LL .xor k x y
 |7,[x,y]=>LL .andNot k x y
 |8,[x,y]=>x*2^(min y.toNat k.bits)
 |9,[x,y]=>x.fdiv (2^(min y.toNat k.bits))
 |10,[x]=>x
 |11,[x,y]=>x.tdiv y
 |12,[x,y]=>x.tmod y
 |16,[x,y]=>if x=y then 1 else 0
 |17,[x,y]=>if x<y then 1 else 0
 |18,[x]=>if x=0 then 1 else 0
 |_,_=>0
def Pm(ρ:Nat->Int)(op:Nat)(l:List Int)(k:IntKind):Int:=
 match op with
 |0=>match l with
  |[i]=>ρ i.toNat
  |_=>0
 |n+1=>rq (n+1) l k
section
variable[Interp]
def fk(c:Nat)(n:Int):Value:=
 match IU c with
 |some k=> .int k (k.wrap n)
 |none=> .bool (decide (n≠0))
def ni(t:Nat)(l:List (Qc Interp.G)):Qc Interp.G:=
 match Nat.ble (Nat.mod t 16) 8 with
 |true=> .v (fk (Nat.mod t 16) (match Nat.ble 64 (Nat.div t 16)with
  |true=>Interp.U (Nat.div t 16) l
  |false=>Pm Interp.ρ (Nat.div t 16) (l.map Ma) ((IU (Nat.mod t 16)).getD .i64)))
 |false=> .g (Interp.W (Nat.mod t 16) (match Nat.div t 16,l with
  |0,[x]=>Interp.γ (Ma x).toNat
  |n,l=>Interp.V n l))
mutual
def den:Value->Qc Interp.G
 | .func f a c=>match f with
   | .methodOf t s=>ni t (KG a)
   |f=> .v (.func f a c)
 |v=> .v v
def KG:Array Value->List (Qc Interp.G)
 |⟨l⟩=>Tb l
def Tb:List Value->List (Qc Interp.G)
 |[]=>[]
 |x::xs=>den x::Tb xs
end
theorem Tac(c:Nat)(n:Int):(∃k m,fk c n= .int k m)\/∃b,fk c n= .bool b:=by
 unfold fk
 split
 . exact .inl ⟨_,_,rfl⟩
 . exact .inr ⟨_,rfl⟩
theorem Df(t:Nat)(s:String)(l c:Array Value):den (.func (.methodOf t s) l c)=ni t (KG l):=rfl
theorem jJ{t:Nat}{l:List (Qc Interp.G)}{v:Value}(h:ni t l= .v v):(∃k m,v= .int k m)\/∃b,v= .bool b:=by
 unfold ni at h
 split at h
 . cases h;exact Tac _ _
 . cases h
end
variable[Interp]
abbrev Mp:=Nat->Option (Nat×Nat)
def Mp.le(R R':Mp):Prop:=∀b x,R b=some x->R' b=some x
theorem Mp.le_refl(R:Mp):R.le R:=fun _ _ h=>h
theorem Mp.le_trans{R S T:Mp}(h:R.le S)(k:S.le T):R.le T:=fun b x e=>k b x (h b x e)
inductive VR(R:Mp):Value->Value->Prop
 |flat (v:Value) (h:yc v=true):VR R v v
 |sym (t:Nat) (s:String) (l c:Array Value) (v':Value) (h:den (.func (.methodOf t s) l c)= .v v'):VR R (.func (.methodOf t s) l c) v'
 |ptr (b o b' s:Nat) (h:R b=some (b',s)):VR R (.pointer (some ⟨b,o,none⟩)) (.pointer (some ⟨b',o,none⟩))
 |ly (b o b' s n z c':Nat) (h:R b=some (b',s)) (hz:1<=z) (hc:c'*z+o=s) (hn:n<=c'):VR R (.slice (some ⟨b,o,none⟩) n z) (.slice (some ⟨b',o,none⟩) n c')
 |iO (b o b' s n z c:Nat) (h:R b=some (b',s)) (hz:1<=z) (hn:n<=c):VR R (.slice (some ⟨b,o,some (c+2)⟩) n z) (.slice (some ⟨b',o,none⟩) n c)
 |FG (a:Addr) (c':Nat):VR R (.slice (some ⟨0,0,some 1⟩) 0 0) (.slice (some a) 0 c')
 |ML (a:Addr):VR R (.slice (some ⟨0,0,none⟩) 0 0) (.slice (some a) 0 0)
 |map (r r' s:Nat) (h:R r=some (r',s)):VR R (.map (some r)) (.map (some r'))
 |fn (f:FuncId) (a a' c c':List Value) (ha:a.length=a'.length) (hc:c.length=c'.length) (h1:∀(i:Nat) (x y:Value),a[i]?=some x->a'[i]?=some y->VR R x y) (h2:∀(i:Nat) (x y:Value),c[i]?=some x->c'[i]?=some y->VR R x y):
   VR R (.func (.func f) ⟨a⟩ ⟨c⟩) (.func (.func f) ⟨a'⟩ ⟨c'⟩)
 |yl (l l' s:Nat) (h:R l=some (l',s)):VR R (.func (.yield l) #[] #[]) (.func (.yield l') #[] #[])
 |Wu (t:TypeId) (v v':Value) (h:VR R v v'):VR R (.iface t v) (.iface t v')
 |agg (l l':List Value) (hs:l.length=l'.length) (h:∀(i:Nat) (x y:Value),l[i]?=some x->l'[i]?=some y->VR R x y):VR R (.agg ⟨l⟩) (.agg ⟨l'⟩)
 |LG (l l':List Value) (hs:l.length=l'.length) (h:∀(i:Nat) (x y:Value),l[i]?=some x->l'[i]?=some y->VR R x y):VR R (.tuple ⟨l⟩) (.tuple ⟨l'⟩)
theorem VR.mono{R R':Mp}(hle:R.le R'){v v':Value}(h:VR R v v'):VR R' v v':=by
 induction h with
 |flat v h=>exact .flat v h
 |sym t s l c v' h=>exact .sym t s l c v' h
 |ptr b o b' s h=>exact .ptr b o b' s (hle _ _ h)
 |ly b o b' s n z c' h hz hc hn=>exact .ly b o b' s n z c' (hle _ _ h) hz hc hn
 |iO b o b' s n z c h hz hn=>exact .iO b o b' s n z c (hle _ _ h) hz hn
 |FG a c'=>exact .FG a c'
 |ML a=>exact .ML a
 |map r r' s h=>exact .map r r' s (hle _ _ h)
 |fn f a a' c c' ha hc _ _ i1 i2=>exact .fn f a a' c c' ha hc i1 i2
 |yl l l' s h=>exact .yl l l' s (hle _ _ h)
 |Wu t v v' _ ih=>exact .Wu t v v' ih
 |agg l l' hs _ ih=>exact .agg l l' hs ih
 |LG l l' hs _ ih=>exact .LG l l' hs ih
def LR(R:Mp)(l l':List Value):Prop:=l.length=l'.length/\∀(i:Nat) (x y:Value),l[i]?=some x->l'[i]?=some y->VR R x y
theorem LR.mono{R R':Mp}(hle:R.le R'){l l':List Value}(h:LR R l l'):LR R' l l':=⟨h.1,fun i x y a b=>(h.2 i x y a b).mono hle⟩
theorem LR.nil(R:Mp):LR R [] []:=⟨rfl,fun i x y h=>by simp at h⟩
theorem LR.cons{R:Mp}{x y:Value}{l l':List Value}(hx:VR R x y)(h:LR R l l'):LR R (x::l) (y::l'):=
 ⟨by simp [h.1],fun i a b ha hb=>by
   cases i with
   |zero=>simp at ha hb;subst ha;subst hb;exact hx
   |succ i=>exact h.2 i a b (by simpa using ha) (by simpa using hb)⟩
theorem LR.Ea{R:Mp}{x:Value}{l m:List Value}(h:LR R (x::l) m):∃y l',m=y::l'/\VR R x y/\LR R l l':=by
 cases m with
 |nil=>have:=h.1;simp at this
 |cons y l'=>exact ⟨y,l',rfl,h.2 0 x y rfl rfl,by simpa using h.1,fun i a b ha hb=>h.2 (i+1) a b (by simpa using ha) (by simpa using hb)⟩
theorem LR.Fc{R:Mp}{m:List Value}(h:LR R [] m):m=[]:=by have:=h.1;simpa using this.symm
theorem LR.append{R:Mp}:∀{l l' m m':List Value},LR R l l'->LR R m m'->LR R (l++m) (l'++m')
 |[],l',m,m',h,k=>by rw [h.Fc];exact k
 |x::l,l',m,m',h,k=>by
  obtain ⟨y,q,rfl,h1,h2⟩:=h.Ea;exact .cons h1 (LR.append h2 k)
theorem LR.take{R:Mp}{l l':List Value}(n:Nat)(h:LR R l l'):LR R (l.take n) (l'.take n):=
 ⟨by simp [h.1],fun i x y a b=>by
   rw [List.getElem?_take]at a b;by_cases hi:i<n
   . rw [if_pos hi]at a b;exact h.2 i x y a b
   . rw [if_neg hi]at a;cases a⟩
theorem LR.drop{R:Mp}{l l':List Value}(n:Nat)(h:LR R l l'):LR R (l.drop n) (l'.drop n):=
 ⟨by simp [h.1],fun i x y a b=>by rw [List.getElem?_drop]at a b;exact h.2 _ x y a b⟩
theorem LR.get{R:Mp}{l l':List Value}(h:LR R l l'){i:Nat}{x:Value}(hx:l[i]?=some x):∃y,l'[i]?=some y/\VR R x y:=by
 have hi:i<l'.length:=by rw [<-h.1];exact (List.getElem?_eq_some_iff.1 hx).1
 exact ⟨l'[i],List.getElem?_eq_getElem hi,h.2 i x _ hx (List.getElem?_eq_getElem hi)⟩
theorem LR.agg{R:Mp}{l l':List Value}(h:LR R l l'):VR R (.agg ⟨l⟩) (.agg ⟨l'⟩):= .agg l l' h.1 h.2
theorem LR.LG{R:Mp}{l l':List Value}(h:LR R l l'):VR R (.tuple ⟨l⟩) (.tuple ⟨l'⟩):= .LG l l' h.1 h.2
theorem me(R:Mp):VR R undef undef:=(LR.nil R).LG
theorem LR.flat{R:Mp}{l:List Value}(h:DG l=true):LR R l l:=by
 induction l with
 |nil=>exact .nil R
 |cons x xs ih=>
  simp only [DG]at h;cases hx:yc x with
  |true=>rw [hx]at h;exact .cons (.flat x hx) (ih h)
  |false=>rw [hx]at h;cases h
theorem Qe(R:Mp){v:Value}(h:Sk.flat v=true):VR R v v:=by
 cases v with
 |agg l=>obtain ⟨l⟩:=l;exact (LR.flat (by simpa [Sk.flat]using h)).agg
 |tuple l=>obtain ⟨l⟩:=l;exact (LR.flat (by simpa [Sk.flat]using h)).LG
 |_=>exact .flat _ (by simpa [Sk.flat]using h)
theorem mc{R:Mp}{v v':Value}(h:VR R v v')(hf:yc v=true):v'=v:=by
 cases h with
 |flat v h=>rfl
 |fn f a a' c c' ha hc h1 h2=>
  cases a with
  |nil=>cases c with
   |nil=>cases a' with
    |nil=>cases c' with
     |nil=>rfl
     |cons=>simp at hc
    |cons=>simp at ha
   |cons=>simp [yc]at hf
  |cons=>simp [yc]at hf
 |_=>simp [yc]at hf
theorem LR.nB{R:Mp}:∀{l l':List Value},LR R l l'->DG l=true->l'=l
 |[],l',h,_=>h.Fc
 |x::xs,l',h,hf=>by
  obtain ⟨y,q,rfl,h1,h2⟩:=h.Ea;simp only [DG]at hf;cases hx:yc x with
  |true=>rw [hx]at hf;rw [mc h1 hx,LR.nB h2 hf]
  |false=>rw [hx]at hf;cases hf
theorem Cp{R:Mp}{v v':Value}(h:VR R v v')(hf:Sk.flat v=true):v'=v:=by
 cases v with
 |agg l=>
  cases h with
  |flat v h=>rfl
  |agg l l' hs h=>rw [LR.nB ⟨hs,h⟩ (by simpa [Sk.flat]using hf)]
 |tuple l=>
  cases h with
  |flat v h=>rfl
  |LG l l' hs h=>rw [LR.nB ⟨hs,h⟩ (by simpa [Sk.flat]using hf)]
 |_=>exact mc h (by simpa [Sk.flat]using hf)
theorem Wc{R:Mp}{k:IntKind}{n:Int}{v:Value}(h:VR R (.int k n) v):v= .int k n:=mc h rfl
theorem vl{R:Mp}{b:Bool}{v:Value}(h:VR R (.bool b) v):v= .bool b:=mc h rfl
theorem Wg{R:Mp}{b o:Nat}{v:Value}(h:VR R (.pointer (some ⟨b,o,none⟩)) v):∃b' s,R b=some (b',s)/\v= .pointer (some ⟨b',o,none⟩):=by
 cases h with
 |flat v h=>simp [yc]at h
 |ptr b o b' s h=>exact ⟨b',s,h,rfl⟩
theorem kJ{R:Mp}{a:Addr}{v:Value}(h:VR R (.pointer (some a)) v):∃b o b' s,a=⟨b,o,none⟩/\R b=some (b',s)/\v= .pointer (some ⟨b',o,none⟩):=by
 cases h with
 |flat v h=>simp [yc]at h
 |ptr b o b' s h=>exact ⟨b,o,b',s,rfl,h,rfl⟩
theorem Qm{R:Mp}{a:Addr}{n z:Nat}{v:Value}(h:VR R (.slice (some a) n z) v)(hn:0<n):∃b' s c',R a.block=some (b',s)/\v= .slice (some ⟨b',a.off,none⟩) n c'/\n<=c'/\1<=z:=by
 cases h with
 |flat v h=>simp [yc]at h
 |ly b o b' s n z c' h hz hc hn=>exact ⟨b',s,c',h,rfl,hn,hz⟩
 |iO b o b' s n z c h hz hn=>exact ⟨b',s,c,h,rfl,hn,hz⟩
 |FG a c'=>omega
 |ML a=>omega
theorem Dp{R:Mp}{l:Array Value}{v:Value}(h:VR R (.agg l) v):∃l',LR R l.toList l'/\v= .agg ⟨l'⟩:=by
 cases h with
 |flat v h=>simp [yc]at h
 |agg l l' hs h=>exact ⟨l',⟨hs,h⟩,rfl⟩
theorem I6{R:Mp}{l:Array Value}{v:Value}(h:VR R (.tuple l) v):∃l',LR R l.toList l'/\v= .tuple ⟨l'⟩:=by
 cases h with
 |flat v h=>simp [yc]at h
 |LG l l' hs h=>exact ⟨l',⟨hs,h⟩,rfl⟩
theorem Xc(v:Value):Ja v=v.cells.toList:=by cases v<;>rfl
theorem Ek{R:Mp}{v v':Value}(h:VR R v v'):LR R (Ja v) (Ja v'):=by
 cases v with
 |agg l=>obtain ⟨l',h1,rfl⟩:=Dp h;exact h1
 |_=>
  have h0:=h;cases h<;>first
   |exact .cons h0 (.nil R)
   |(rename_i hd
     rcases jJ (by rw [<-Df];exact hd)with⟨k,m,rfl⟩|⟨b,rfl⟩<;>exact .cons h0 (.nil R))
structure TR(R:Mp)(t:Tm)(a:Array Value):Prop where
 d:t.d=some undef
 n:a.size=t.n
 get:∀i v,t.get i=some v->VR R v (a.getD i undef)
theorem TR.mono{R R':Mp}(hle:R.le R'){t:Tm}{a:Array Value}(h:TR R t a):TR R' t a:=⟨h.d,h.n,fun i v hv=>(h.get i v hv).mono hle⟩
theorem TR.nth{R:Mp}{t:Tm}{a:Array Value}(h:TR R t a)(i:Nat):VR R (nth t i) (a.getD i undef):=by
 unfold Sk.nth;cases hv:t.get i with
 |some v=>exact h.get i v hv
 |none=>
  have:¬i<t.n:=fun hi=>by
   rw [Qi]at hv;cases ht:t.tr.get i with
   |some v=>rw [ht]at hv;cases hv
   |none=>rw [ht,h.d]at hv;simp [hi]at hv
  have hs:a.getD i undef=undef:=by
   rw [Array.getD_eq_getD_getElem?,Array.getElem?_eq_none (by rw [h.n];omega)];rfl
  rw [hs];exact me R
theorem TR.put{R:Mp}{t:Tm}{a:Array Value}(h:TR R t a){d:Nat}(hd:d<t.n){v v':Value}(hv:VR R v v'):TR R (t.put d v) (a.setIfInBounds d v'):=
 ⟨h.d,by rw [Array.size_setIfInBounds];exact h.n,fun i x hx=>by
   rw [Om]at hx;by_cases e:i=d
   . subst e;rw [if_pos rfl]at hx;cases hx;rw [Array.getD_eq_getD_getElem?];have:i<a.size:=by rw [h.n];exact hd
     simp [this];exact hv
   . rw [if_neg e]at hx;have:=h.get i x hx;rw [Array.getD_eq_getD_getElem?]at this⊢;rw [Array.getElem?_setIfInBounds_ne (Ne.symm e)];exact this⟩
theorem Ia{R:Mp}{t:Tm}{a:Act}(h:TR R t a.tmps){x:Operand}{v:Value}(hx:ev t x=some v):VR R v (a.eval x):=by
 cases x with
 |tmp i=>simp [ev]at hx;subst hx;exact h.nth i
 |const c=>
  simp only [ev]at hx;cases hf:Sk.flat c with
  |true=>rw [hf]at hx;cases hx;exact Qe R hf
  |false=>rw [hf]at hx;cases hx
 |global g=>simp [ev]at hx
 |func f=>simp [ev]at hx;subst hx;exact .flat _ rfl
theorem Hf{R:Mp}{t:Tm}{a:Act}(h:TR R t a.tmps):∀{xs:List Operand} {l:List Value},eO t xs=some l->LR R l (xs.map a.eval)
 |[],l,hx=>by simp [eO]at hx;subst hx;exact .nil R
 |x::xs,l,hx=>by
  simp only [eO]at hx;cases h1:ev t x with
  |none=>rw [h1]at hx;cases hx
  |some v=>
   cases h2:eO t xs with
   |none=>rw [h1,h2]at hx;cases hx
   |some q=>rw [h1,h2]at hx;cases hx;exact .cons (Ia h h1) (Hf h h2)
structure Rb(E:Env):Prop where
 fn:∀f fn,E.fn f=some fn->E.P.funcs[f]?=some fn/\(fn.name== "runtime.NumGoroutine")=false
 ty:∀t i,E.ty t=some i->H6 E.P t=some i
 py:∀t n f,E.py t n=some f->∀v w,(method (E.P.types.size+Made.depth) t v n).run E.P w= .ok (f,v) w
 mixed:E.P.follows .mixedOrders=true
 facts:∀p,p∈E.facts->den p.1=den p.2
 fu:∀F,(∀p,p∈F->den p.1=den p.2)->∀v c,Gf v=some c->(∃c',Gf (E.fu F v)=some c')/\den (E.fu F v)=den v
 CU:∀e o ty v,E.CU e o ty=some v->∀g r O w,den e= .g g->Interp.gh g r O w->∃v',(∃c,Gf v=some c)/\den v= .v v'/\(loadVar ty ⟨r,o,none⟩).run E.P w= .ok v' w
structure qg(P:Program)(t:TypeId)(i:Ti)(ii:TypeInfo)(d:TypeDesc):Prop where
 info:P.info? t=some ii
 Sf:P.underlying t=some d
 eq:i=⟨ii.size,ii.bytes,jk P d,JG d,zeroOf ii.zero,GU P t d⟩
theorem Rb.is{E:Env}(h:Rb E){t:TypeId}{i:Ti}(ht:E.ty t=some i):∃ii d,qg E.P t i ii d:=by
 have:=h.ty t i ht;unfold H6 at this;cases h1:E.P.info? t with
 |none=>rw [h1]at this;cases this
 |some ii=>cases h2:E.P.underlying t with
  |none=>rw [h1,h2]at this;cases this
  |some d=>rw [h1,h2]at this;cases this;exact ⟨ii,d,h1,h2,rfl⟩
section
variable{P:Program}{t:TypeId}{i:Ti}{ii:TypeInfo}{d:TypeDesc}
theorem qg.size(h:qg P t i ii d):ii.size=i.size:=by rw [h.eq]
theorem qg.agg(h:qg P t i ii d):i.agg=JG d:=by rw [h.eq]
theorem qg.zero(h:qg P t i ii d){z:Value}(hz:i.zero=some z):ii.zero=some z/\Sk.flat z=true:=by
 rw [h.eq]at hz;unfold zeroOf at hz;cases h1:ii.zero with
 |none=>simp [h1]at hz
 |some v=>
  simp only [h1]at hz;cases h2:Sk.flat v with
  |true=>simp [h2]at hz;subst hz;exact ⟨rfl,h2⟩
  |false=>simp [h2]at hz
theorem Uh{P:Program}{F:Array Field}{x:Ds}(h:jk P (.struct F)=x)(hx:x≠ .ot):x= .st (fieldsOf P F)/\F.toList.all (fun f=>(P.info? f.type).isSome)=true:=by
 simp only [jk]at h
 split at h
 . exact ⟨h.symm,‹_›⟩
 . exact absurd h.symm hx
theorem qg.fX(h:qg P t i ii d){fs:List (Nat×Nat×TypeId)}(hd:i.ds= .st fs):∃F,d= .struct F/\fs=fieldsOf P F/\F.toList.all (fun f=>(P.info? f.type).isSome)=true:=by
 rw [h.eq]at hd;cases d with
 |struct F=>obtain ⟨h1,h2⟩:=Uh hd (by simp);injection h1 with h1;exact ⟨F,rfl,h1,h2⟩
 |_=>simp [jk]at hd
theorem qg.st(h:qg P t i ii d){fs:List (Nat×Nat×TypeId)}(hd:i.ds= .st fs):∃F,d= .struct F/\fs=fieldsOf P F:=by
 obtain ⟨F,h1,h2,_⟩:=h.fX hd;exact ⟨F,h1,h2⟩
theorem qg.ar(h:qg P t i ii d){n:Nat}{e:TypeId}(hd:i.ds= .ar n e):d= .array n e:=by
 rw [h.eq]at hd;cases d<;>first|(simp [jk]at hd;done)|(have:=(Uh hd (by simp)).1;cases this;done)|skip
 simp [jk]at hd;simp [hd]
theorem qg.sl(h:qg P t i ii d){e:TypeId}(hd:i.ds= .sl e):d= .slice e:=by
 rw [h.eq]at hd;cases d<;>first|(simp [jk]at hd;done)|(have:=(Uh hd (by simp)).1;cases this;done)|skip
 simp [jk]at hd;simp [hd]
theorem qg.pt(h:qg P t i ii d){e:TypeId}(hd:i.ds= .pt e):d= .pointer e:=by
 rw [h.eq]at hd;cases d<;>first|(simp [jk]at hd;done)|(have:=(Uh hd (by simp)).1;cases this;done)|skip
 simp [jk]at hd;simp [hd]
theorem qg.mp(h:qg P t i ii d){k e:TypeId}(hd:i.ds= .mp k e):d= .map k e:=by
 rw [h.eq]at hd;cases d<;>first|(simp [jk]at hd;done)|(have:=(Uh hd (by simp)).1;cases this;done)|skip
 simp [jk]at hd;simp [hd]
theorem qg.it(h:qg P t i ii d){q:IntKind}(hd:i.ds= .it q):d= .int q:=by
 rw [h.eq]at hd;cases d<;>first|(simp [jk]at hd;done)|(have:=(Uh hd (by simp)).1;cases this;done)|skip
 simp [jk]at hd;rw [hd]
theorem qg.Wu(h:qg P t i ii d)(hd:i.ds= .Wu):∃k,d= .interface k:=by
 rw [h.eq]at hd;cases d<;>first|(simp [jk]at hd;done)|(have:=(Uh hd (by simp)).1;cases this;done)|skip
 simp [jk]at hd;exact ⟨_,rfl⟩
theorem qg.fn(h:qg P t i ii d)(hd:i.ds= .fn):∃a b c,d= .func a b c:=by
 rw [h.eq]at hd;cases d<;>first|(simp [jk]at hd;done)|(have:=(Uh hd (by simp)).1;cases this;done)|skip
 simp [jk]at hd;exact ⟨_,_,_,rfl⟩
theorem qg.str(h:qg P t i ii d)(hd:i.ds= .str):d= .string:=by
 rw [h.eq]at hd;cases d<;>first|(simp [jk]at hd;done)|(have:=(Uh hd (by simp)).1;cases this;done)|skip
 simp [jk]at hd;rfl
theorem qg.J6(h:qg P t i ii d)(hd:i.ds≠ .Wu):∀k,d≠ .interface k:=fun k e=>by
 rw [h.eq,e]at hd;exact hd rfl
theorem Sa(w:World)(h:P.underlying t=some d):(underlying t).run P w= .ok d w:=by simp [underlying,h,go_sem]
theorem GO(w:World)(h:P.info? t=some ii):(typeInfo t).run P w= .ok ii w:=by simp [typeInfo,h,go_sem]
theorem od(w:World)(h:P.info? t=some ii):(Go.sizeOf t).run P w= .ok ii.size w:=by simp [Go.sizeOf,h,go_sem,GO]
theorem tq(w:World)(h:P.info? t=some ii){z:Value}(hz:ii.zero=some z):(zeroValue t).run P w= .ok z w:=by simp [zeroValue,h,go_sem,GO,hz]
theorem Wn(w:World)(h:P.underlying t=some d):(isAgg t).run P w= .ok (JG d) w:=by
 cases d<;>simp [isAgg,go_sem,Sa w h,JG]
end
theorem rv{P:Program}{F:Array Field}{k:Nat}{f:Nat×Nat×TypeId}(h:Rf (fieldsOf P F) k=some f):∃g,F[k]?=some g/\f=(g.offset,P.cellsOf g.type,g.type):=by
 rw [Ec,fieldsOf,List.getElem?_map]at h;cases hg:F.toList[k]?with
 |none=>rw [hg]at h;cases h
 |some g=>rw [hg]at h;cases h;exact ⟨g,by simpa using hg,rfl⟩
theorem oB{P:Program}{t:TypeId}{n:Nat}(h:P.cellsOf t=n+1):∃ii,P.info? t=some ii/\ii.size=n+1:=by
 unfold Program.cellsOf at h;cases hi:P.info? t with
 |none=>rw [hi]at h;cases h
 |some ii=>rw [hi]at h;exact ⟨ii,rfl,h⟩
theorem MG{E:Env}(hE:Rb E){R:Mp}{t:TypeId}{l l':List Value}{o:Nat}{v:Value}(hl:LR R l l')(h:E.part t l o=some v):
  ∃v',VR R v v'/\∀w,(_root_.Go.part t ⟨l'⟩ o).run E.P w= .ok v' w:=by
 unfold Env.part at h;cases hi:E.ty t with
 |none=>rw [hi]at h;cases h
 |some i=>
  obtain ⟨ii,d,hT⟩:=hE.is hi;rw [hi]at h;simp only at h;cases ha:i.agg with
  |true=>
   rw [ha]at h;simp only [Xu]at h;cases hk:takeN i.size (Vu o l)with
   |none=>rw [hk]at h;cases h
   |some q=>
    rw [hk]at h;cases h;obtain ⟨_,rfl⟩:=rD _ _ _ hk;refine ⟨.agg ⟨(l'.drop o).take i.size⟩,(LR.take _ (by rw [sD];exact hl.drop o)).agg,fun w=> ?_⟩;have:=Wn (P:=E.P) (t:=t) w hT.Sf;rw [<-hT.agg,ha]at this;simp [_root_.Go.part,go_sem,this,od w hT.info];rw [hT.size]
  |false=>
   rw [ha]at h;simp only [Ec]at h;obtain ⟨y,hy,hv⟩:=hl.get h;refine ⟨y,hv,fun w=> ?_⟩;have:=Wn (P:=E.P) (t:=t) w hT.Sf;rw [<-hT.agg,ha]at this;simp [_root_.Go.part,go_sem,this,hy]
end Sk
end Go.Proofs.YtfnkmolffhfpoaaGreat
