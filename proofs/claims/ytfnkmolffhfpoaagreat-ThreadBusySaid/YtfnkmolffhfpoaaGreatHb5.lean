/- -/
import Derived.Test.YtfnkmolffhfpoaaGreatHb4
import Derived.Laws.Shifts
import Derived.Laws.BitsAllLaws
import Derived.Laws.CopyRow
set_option linter.unusedVariables false
set_option linter.unusedSimpArgs false
set_option linter.unusedSectionVars false
namespace Go.Proofs.YtfnkmolffhfpoaaGreat
namespace Sk
variable[Interp]
theorem zd(k:IntKind):eQ (Xb k)=some k:=by cases k<;>rfl
theorem Ef(k:IntKind):Xb k<=7:=by cases k<;>decide
theorem Ey{c:Nat}(h:c<=7):∃k,eQ c=some k/\Xb k=c:=by
 have:c=0\/c=1\/c=2\/c=3\/c=4\/c=5\/c=6\/c=7:=by omega
 rcases this with rfl|rfl|rfl|rfl|rfl|rfl|rfl|rfl<;>exact ⟨_,rfl,rfl⟩
theorem Hc(k:IntKind)(n:Int):fk (Xb k) n= .int k (k.wrap n):=by unfold fk;rw [zd]
theorem Qc(n:Int):fk 8 n= .bool (decide (n≠0)):=rfl
theorem wrap_wrap(k:IntKind)(n:Int):k.wrap (k.wrap n)=k.wrap n:=by
 cases k<;>simp only [IntKind.wrap,IntKind.bits,IntKind.signed]<;>simp<;>(try split)<;>(try split)<;>omega
mutual
theorem Xe:∀(d:Nat) (a b:Value),Jg d a b=true->den a=den b
 |0,a,b,h=>by simp [Jg]at h
 |d+1,a,b,h=>by
  simp only [Jg]at h
  split at h
  . rename_i t s l c u s' m c'
    split at h
    . rename_i hb;rw [Ja]at hb;have:=of_decide_eq_true hb;subst this;rw [Qe,Qe];exact congrArg (rh t) (Hr d l m h)
    . cases h
  . rename_i k a k' b
    split at h
    . rename_i hb;have:=Nb hb;subst this;rw [oe]at h;rw [of_decide_eq_true h]
    . cases h
  . rename_i a b;cases a<;>cases b<;>first|rfl|(cases h;done)
  . cases h
theorem Hr:∀(d:Nat) (l m:List Value),Im d l m=true->jc l=jc m
 |0,l,m,h=>by cases l<;>cases m<;>simp [Im]at h
 |d+1,[],[],h=>rfl
 |d+1,[],y::ys,h=>by simp [Im]at h
 |d+1,x::xs,[],h=>by simp [Im]at h
 |d+1,x::xs,y::ys,h=>by
  simp only [Im]at h
  split at h
  . rename_i h1;simp only [jc];rw [Xe d x y h1,Hr d xs ys h]
  . cases h
end
theorem Gw(v:Value):∀(l:List (Value×Value)),(∀p,p∈l->den p.1=den p.2)->den (findF v l)=den v
 |[],_=>rfl
 |p::ps,h=>by
  simp only [findF]
  split
  . rename_i hs;rw [Xe 60 v p.1 hs];exact (h p (List.mem_cons_self ..)).symm
  . exact Gw v ps fun q hq=>h q (List.mem_cons_of_mem _ hq)
theorem eT{t:Nat}{s:String}{l c:Array Value}{k:Nat}(h:Ue (.func (.methodOf t s) l c)=some k):k=t %16/\t %16<=8:=by
 simp only [Ue]at h
 split at h
 . rename_i hb;cases h;exact ⟨rfl,of_decide_eq_true (by rw [<-jd];exact hb)⟩
 . cases h
def Sc(c:Nat)(v:Value):Prop:=(∃k n,v= .int k n/\c=Xb k)\/(c=8/\∃b,v= .bool b)
theorem uj{t:Nat}(l:List (tc Interp.G))(h:t %16<=8):rh t l= .v (fk (t %16) (match Nat.ble 64 (t/16)with|true=>Interp.U (t/16) l|false=>vk Interp.ρ (t/16) (l.map Ha) ((eQ (t %16)).getD .i64))):=by
 have:Nat.ble (Nat.mod t 16) 8=true:=by rw [jd];exact decide_eq_true h
 unfold rh;rw [this];rfl
theorem I3{c:Nat}(h:c<=8)(n:Int):Sc c (fk c n):=by
 by_cases h8:c=8
 . subst h8;exact .inr ⟨rfl,_,Qc n⟩
 . obtain ⟨k,h1,h2⟩:=Ey (c:=c) (by omega);subst h2;exact .inl ⟨k,_,Hc k n,rfl⟩
theorem Fy{a:Value}{c:Nat}(hc:Ue a=some c):∃a',den a= .v a'/\Sc c a':=by
 cases a with
 |int k n=>simp [Ue]at hc;subst hc;exact ⟨_,rfl, .inl ⟨k,n,rfl,rfl⟩⟩
 |bool b=>simp [Ue]at hc;subst hc;exact ⟨_,rfl, .inr ⟨rfl,b,rfl⟩⟩
 |func f l q=>cases f with
  |methodOf t s=>
   obtain ⟨rfl,h2⟩:=eT hc;rw [Qe,uj _ h2];exact ⟨_,rfl,I3 h2 _⟩
  |_=>simp [Ue]at hc
 |_=>simp [Ue]at hc
theorem Wo{R:Mp}{a a':Value}(h:VR R a a'){c:Nat}(hc:Ue a=some c):den a= .v a':=by
 cases h with
 |flat _ h=>cases a<;>first|rfl|(simp [Ue]at hc;done)|(rename_i f l q;cases f<;>first|rfl|(simp [ic]at h))
 |sym t s l q v' h=>exact h
 |_=>simp [Ue]at hc
theorem Mc(R:Mp){a a':Value}{c:Nat}(hc:Ue a=some c)(h:den a= .v a'):VR R a a':=by
 cases a with
 |int k n=>cases h;exact .flat _ rfl
 |bool b=>cases h;exact .flat _ rfl
 |func f l q=>cases f with
  |methodOf t s=>exact .sym t s l q a' h
  |_=>simp [Ue]at hc
 |_=>simp [Ue]at hc
theorem sh{R:Mp}{a a':Value}(h:VR R a a'){c:Nat}(hc:Ue a=some c):den a= .v a'/\Sc c a':=by
 obtain ⟨x,h1,h2⟩:=Fy hc;have:=Wo h hc;rw [h1]at this;cases this;exact ⟨h1,h2⟩
theorem Sc.int{c:Nat}{v:Value}(h:Sc c v)(hc:c<=7):∃k n,v= .int k n/\c=Xb k:=by
 rcases h with h|⟨rfl,_⟩
 . exact h
 . omega
theorem Sc.bool{v:Value}(h:Sc 8 v):∃b,v= .bool b:=by
 rcases h with⟨k,n,rfl,h⟩|⟨_,h⟩
 . have:=Ef k;omega
 . exact h
theorem Ir{F:List (Value×Value)}{v:Value}{c:Nat}(h:Ue v=some c):∃c',Ue (Vp F v)=some c':=by
 unfold Vp;cases hk:Ue (findF v F)with
 |some k=>exact ⟨k,by simp only [hk]⟩
 |none=>exact ⟨c,by simp only [hk];exact h⟩
theorem ql{F:List (Value×Value)}(hF:∀p,p∈F->den p.1=den p.2)(v:Value):den (Vp F v)=den v:=by
 unfold Vp;simp only
 split
 . exact Gw v F hF
 . rfl
theorem fQ{E:Env}(hE:Pb E){v:Value}{c:Nat}(h:Ue v=some c):∃c',Ue (E.norm v)=some c':=by
 obtain ⟨⟨c',h1⟩,_⟩:=hE.wq E.facts hE.facts v c h;exact Ir h1
theorem dB{E:Env}(hE:Pb E){v:Value}{c:Nat}(h:Ue v=some c):den (E.norm v)=den v:=by
 obtain ⟨_,h2⟩:=hE.wq E.facts hE.facts v c h;unfold Env.norm;rw [ql hE.facts,h2]
theorem eB{t:Nat}(l:List Value)(h:t %16<=8):Ue (sy t l)=some (t %16):=by
 have:Nat.ble (Nat.mod t 16) 8=true:=by rw [jd];exact decide_eq_true h
 unfold sy;simp only [Ue];rw [this];rfl
theorem xg{n k:Nat}(hk:k<=8)(hn:n<64)(l:List Value):den (sy (16*n+k) l)= .v (fk k (vk Interp.ρ n ((jc l).map Ha) ((eQ k).getD .i64))):=by
 have e1:(16*n+k) %16=k:=by omega
 have e2:(16*n+k)/16=n:=by omega
 unfold sy;rw [Qe,uj _ (by omega),e1,e2];have:Nat.ble 64 n=false:=by rw [jd];exact decide_eq_false (by omega)
 rw [this];rfl
theorem SK{n k:Nat}(hk:k<=8)(l:List Value):Ue (sy (16*n+k) l)=some k:=by
 have e1:(16*n+k) %16=k:=by omega
 rw [eB _ (by omega),e1]
end Sk
end Go.Proofs.YtfnkmolffhfpoaaGreat
namespace Go.Proofs.YtfnkmolffhfpoaaGreat
namespace Sk
variable[Interp]
theorem Rn(k:IntKind){m n:Int}(h:k.wrap m=m)(h1:min m 0<=n)(h2:n<=max m 0):k.wrap n=n:=by
 cases k<;>simp only [IntKind.wrap,IntKind.bits,IntKind.signed]at*<;>simp at*<;>(try split at h)<;>(try split)<;>omega
theorem Sn(m:Int)(j:Nat):min m 0<=m.fdiv (2^j)/\m.fdiv (2^j)<=max m 0:=by
 have hp:(0:Int)<2^j:=Int.pow_pos (by decide);rw [Int.fdiv_eq_ediv_of_nonneg m (Int.le_of_lt hp)];by_cases hm:0<=m
 . have h1:=Int.ediv_nonneg hm (Int.le_of_lt hp);have h2:=Int.ediv_le_self (2^j:Int) hm;omega
 . have h1:m/(2^j:Int)<0:=Int.ediv_neg_of_neg_of_pos (by omega) hp;have h2:m<=m/(2^j:Int):=by
    have:=Int.le_ediv_of_mul_le hp (a:=m) (b:=m) (by
     have:m*2^j<=m*1:=Int.mul_le_mul_of_nonpos_left (by omega) (by omega);omega)
    exact this
   omega
theorem Tn(m n:Int):min m 0<=m.tmod n/\m.tmod n<=max m 0:=by
 have h1:=Int.natAbs_tmod m n;have h2:(m.tmod n).natAbs<=m.natAbs:=by rw [h1];exact Nat.mod_le _ _
 by_cases hm:0<=m
 . have h3:=Int.tmod_nonneg n hm;omega
 . have h3:=Int.tmod_nonneg n (a:=-m) (by omega);rw [Int.neg_tmod]at h3;omega
theorem J3{a:Value}{c:Nat}{k:IntKind}{m:Int}(hs:Xj a=true)(hc:Ue a=some c)(hd:den a= .v (.int k m)):k.wrap m=m:=by
 cases a with
 |func f l q=>cases f with
  |methodOf t s=>
   obtain ⟨rfl,h2⟩:=eT hc;rw [Qe,uj _ h2]at hd;rcases Nat.lt_or_ge (t %16) 8 with h8|h8
   . obtain ⟨k',h3,h4⟩:=Ey (c:=t %16) (by omega);rw [<-h4,Hc]at hd;injection hd with hd
     injection hd with e1 e2
     subst e1;rw [<-e2,wrap_wrap]
   . have:t %16=8:=Nat.le_antisymm h2 h8;rw [this,Qc]at hd;injection hd with hd
     cases hd
  |_=>simp [Xj]at hs
 |_=>simp [Xj]at hs
def vj(op:BinOp)(k k':IntKind)(m n:Int):Option Value:=
 match op with
 | .shl=>if n<0 then none else some (.int k (k.wrap (m*2^min n.toNat k.bits)))
 | .shr=>if n<0 then none else some (.int k (m.fdiv (2^min n.toNat k.bits)))
 |op=>if k=k' then(match op with
  | .add=>some (.int k (k.wrap (m+n)))
  | .sub=>some (.int k (k.wrap (m -n)))
  | .mul=>some (.int k (k.wrap (m*n)))
  | .and| .or| .xor| .andNot=>some (.int k (k.wrap (YH op k m n)))
  | .quo=>if n=0 then none else some (.int k (k.wrap (m.tdiv n)))
  | .rem=>if n=0 then none else some (.int k (m.tmod n))
  | .eql=>some (.bool (decide (m=n)))
  | .neq=>some (.bool (!decide (m=n)))
  | .lss=>some (.bool (decide (m<n)))
  | .leq=>some (.bool (!decide (n<m)))
  | .gtr=>some (.bool (decide (n<m)))
  | .geq=>some (.bool (!decide (m<n)))
  |_=>none)else none
theorem fB{P:Program}{op:BinOp}{ty:TypeId}{x y:Operand}{k k':IntKind}{m n:Int}{v:Value}(h:vj op k k' m n=some v)(w:World):
  (do eqGuard op ty x y (.int k m) (.int k' n);binOp op ty (.int k m) (.int k' n):Sem Value).run P w= .ok v w:=by
 cases op<;>simp only [vj]at h
 all_goals first
  |(split at h<;>first|(cases h;done)|skip)
  |(cases h;done)
 all_goals first
  |(subst k';done)
  |skip
 all_goals try subst k'
 all_goals try (split at h<;>first|(cases h;done)|skip)
 all_goals
  cases h;simp_all [eqGuard,binOp,go_sem,Op.intArith,Op.intCmp,Op.intBits,Op.intDiv,Op.shift,YH]
 all_goals first|done|rfl|(congr 1;simp;done)|(by_cases e:m=n<;>simp [e];done)|(rw [<-decide_not];congr 1;simp)|skip
def D(v v':Value):Prop:=(∃c,Ue v=some c)/\den v= .v v'
theorem D.vr{v v':Value}(h:D v v')(R:Mp):VR R v v':=by obtain ⟨⟨c,h1⟩,h2⟩:=h;exact Mc R h1 h2
theorem D.of{R:Mp}{a a':Value}(h:VR R a a'){c:Nat}(hc:Ue a=some c):D a a':=⟨⟨c,hc⟩,(sh h hc).1⟩
theorem D.norm{E:Env}(hE:Pb E){v v':Value}(h:D v v'):D (E.norm v) v':=by
 obtain ⟨⟨c,h1⟩,h2⟩:=h;exact ⟨fQ hE h1,by rw [dB hE h1,h2]⟩
theorem D.yP{n k:Nat}(hk:k<=8)(hn:n<64){a a':Value}(ha:D a a'):D (sy (16*n+k) [a]) (fk k (vk Interp.ρ n [Ha (.v a':tc Interp.G)] ((eQ k).getD .i64))):=by
 refine ⟨⟨k,SK hk _⟩, ?_⟩;rw [xg hk hn];simp only [jc,ha.2,List.map]
theorem D.sD{n k:Nat}(hk:k<=8)(hn:n<64){a a' b b':Value}(ha:D a a')(hb:D b b'):D (sy (16*n+k) [a,b]) (fk k (vk Interp.ρ n [Ha (.v a':tc Interp.G),Ha (.v b':tc Interp.G)] ((eQ k).getD .i64))):=by
 refine ⟨⟨k,SK hk _⟩, ?_⟩;rw [xg hk hn];simp only [jc,ha.2,hb.2,List.map]
theorem D.same{a a' b b':Value}(ha:D a a')(hb:D b b')(h:Jg 60 a b=true):a'=b':=by
 have:=Xe 60 a b h;rw [ha.2,hb.2]at this;cases this;rfl
theorem Mm{E:Env}(hE:Pb E){a b:Value}{k:IntKind}{m n:Int}(ha:D a (.int k m))(hb:D b (.int k n)):D (FK E a b) (.bool (decide (m=n))):=by
 unfold FK
 split
 . rename_i h;have:=ha.same hb h;cases this;exact ⟨⟨8,rfl⟩,by simp [den]⟩
 . split
   . have:=(D.sD (n:=16) (k:=8) (by decide) (by decide) ha hb).norm hE
     simp only [Ha,vk,Pn,Qc]at this;by_cases e:m=n<;>simp [e]at this⊢<;>exact this
   . have:=(D.sD (n:=16) (k:=8) (by decide) (by decide) hb ha).norm hE
     simp only [Ha,vk,Pn,Qc]at this;by_cases e:m=n
     . simp [e]at this⊢;exact this
     . have e':¬n=m:=fun q=>e q.symm
       simp [e,e']at this⊢;exact this
theorem rl{E:Env}(hE:Pb E){a b:Value}{k:IntKind}{m n:Int}(ha:D a (.int k m))(hb:D b (.int k n)):D (N1 E a b) (.bool (decide (m<n))):=by
 unfold N1
 split
 . rename_i h;have:=ha.same hb h;cases this;exact ⟨⟨8,rfl⟩,by simp [den]⟩
 . have:=(D.sD (n:=17) (k:=8) (by decide) (by decide) ha hb).norm hE
   simp only [Ha,vk,Pn,Qc]at this;by_cases e:m<n<;>simp [e]at this⊢<;>exact this
theorem wj{E:Env}(hE:Pb E){x:Value}{b:Bool}(hx:D x (.bool b)){v:Value}(h:fy E x=some v):D v (.bool (!b)):=by
 unfold fy at h
 split at h
 . rename_i b0;cases h;have:=hx.2
   simp only [den]at this;cases this;exact ⟨⟨8,rfl⟩,by simp [den,ke]⟩
 . rename_i t s l c
   split at h
   . rename_i ht;rw [Ja]at ht;have ht:=of_decide_eq_true ht
     split at h
     . rename_i x0 h1;rw [Ja]at h1;have h1:=of_decide_eq_true h1;subst h1
       split at h
       . rename_i k hk
         split at h
         . rename_i h8;cases h;rw [Ja]at h8;have h8:=of_decide_eq_true h8;subst h8;obtain ⟨x',hd,hs⟩:=Fy hk;obtain ⟨b0,rfl⟩:=hs.bool;refine ⟨⟨8,hk⟩, ?_⟩;have:=(D.yP (n:=18) (k:=8) (by decide) (by decide) (⟨⟨8,hk⟩,hd⟩:D v (.bool b0))).2
           have h3:den (sy 296 [v])= .v (.bool b):=hx.2
           rw [show sy (16*18+8) [v]=sy 296 [v]from rfl,h3]at this;simp only [Ha,vk,Pn,Qc]at this;rw [hd];cases b0<;>simp at this<;>subst this<;>rfl
         . cases h
       . cases h
     . cases h;have:=(D.yP (n:=18) (k:=8) (by decide) (by decide) hx).norm hE
       simp only [Ha,vk,Pn,Qc]at this;cases b<;>simp at this⊢<;>exact this
   . cases h
 . cases h
theorem dG{a:Value}{k:IntKind}{m:Int}(hs:Xj a=true)(h:D a (.int k m)):k.wrap m=m:=by
 obtain ⟨⟨c,h1⟩,h2⟩:=h;exact J3 hs h1 h2
theorem Gy{E:Env}(hE:Pb E){op:BinOp}{k:IntKind}{m n:Int}{a b v:Value}(ha:D a (.int k m))(hb:D b (.int k n))(h:GD E op (Xb k) a b=some v):∃v',vj op k k m n=some v'/\D v v':=by
 have hk:=Ef k;unfold GD at h;cases op<;>simp only [opN]at h
 all_goals first
  |(cases h;done)
  |skip
 case eql=>cases h;exact ⟨_,by simp [vj],Mm hE ha hb⟩
 case neq=>exact ⟨_,by simp [vj],wj hE (Mm hE ha hb) h⟩
 case lss=>cases h;exact ⟨_,by simp [vj],rl hE ha hb⟩
 case gtr=>cases h;exact ⟨_,by simp [vj],rl hE hb ha⟩
 case leq=>exact ⟨_,by simp [vj],wj hE (rl hE hb ha) h⟩
 case geq=>exact ⟨_,by simp [vj],wj hE (rl hE ha hb) h⟩
 case add=>cases h;have:=(D.sD (n:=1) (k:=Xb k) (by omega) (by decide) ha hb).norm hE;simp only [Ha,vk,Pn,Hc,zd,Option.getD_some]at this;exact ⟨_,by simp [vj],this⟩
 case sub=>cases h;have:=(D.sD (n:=2) (k:=Xb k) (by omega) (by decide) ha hb).norm hE;simp only [Ha,vk,Pn,Hc,zd,Option.getD_some]at this;exact ⟨_,by simp [vj],this⟩
 case mul=>cases h;have:=(D.sD (n:=3) (k:=Xb k) (by omega) (by decide) ha hb).norm hE;simp only [Ha,vk,Pn,Hc,zd,Option.getD_some]at this;exact ⟨_,by simp [vj],this⟩
 case and=>cases h;have:=(D.sD (n:=4) (k:=Xb k) (by omega) (by decide) ha hb).norm hE;simp only [Ha,vk,Pn,Hc,zd,Option.getD_some]at this;exact ⟨_,by simp [vj],this⟩
 case or=>cases h;have:=(D.sD (n:=5) (k:=Xb k) (by omega) (by decide) ha hb).norm hE;simp only [Ha,vk,Pn,Hc,zd,Option.getD_some]at this;exact ⟨_,by simp [vj],this⟩
 case xor=>cases h;have:=(D.sD (n:=6) (k:=Xb k) (by omega) (by decide) ha hb).norm hE;simp only [Ha,vk,Pn,Hc,zd,Option.getD_some]at this;exact ⟨_,by simp [vj],this⟩
 case andNot=>cases h;have:=(D.sD (n:=7) (k:=Xb k) (by omega) (by decide) ha hb).norm hE;simp only [Ha,vk,Pn,Hc,zd,Option.getD_some]at this;exact ⟨_,by simp [vj],this⟩
theorem Un{E:Env}(hE:Pb E){R:Mp}{op:BinOp}{a b v a' b':Value}(ha:VR R a a')(hb:VR R b b')(h:gy E op a b=some v):
  ∃v' k k' m n,a'= .int k m/\b'= .int k' n/\vj op k k' m n=some v'/\D v v':=by
 unfold gy at h
 split at h
 . cases h
 . split at h
   . rename_i i j hi hj;obtain ⟨_,sa⟩:=sh ha hi;obtain ⟨_,sb⟩:=sh hb hj;have da:=D.of ha hi;have db:=D.of hb hj
     split at h
     . rename_i q n hs _ _
       split at h
       . rename_i h7;rw [jd]at h7;obtain ⟨k,m,rfl,rfl⟩:=sa.int (of_decide_eq_true h7);cases h;have e:=wc hb;subst e;have hk:=Ef k;have:=(D.sD (n:=8) (k:=Xb k) (by omega) (by decide) da db).norm hE
         simp only [Ha,vk,Pn,Hc,zd,Option.getD_some]at this;exact ⟨_,k,q,m,_,rfl,rfl,rfl,this⟩
       . cases h
     . rename_i q n hs _ _
       split at h
       . rename_i h7;rw [jd]at h7;obtain ⟨k,m,rfl,rfl⟩:=sa.int (of_decide_eq_true h7);cases h;have e:=wc hb;subst e;have hk:=Ef k;have:=(D.sD (n:=9) (k:=Xb k) (by omega) (by decide) da db).norm hE
         simp only [Ha,vk,Pn,Hc,zd,Option.getD_some]at this;have hw:=Rn k (dG hs da) (Sn m (min n k.bits)).1 (Sn m (min n k.bits)).2
         exact ⟨_,k,q,m,_,rfl,rfl,rfl,by simpa [hw]using this⟩
       . cases h
     . rename_i q n hs _ _
       split at h
       . rename_i xk h7;rw [jd]at h7;rw [Ja]at xk;have xk:=of_decide_eq_true xk;obtain ⟨k,m,rfl,rfl⟩:=sa.int (of_decide_eq_true h7);cases h;have e:=wc hb;subst e;have hk:=Ef k;simp only [Ue,Option.some.injEq]at hj;have e2:q=k:=Nb (by rw [Ja];exact decide_eq_true (hj.trans xk.symm));subst e2;have:=(D.sD (n:=11) (k:=Xb q) (by omega) (by decide) da db).norm hE
         simp only [Ha,vk,Pn,Hc,zd,Option.getD_some]at this;have h0:¬((Int.ofNat (n+1):Int)=0):=by simp;omega
         exact ⟨_,q,q,m,_,rfl,rfl,by simp only [vj,if_true];rw [if_neg h0],this⟩
       . cases h
     . rename_i q n hs _ _
       split at h
       . rename_i xk h7;rw [jd]at h7;rw [Ja]at xk;have xk:=of_decide_eq_true xk;obtain ⟨k,m,rfl,rfl⟩:=sa.int (of_decide_eq_true h7);cases h;have e:=wc hb;subst e;have hk:=Ef k;simp only [Ue,Option.some.injEq]at hj;have e2:q=k:=Nb (by rw [Ja];exact decide_eq_true (hj.trans xk.symm));subst e2;have:=(D.sD (n:=12) (k:=Xb q) (by omega) (by decide) da db).norm hE
         simp only [Ha,vk,Pn,Hc,zd,Option.getD_some]at this;have hw:=Rn q (dG hs da) (Tn m (n+1:Nat)).1 (Tn m (n+1:Nat)).2
         have h0:¬((Int.ofNat (n+1):Int)=0):=by simp;omega
         refine ⟨_,q,q,m,_,rfl,rfl,by simp only [vj,if_true];rw [if_neg h0], ?_⟩;rw [show((Int.ofNat (n+1)):Int)=((n+1:Nat):Int)from rfl,hw]at this;exact this
       . cases h
     . split at h
       . rename_i xk h7;rw [jd]at h7;rw [Ja]at xk;have xk:=of_decide_eq_true xk;subst xk;obtain ⟨k,m,rfl,e1⟩:=sa.int (of_decide_eq_true h7);obtain ⟨k2,n,rfl,e2⟩:=sb.int (of_decide_eq_true h7);have:k=k2:=Nb (by rw [Ja];exact decide_eq_true (e1.symm.trans e2));subst this;subst e1;obtain ⟨v',q1,q2⟩:=Gy hE da db h;exact ⟨v',k,k,m,n,rfl,rfl,q1,q2⟩
       . cases h
   . cases h
theorem gB{E:Env}(hE:Pb E){R:Mp}{op:UnOp}{x v x':Value}(hx:VR R x x')(h:GK E op x=some v):∃b,x'= .bool b/\op= .not/\D v (.bool (!b)):=by
 unfold GK at h
 split at h
 . cases h
 . split at h
   . have hq:Ue x=some 8:=by
      cases x with
      |bool b=>rfl
      |func f l c=>cases f with
       |methodOf t s=>
        simp only [fy]at h
        split at h
        . rename_i ht;rw [Ja]at ht;have ht:=of_decide_eq_true ht;have:=eB (t:=t) (l:=[]) (by show t %16<=8;exact Nat.le_of_eq ht);simp only [Ue];rw [show Nat.mod t 16=8 from ht]
        . cases h
       |_=>simp [fy]at h
      |_=>simp [fy]at h
     obtain ⟨_,s⟩:=sh hx hq;obtain ⟨b,rfl⟩:=s.bool;exact ⟨b,rfl,rfl,wj hE (D.of hx hq) h⟩
   . cases h
theorem rv{E:Env}(hE:Pb E){R:Mp}{ss d:TypeId}{x v x':Value}(hx:VR R x x')(h:iy E ss d x=some v):∃v',(∀w,(convert ss d x').run E.P w= .ok v' w)/\D v v':=by
 unfold iy at h
 split at h
 . rename_i i j _ hs hi hj hjs
   split at h
   . rename_i k h7 hk;obtain ⟨ii,dd,hT⟩:=hE.is hj;rw [jd]at h7;obtain ⟨_,sa⟩:=sh hx hi;obtain ⟨q,m,rfl,rfl⟩:=sa.int (of_decide_eq_true h7);cases h;have gT:=Ef k;have:=(D.yP (n:=10) (k:=Xb k) (by omega) (by decide) (D.of hx hi)).norm hE
     simp only [Ha,vk,Pn,Hc,zd,Option.getD_some]at this;obtain ⟨_,u,hTs⟩:=hE.is hjs;have hu:=hTs.Df;have hd:=hT.Df;rw [hT.it hk]at hd;refine ⟨_,fun w=> ?_,this⟩;simp [convert,go_sem,Qa w hu,Qa w hd,Conv.intToInt]
   . cases h
 . cases h
end Sk
end Go.Proofs.YtfnkmolffhfpoaaGreat
