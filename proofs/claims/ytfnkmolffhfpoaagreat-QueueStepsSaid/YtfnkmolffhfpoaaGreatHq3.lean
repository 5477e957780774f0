/- -/
import Derived.Test.YtfnkmolffhfpoaaGreatHq2
import Derived.Laws.Shifts
import Derived.Laws.BitsAllLaws
import Derived.Laws.CopyRow
set_option linter.unusedVariables false
set_option linter.unusedSimpArgs false
set_option linter.unusedSectionVars false
namespace Go.Proofs.YtfnkmolffhfpoaaGreat
namespace Sk
variable[Interp]
theorem Nd(k:IntKind):IU (jc k)=some k:=by cases k<;>rfl
theorem Tf(k:IntKind):jc k<=7:=by cases k<;>decide
theorem pB{c:Nat}(h:c<=7):∃k,IU c=some k/\jc k=c:=by
 have:c=0\/c=1\/c=2\/c=3\/c=4\/c=5\/c=6\/c=7:=by omega
 rcases this with rfl|rfl|rfl|rfl|rfl|rfl|rfl|rfl<;>exact ⟨_,rfl,rfl⟩
theorem Rc(k:IntKind)(n:Int):fk (jc k) n= .int k (k.wrap n):=by unfold fk;rw [Nd]
theorem jd(n:Int):fk 8 n= .bool (decide (n≠0)):=rfl
theorem wrap_wrap(k:IntKind)(n:Int):k.wrap (k.wrap n)=k.wrap n:=by
 cases k<;>simp only [IntKind.wrap,IntKind.bits,IntKind.signed]<;>simp<;>(try split)<;>(try split)<;>omega
mutual
theorem Ee:∀(d:Nat) (a b:Value),Lf d a b=true->den a=den b
 |0,a,b,h=>by simp [Lf]at h
 |d+1,a,b,h=>by
  simp only [Lf]at h
  split at h
  . rename_i t s l c u s' m c'
    split at h
    . rename_i hb;rw [Na]at hb;have:=of_decide_eq_true hb;subst this;rw [Df,Df];exact congrArg (ni t) (tv d l m h)
    . cases h
  . rename_i k a k' b
    split at h
    . rename_i hb;have:=Qb hb;subst this;rw [Ce]at h;rw [of_decide_eq_true h]
    . cases h
  . rename_i a b;cases a<;>cases b<;>first|rfl|(cases h;done)
  . cases h
theorem tv:∀(d:Nat) (l m:List Value),zp d l m=true->Tb l=Tb m
 |0,l,m,h=>by cases l<;>cases m<;>simp [zp]at h
 |d+1,[],[],h=>rfl
 |d+1,[],y::ys,h=>by simp [zp]at h
 |d+1,x::xs,[],h=>by simp [zp]at h
 |d+1,x::xs,y::ys,h=>by
  simp only [zp]at h
  split at h
  . rename_i h1;simp only [Tb];rw [Ee d x y h1,tv d xs ys h]
  . cases h
end
theorem qz(v:Value):∀(l:List (Value×Value)),(∀p,p∈l->den p.1=den p.2)->den (findF v l)=den v
 |[],_=>rfl
 |p::ps,h=>by
  simp only [findF]
  split
  . rename_i hs;rw [Ee 60 v p.1 hs];exact (h p (List.mem_cons_self ..)).symm
  . exact qz v ps fun q hq=>h q (List.mem_cons_of_mem _ hq)
theorem gX{t:Nat}{s:String}{l c:Array Value}{k:Nat}(h:Gf (.func (.methodOf t s) l c)=some k):k=t %16/\t %16<=8:=by
 simp only [Gf]at h
 split at h
 . rename_i hb;cases h;exact ⟨rfl,of_decide_eq_true (by rw [<-yd];exact hb)⟩
 . cases h
def Sc(c:Nat)(v:Value):Prop:=(∃k n,v= .int k n/\c=jc k)\/(c=8/\∃b,v= .bool b)
theorem xl{t:Nat}(l:List (Qc Interp.G))(h:t %16<=8):ni t l= .v (fk (t %16) (match Nat.ble 64 (t/16)with|true=>Interp.U (t/16) l|false=>Pm Interp.ρ (t/16) (l.map Ma) ((IU (t %16)).getD .i64))):=by
 have:Nat.ble (Nat.mod t 16) 8=true:=by rw [yd];exact decide_eq_true h
 unfold ni;rw [this];rfl
theorem Uac{c:Nat}(h:c<=8)(n:Int):Sc c (fk c n):=by
 by_cases h8:c=8
 . subst h8;exact .inr ⟨rfl,_,jd n⟩
 . obtain ⟨k,h1,h2⟩:=pB (c:=c) (by omega);subst h2;exact .inl ⟨k,_,Rc k n,rfl⟩
theorem Nr{a:Value}{c:Nat}(hc:Gf a=some c):∃a',den a= .v a'/\Sc c a':=by
 cases a with
 |int k n=>simp [Gf]at hc;subst hc;exact ⟨_,rfl, .inl ⟨k,n,rfl,rfl⟩⟩
 |bool b=>simp [Gf]at hc;subst hc;exact ⟨_,rfl, .inr ⟨rfl,b,rfl⟩⟩
 |func f l q=>cases f with
  |methodOf t s=>
   obtain ⟨rfl,h2⟩:=gX hc;rw [Df,xl _ h2];exact ⟨_,rfl,Uac h2 _⟩
  |_=>simp [Gf]at hc
 |_=>simp [Gf]at hc
theorem Pr{R:Mp}{a a':Value}(h:VR R a a'){c:Nat}(hc:Gf a=some c):den a= .v a':=by
 cases h with
 |flat _ h=>cases a<;>first|rfl|(simp [Gf]at hc;done)|(rename_i f l q;cases f<;>first|rfl|(simp [yc]at h))
 |sym t s l q v' h=>exact h
 |_=>simp [Gf]at hc
theorem Yc(R:Mp){a a':Value}{c:Nat}(hc:Gf a=some c)(h:den a= .v a'):VR R a a':=by
 cases a with
 |int k n=>cases h;exact .flat _ rfl
 |bool b=>cases h;exact .flat _ rfl
 |func f l q=>cases f with
  |methodOf t s=>exact .sym t s l q a' h
  |_=>simp [Gf]at hc
 |_=>simp [Gf]at hc
theorem qi{R:Mp}{a a':Value}(h:VR R a a'){c:Nat}(hc:Gf a=some c):den a= .v a'/\Sc c a':=by
 obtain ⟨x,h1,h2⟩:=Nr hc;have:=Pr h hc;rw [h1]at this;cases this;exact ⟨h1,h2⟩
theorem Sc.int{c:Nat}{v:Value}(h:Sc c v)(hc:c<=7):∃k n,v= .int k n/\c=jc k:=by
 rcases h with h|⟨rfl,_⟩
 . exact h
 . omega
theorem Sc.bool{v:Value}(h:Sc 8 v):∃b,v= .bool b:=by
 rcases h with⟨k,n,rfl,h⟩|⟨_,h⟩
 . have:=Tf k;omega
 . exact h
theorem uv{F:List (Value×Value)}{v:Value}{c:Nat}(h:Gf v=some c):∃c',Gf (ct F v)=some c':=by
 unfold ct;cases hk:Gf (findF v F)with
 |some k=>exact ⟨k,by simp only [hk]⟩
 |none=>exact ⟨c,by simp only [hk];exact h⟩
theorem Xn{F:List (Value×Value)}(hF:∀p,p∈F->den p.1=den p.2)(v:Value):den (ct F v)=den v:=by
 unfold ct;simp only
 split
 . exact qz v F hF
 . rfl
theorem JU{E:Env}(hE:Rb E){v:Value}{c:Nat}(h:Gf v=some c):∃c',Gf (E.norm v)=some c':=by
 obtain ⟨⟨c',h1⟩,_⟩:=hE.fu E.facts hE.facts v c h;exact uv h1
theorem uD{E:Env}(hE:Rb E){v:Value}{c:Nat}(h:Gf v=some c):den (E.norm v)=den v:=by
 obtain ⟨_,h2⟩:=hE.fu E.facts hE.facts v c h;unfold Env.norm;rw [Xn hE.facts,h2]
theorem vD{t:Nat}(l:List Value)(h:t %16<=8):Gf (sy t l)=some (t %16):=by
 have:Nat.ble (Nat.mod t 16) 8=true:=by rw [yd];exact decide_eq_true h
 unfold sy;simp only [Gf];rw [this];rfl
theorem Xg{n k:Nat}(hk:k<=8)(hn:n<64)(l:List Value):den (sy (16*n+k) l)= .v (fk k (Pm Interp.ρ n ((Tb l).map Ma) ((IU k).getD .i64))):=by
 have e1:(16*n+k) %16=k:=by omega
 have e2:(16*n+k)/16=n:=by omega
 unfold sy;rw [Df,xl _ (by omega),e1,e2];have:Nat.ble 64 n=false:=by rw [yd];exact decide_eq_false (by omega)
 rw [this];rfl
theorem JO{n k:Nat}(hk:k<=8)(l:List Value):Gf (sy (16*n+k) l)=some k:=by
 have e1:(16*n+k) %16=k:=by omega
 rw [vD _ (by omega),e1]
end Sk
end Go.Proofs.YtfnkmolffhfpoaaGreat
namespace Go.Proofs.YtfnkmolffhfpoaaGreat
namespace Sk
variable[Interp]
theorem uq(k:IntKind){m n:Int}(h:k.wrap m=m)(h1:min m 0<=n)(h2:n<=max m 0):k.wrap n=n:=by
 cases k<;>simp only [IntKind.wrap,IntKind.bits,IntKind.signed]at*<;>simp at*<;>(try split at h)<;>(try split)<;>omega
theorem vq(m:Int)(j:Nat):min m 0<=m.fdiv (2^j)/\m.fdiv (2^j)<=max m 0:=by
 have hp:(0:Int)<2^j:=Int.pow_pos (by decide);rw [Int.fdiv_eq_ediv_of_nonneg m (Int.le_of_lt hp)];by_cases hm:0<=m
 . have h1:=Int.ediv_nonneg hm (Int.le_of_lt hp);have h2:=Int.ediv_le_self (2^j:Int) hm;omega
 . have h1:m/(2^j:Int)<0:=Int.ediv_neg_of_neg_of_pos (by omega) hp;have h2:m<=m/(2^j:Int):=by
    have:=Int.le_ediv_of_mul_le hp (a:=m) (b:=m) (by
     have:m*2^j<=m*1:=Int.mul_le_mul_of_nonpos_left (by omega) (by omega);omega)
    exact this
   omega
theorem xq(m n:Int):min m 0<=m.tmod n/\m.tmod n<=max m 0:=by
 have h1:=Int.natAbs_tmod m n;have h2:(m.tmod n).natAbs<=m.natAbs:=by rw [h1];exact Nat.mod_le _ _
 by_cases hm:0<=m
 . have h3:=Int.tmod_nonneg n hm;omega
 . have h3:=Int.tmod_nonneg n (a:=-m) (by omega);rw [Int.neg_tmod]at h3;omega
theorem Vac{a:Value}{c:Nat}{k:IntKind}{m:Int}(hs:Am a=true)(hc:Gf a=some c)(hd:den a= .v (.int k m)):k.wrap m=m:=by
 cases a with
 |func f l q=>cases f with
  |methodOf t s=>
   obtain ⟨rfl,h2⟩:=gX hc;rw [Df,xl _ h2]at hd;rcases Nat.lt_or_ge (t %16) 8 with h8|h8
   . obtain ⟨k',h3,h4⟩:=pB (c:=t %16) (by omega);rw [<-h4,Rc]at hd;injection hd with hd
     injection hd with e1 e2
     subst e1;rw [<-e2,wrap_wrap]
   . have:t %16=8:=Nat.le_antisymm h2 h8;rw [this,jd]at hd;injection hd with hd
     cases hd
  |_=>simp [Am]at hs
 |_=>simp [Am]at hs
def zl(op:BinOp)(k k':IntKind)(m n:Int):Option Value:=
 match op with
 | .shl=>if n<0 then none else some (.int k (k.wrap (m*2^min n.toNat k.bits)))
 | .shr=>if n<0 then none else some (.int k (m.fdiv (2^min n.toNat k.bits)))
 |op=>if k=k' then(match op with
  | .add=>some (.int k (k.wrap (m+n)))
  | .sub=>some (.int k (k.wrap (m -n)))
  | .mul=>some (.int k (k.wrap (m*n)))
  | .and| .or| .xor| .andNot=>some (.int k (k.wrap (LL op k m n)))
  | .quo=>if n=0 then none else some (.int k (k.wrap (m.tdiv n)))
  | .rem=>if n=0 then none else some (.int k (m.tmod n))
  | .eql=>some (.bool (decide (m=n)))
  | .neq=>some (.bool (!decide (m=n)))
  | .lss=>some (.bool (decide (m<n)))
  | .leq=>some (.bool (!decide (n<m)))
  | .gtr=>some (.bool (decide (n<m)))
  | .geq=>some (.bool (!decide (m<n)))
  |_=>none)else none
theorem wD{P:Program}{op:BinOp}{ty:TypeId}{x y:Operand}{k k':IntKind}{m n:Int}{v:Value}(h:zl op k k' m n=some v)(w:World):
  (do eqGuard op ty x y (.int k m) (.int k' n);binOp op ty (.int k m) (.int k' n):Sem Value).run P w= .ok v w:=by
 cases op<;>simp only [zl]at h
 all_goals first
  |(split at h<;>first|(cases h;done)|skip)
  |(cases h;done)
 all_goals first
  |(subst k';done)
  |skip
 all_goals try subst k'
 all_goals try (split at h<;>first|(cases h;done)|skip)
 all_goals
  cases h;simp_all [eqGuard,binOp,go_sem,Op.intArith,Op.intCmp,Op.intBits,Op.intDiv,Op.shift,LL]
 all_goals first|done|rfl|(congr 1;simp;done)|(by_cases e:m=n<;>simp [e];done)|(rw [<-decide_not];congr 1;simp)|skip
def D(v v':Value):Prop:=(∃c,Gf v=some c)/\den v= .v v'
theorem D.vr{v v':Value}(h:D v v')(R:Mp):VR R v v':=by obtain ⟨⟨c,h1⟩,h2⟩:=h;exact Yc R h1 h2
theorem D.of{R:Mp}{a a':Value}(h:VR R a a'){c:Nat}(hc:Gf a=some c):D a a':=⟨⟨c,hc⟩,(qi h hc).1⟩
theorem D.norm{E:Env}(hE:Rb E){v v':Value}(h:D v v'):D (E.norm v) v':=by
 obtain ⟨⟨c,h1⟩,h2⟩:=h;exact ⟨JU hE h1,by rw [uD hE h1,h2]⟩
theorem D.jU{n k:Nat}(hk:k<=8)(hn:n<64){a a':Value}(ha:D a a'):D (sy (16*n+k) [a]) (fk k (Pm Interp.ρ n [Ma (.v a':Qc Interp.G)] ((IU k).getD .i64))):=by
 refine ⟨⟨k,JO hk _⟩, ?_⟩;rw [Xg hk hn];simp only [Tb,ha.2,List.map]
theorem D.yG{n k:Nat}(hk:k<=8)(hn:n<64){a a' b b':Value}(ha:D a a')(hb:D b b'):D (sy (16*n+k) [a,b]) (fk k (Pm Interp.ρ n [Ma (.v a':Qc Interp.G),Ma (.v b':Qc Interp.G)] ((IU k).getD .i64))):=by
 refine ⟨⟨k,JO hk _⟩, ?_⟩;rw [Xg hk hn];simp only [Tb,ha.2,hb.2,List.map]
theorem D.same{a a' b b':Value}(ha:D a a')(hb:D b b')(h:Lf 60 a b=true):a'=b':=by
 have:=Ee 60 a b h;rw [ha.2,hb.2]at this;cases this;rfl
theorem Ep{E:Env}(hE:Rb E){a b:Value}{k:IntKind}{m n:Int}(ha:D a (.int k m))(hb:D b (.int k n)):D (wO E a b) (.bool (decide (m=n))):=by
 unfold wO
 split
 . rename_i h;have:=ha.same hb h;cases this;exact ⟨⟨8,rfl⟩,by simp [den]⟩
 . split
   . have:=(D.yG (n:=16) (k:=8) (by decide) (by decide) ha hb).norm hE
     simp only [Ma,Pm,rq,jd]at this;by_cases e:m=n<;>simp [e]at this⊢<;>exact this
   . have:=(D.yG (n:=16) (k:=8) (by decide) (by decide) hb ha).norm hE
     simp only [Ma,Pm,rq,jd]at this;by_cases e:m=n
     . simp [e]at this⊢;exact this
     . have e':¬n=m:=fun q=>e q.symm
       simp [e,e']at this⊢;exact this
theorem Yn{E:Env}(hE:Rb E){a b:Value}{k:IntKind}{m n:Int}(ha:D a (.int k m))(hb:D b (.int k n)):D (ltS E a b) (.bool (decide (m<n))):=by
 unfold ltS
 split
 . rename_i h;have:=ha.same hb h;cases this;exact ⟨⟨8,rfl⟩,by simp [den]⟩
 . have:=(D.yG (n:=17) (k:=8) (by decide) (by decide) ha hb).norm hE
   simp only [Ma,Pm,rq,jd]at this;by_cases e:m<n<;>simp [e]at this⊢<;>exact this
theorem Al{E:Env}(hE:Rb E){x:Value}{b:Bool}(hx:D x (.bool b)){v:Value}(h:YA E x=some v):D v (.bool (!b)):=by
 unfold YA at h
 split at h
 . rename_i b0;cases h;have:=hx.2
   simp only [den]at this;cases this;exact ⟨⟨8,rfl⟩,by simp [den,Ae]⟩
 . rename_i t s l c
   split at h
   . rename_i ht;rw [Na]at ht;have ht:=of_decide_eq_true ht
     split at h
     . rename_i x0 h1;rw [Na]at h1;have h1:=of_decide_eq_true h1;subst h1
       split at h
       . rename_i k hk
         split at h
         . rename_i h8;cases h;rw [Na]at h8;have h8:=of_decide_eq_true h8;subst h8;obtain ⟨x',hd,hs⟩:=Nr hk;obtain ⟨b0,rfl⟩:=hs.bool;refine ⟨⟨8,hk⟩, ?_⟩;have:=(D.jU (n:=18) (k:=8) (by decide) (by decide) (⟨⟨8,hk⟩,hd⟩:D v (.bool b0))).2
           have h3:den (sy 296 [v])= .v (.bool b):=hx.2
           rw [show sy (16*18+8) [v]=sy 296 [v]from rfl,h3]at this;simp only [Ma,Pm,rq,jd]at this;rw [hd];cases b0<;>simp at this<;>subst this<;>rfl
         . cases h
       . cases h
     . cases h;have:=(D.jU (n:=18) (k:=8) (by decide) (by decide) hx).norm hE
       simp only [Ma,Pm,rq,jd]at this;cases b<;>simp at this⊢<;>exact this
   . cases h
 . cases h
theorem lJ{a:Value}{k:IntKind}{m:Int}(hs:Am a=true)(h:D a (.int k m)):k.wrap m=m:=by
 obtain ⟨⟨c,h1⟩,h2⟩:=h;exact Vac hs h1 h2
theorem qB{E:Env}(hE:Rb E){op:BinOp}{k:IntKind}{m n:Int}{a b v:Value}(ha:D a (.int k m))(hb:D b (.int k n))(h:EG E op (jc k) a b=some v):∃v',zl op k k m n=some v'/\D v v':=by
 have hk:=Tf k;unfold EG at h;cases op<;>simp only [opN]at h
 all_goals first
  |(cases h;done)
  |skip
 case eql=>cases h;exact ⟨_,by simp [zl],Ep hE ha hb⟩
 case neq=>exact ⟨_,by simp [zl],Al hE (Ep hE ha hb) h⟩
 case lss=>cases h;exact ⟨_,by simp [zl],Yn hE ha hb⟩
 case gtr=>cases h;exact ⟨_,by simp [zl],Yn hE hb ha⟩
 case leq=>exact ⟨_,by simp [zl],Al hE (Yn hE hb ha) h⟩
 case geq=>exact ⟨_,by simp [zl],Al hE (Yn hE ha hb) h⟩
 case add=>cases h;have:=(D.yG (n:=1) (k:=jc k) (by omega) (by decide) ha hb).norm hE;simp only [Ma,Pm,rq,Rc,Nd,Option.getD_some]at this;exact ⟨_,by simp [zl],this⟩
 case sub=>cases h;have:=(D.yG (n:=2) (k:=jc k) (by omega) (by decide) ha hb).norm hE;simp only [Ma,Pm,rq,Rc,Nd,Option.getD_some]at this;exact ⟨_,by simp [zl],this⟩
 case mul=>cases h;have:=(D.yG (n:=3) (k:=jc k) (by omega) (by decide) ha hb).norm hE;simp only [Ma,Pm,rq,Rc,Nd,Option.getD_some]at this;exact ⟨_,by simp [zl],this⟩
 case and=>cases h;have:=(D.yG (n:=4) (k:=jc k) (by omega) (by decide) ha hb).norm hE;simp only [Ma,Pm,rq,Rc,Nd,Option.getD_some]at this;exact ⟨_,by simp [zl],this⟩
 case or=>cases h;have:=(D.yG (n:=5) (k:=jc k) (by omega) (by decide) ha hb).norm hE;simp only [Ma,Pm,rq,Rc,Nd,Option.getD_some]at this;exact ⟨_,by simp [zl],this⟩
 case xor=>cases h;have:=(D.yG (n:=6) (k:=jc k) (by omega) (by decide) ha hb).norm hE;simp only [Ma,Pm,rq,Rc,Nd,Option.getD_some]at this;exact ⟨_,by simp [zl],this⟩
 case andNot=>cases h;have:=(D.yG (n:=7) (k:=jc k) (by omega) (by decide) ha hb).norm hE;simp only [Ma,Pm,rq,Rc,Nd,Option.getD_some]at this;exact ⟨_,by simp [zl],this⟩
theorem yq{E:Env}(hE:Rb E){R:Mp}{op:BinOp}{a b v a' b':Value}(ha:VR R a a')(hb:VR R b b')(h:ZA E op a b=some v):
  ∃v' k k' m n,a'= .int k m/\b'= .int k' n/\zl op k k' m n=some v'/\D v v':=by
 unfold ZA at h
 split at h
 . cases h
 . split at h
   . rename_i i j hi hj;obtain ⟨_,sa⟩:=qi ha hi;obtain ⟨_,sb⟩:=qi hb hj;have da:=D.of ha hi;have db:=D.of hb hj
     split at h
     . rename_i q n hs _ _
       split at h
       . rename_i h7;rw [yd]at h7;obtain ⟨k,m,rfl,rfl⟩:=sa.int (of_decide_eq_true h7);cases h;have e:=Wc hb;subst e;have hk:=Tf k;have:=(D.yG (n:=8) (k:=jc k) (by omega) (by decide) da db).norm hE
         simp only [Ma,Pm,rq,Rc,Nd,Option.getD_some]at this;exact ⟨_,k,q,m,_,rfl,rfl,rfl,this⟩
       . cases h
     . rename_i q n hs _ _
       split at h
       . rename_i h7;rw [yd]at h7;obtain ⟨k,m,rfl,rfl⟩:=sa.int (of_decide_eq_true h7);cases h;have e:=Wc hb;subst e;have hk:=Tf k;have:=(D.yG (n:=9) (k:=jc k) (by omega) (by decide) da db).norm hE
         simp only [Ma,Pm,rq,Rc,Nd,Option.getD_some]at this;have hw:=uq k (lJ hs da) (vq m (min n k.bits)).1 (vq m (min n k.bits)).2
         exact ⟨_,k,q,m,_,rfl,rfl,rfl,by simpa [hw]using this⟩
       . cases h
     . rename_i q n hs _ _
       split at h
       . rename_i Rm h7;rw [yd]at h7;rw [Na]at Rm;have Rm:=of_decide_eq_true Rm;obtain ⟨k,m,rfl,rfl⟩:=sa.int (of_decide_eq_true h7);cases h;have e:=Wc hb;subst e;have hk:=Tf k;simp only [Gf,Option.some.injEq]at hj;have e2:q=k:=Qb (by rw [Na];exact decide_eq_true (hj.trans Rm.symm));subst e2;have:=(D.yG (n:=11) (k:=jc q) (by omega) (by decide) da db).norm hE
         simp only [Ma,Pm,rq,Rc,Nd,Option.getD_some]at this;have h0:¬((Int.ofNat (n+1):Int)=0):=by simp;omega
         exact ⟨_,q,q,m,_,rfl,rfl,by simp only [zl,if_true];rw [if_neg h0],this⟩
       . cases h
     . rename_i q n hs _ _
       split at h
       . rename_i Rm h7;rw [yd]at h7;rw [Na]at Rm;have Rm:=of_decide_eq_true Rm;obtain ⟨k,m,rfl,rfl⟩:=sa.int (of_decide_eq_true h7);cases h;have e:=Wc hb;subst e;have hk:=Tf k;simp only [Gf,Option.some.injEq]at hj;have e2:q=k:=Qb (by rw [Na];exact decide_eq_true (hj.trans Rm.symm));subst e2;have:=(D.yG (n:=12) (k:=jc q) (by omega) (by decide) da db).norm hE
         simp only [Ma,Pm,rq,Rc,Nd,Option.getD_some]at this;have hw:=uq q (lJ hs da) (xq m (n+1:Nat)).1 (xq m (n+1:Nat)).2
         have h0:¬((Int.ofNat (n+1):Int)=0):=by simp;omega
         refine ⟨_,q,q,m,_,rfl,rfl,by simp only [zl,if_true];rw [if_neg h0], ?_⟩;rw [show((Int.ofNat (n+1)):Int)=((n+1:Nat):Int)from rfl,hw]at this;exact this
       . cases h
     . split at h
       . rename_i Rm h7;rw [yd]at h7;rw [Na]at Rm;have Rm:=of_decide_eq_true Rm;subst Rm;obtain ⟨k,m,rfl,e1⟩:=sa.int (of_decide_eq_true h7);obtain ⟨k2,n,rfl,e2⟩:=sb.int (of_decide_eq_true h7);have:k=k2:=Qb (by rw [Na];exact decide_eq_true (e1.symm.trans e2));subst this;subst e1;obtain ⟨v',q1,q2⟩:=qB hE da db h;exact ⟨v',k,k,m,n,rfl,rfl,q1,q2⟩
       . cases h
   . cases h
theorem xD{E:Env}(hE:Rb E){R:Mp}{op:UnOp}{x v x':Value}(hx:VR R x x')(h:xO E op x=some v):∃b,x'= .bool b/\op= .not/\D v (.bool (!b)):=by
 unfold xO at h
 split at h
 . cases h
 . split at h
   . have hq:Gf x=some 8:=by
      cases x with
      |bool b=>rfl
      |func f l c=>cases f with
       |methodOf t s=>
        simp only [YA]at h
        split at h
        . rename_i ht;rw [Na]at ht;have ht:=of_decide_eq_true ht;have:=vD (t:=t) (l:=[]) (by show t %16<=8;exact Nat.le_of_eq ht);simp only [Gf];rw [show Nat.mod t 16=8 from ht]
        . cases h
       |_=>simp [YA]at h
      |_=>simp [YA]at h
     obtain ⟨_,s⟩:=qi hx hq;obtain ⟨b,rfl⟩:=s.bool;exact ⟨b,rfl,rfl,Al hE (D.of hx hq) h⟩
   . cases h
theorem vy{E:Env}(hE:Rb E){R:Mp}{ss d:TypeId}{x v x':Value}(hx:VR R x x')(h:aB E ss d x=some v):∃v',(∀w,(convert ss d x').run E.P w= .ok v' w)/\D v v':=by
 unfold aB at h
 split at h
 . rename_i i j _ hs hi hj hjs
   split at h
   . rename_i k h7 hk;obtain ⟨ii,dd,hT⟩:=hE.is hj;rw [yd]at h7;obtain ⟨_,sa⟩:=qi hx hi;obtain ⟨q,m,rfl,rfl⟩:=sa.int (of_decide_eq_true h7);cases h;have hX:=Tf k;have:=(D.jU (n:=10) (k:=jc k) (by omega) (by decide) (D.of hx hi)).norm hE
     simp only [Ma,Pm,rq,Rc,Nd,Option.getD_some]at this;obtain ⟨_,u,hTs⟩:=hE.is hjs;have hu:=hTs.Sf;have hd:=hT.Sf;rw [hT.it hk]at hd;refine ⟨_,fun w=> ?_,this⟩;simp [convert,go_sem,Sa w hu,Sa w hd,Conv.intToInt]
   . cases h
 . cases h
end Sk
end Go.Proofs.YtfnkmolffhfpoaaGreat
