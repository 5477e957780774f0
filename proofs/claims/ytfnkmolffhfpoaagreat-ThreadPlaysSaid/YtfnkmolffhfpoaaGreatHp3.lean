/- -/
import Derived.Test.YtfnkmolffhfpoaaGreatHp2
import Derived.Laws.CopyRow
set_option linter.unusedVariables false
set_option linter.unusedSimpArgs false
set_option linter.unusedSectionVars false
namespace Go.Proofs.YtfnkmolffhfpoaaGreat
namespace Sk
variable[Interp]
theorem Cq(k:IntKind){m n:Int}(h:k.wrap m=m)(h1:min m 0<=n)(h2:n<=max m 0):k.wrap n=n:=by
 cases k<;>simp only [IntKind.wrap,IntKind.bits,IntKind.signed]at*<;>simp at*<;>(try split at h)<;>(try split)<;>omega
theorem Dq(m:Int)(j:Nat):min m 0<=m.fdiv (2^j)/\m.fdiv (2^j)<=max m 0:=by
 have hp:(0:Int)<2^j:=Int.pow_pos (by decide);rw [Int.fdiv_eq_ediv_of_nonneg m (Int.le_of_lt hp)];by_cases hm:0<=m
 . have h1:=Int.ediv_nonneg hm (Int.le_of_lt hp);have h2:=Int.ediv_le_self (2^j:Int) hm;omega
 . have h1:m/(2^j:Int)<0:=Int.ediv_neg_of_neg_of_pos (by omega) hp;have h2:m<=m/(2^j:Int):=by
    have:=Int.le_ediv_of_mul_le hp (a:=m) (b:=m) (by
     have:m*2^j<=m*1:=Int.mul_le_mul_of_nonpos_left (by omega) (by omega);omega)
    exact this
   omega
theorem Fq(m n:Int):min m 0<=m.tmod n/\m.tmod n<=max m 0:=by
 have h1:=Int.natAbs_tmod m n;have h2:(m.tmod n).natAbs<=m.natAbs:=by rw [h1];exact Nat.mod_le _ _
 by_cases hm:0<=m
 . have h3:=Int.tmod_nonneg n hm;omega
 . have h3:=Int.tmod_nonneg n (a:=-m) (by omega);rw [Int.neg_tmod]at h3;omega
theorem Taj{a:Value}{c:Nat}{k:IntKind}{m:Int}(hs:Bm a=true)(hc:Wf a=some c)(hd:den a= .v (.int k m)):k.wrap m=m:=by
 cases a with
 |func f l q=>cases f with
  |methodOf t s=>
   obtain ⟨rfl,h2⟩:=K3 hc;rw [Qf,Bl _ h2]at hd;rcases Nat.lt_or_ge (t %16) 8 with h8|h8
   . obtain ⟨k',h3,h4⟩:=qC (c:=t %16) (by omega);rw [<-h4,pd]at hd;injection hd with hd
     injection hd with e1 e2
     subst e1;rw [<-e2,wrap_wrap]
   . have:t %16=8:=Nat.le_antisymm h2 h8;rw [this,Dd]at hd;injection hd with hd
     cases hd
  |_=>simp [Bm]at hs
 |_=>simp [Bm]at hs
def Cl(op:BinOp)(k k':IntKind)(m n:Int):Option Value:=
 match op with
 | .shl=>if n<0 then none else some (.int k (k.wrap (m*2^min n.toNat k.bits)))
 | .shr=>if n<0 then none else some (.int k (m.fdiv (2^min n.toNat k.bits)))
 |op=>if k=k' then(match op with
  | .add=>some (.int k (k.wrap (m+n)))
  | .sub=>some (.int k (k.wrap (m -n)))
  | .mul=>some (.int k (k.wrap (m*n)))
  | .and| .or| .xor| .andNot=>some (.int k (k.wrap (WN op k m n)))
  | .quo=>if n=0 then none else some (.int k (k.wrap (m.tdiv n)))
  | .rem=>if n=0 then none else some (.int k (m.tmod n))
  | .eql=>some (.bool (decide (m=n)))
  | .neq=>some (.bool (!decide (m=n)))
  | .lss=>some (.bool (decide (m<n)))
  | .leq=>some (.bool (!decide (n<m)))
  | .gtr=>some (.bool (decide (n<m)))
  | .geq=>some (.bool (!decide (m<n)))
  |_=>none)else none
theorem QE{P:Program}{op:BinOp}{ty:TypeId}{x y:Operand}{k k':IntKind}{m n:Int}{v:Value}(h:Cl op k k' m n=some v)(w:World):
  (do eqGuard op ty x y (.int k m) (.int k' n);binOp op ty (.int k m) (.int k' n):Sem Value).run P w= .ok v w:=by
 cases op<;>simp only [Cl]at h
 all_goals first
  |(split at h<;>first|(cases h;done)|skip)
  |(cases h;done)
 all_goals first
  |(subst k';done)
  |skip
 all_goals try subst k'
 all_goals try (split at h<;>first|(cases h;done)|skip)
 all_goals
  cases h;simp_all [eqGuard,binOp,go_sem,Op.intArith,Op.intCmp,Op.intBits,Op.intDiv,Op.shift,WN]
 all_goals first|done|rfl|(congr 1;simp;done)|(by_cases e:m=n<;>simp [e];done)|(rw [<-decide_not];congr 1;simp)|skip
def D(v v':Value):Prop:=(∃c,Wf v=some c)/\den v= .v v'
theorem D.vr{v v':Value}(h:D v v')(R:Mp):VR R v v':=by obtain ⟨⟨c,h1⟩,h2⟩:=h;exact Yc R h1 h2
theorem D.of{R:Mp}{a a':Value}(h:VR R a a'){c:Nat}(hc:Wf a=some c):D a a':=⟨⟨c,hc⟩,(Qi h hc).1⟩
theorem D.norm{E:Env}(hE:Yb E){v v':Value}(h:D v v'):D (E.norm v) v':=by
 obtain ⟨⟨c,h1⟩,h2⟩:=h;exact ⟨uY hE h1,by rw [ME hE h1,h2]⟩
theorem D.UX{n k:Nat}(hk:k<=8)(hn:n<64){a a':Value}(ha:D a a'):D (sy (16*n+k) [a]) (fk k (Sm Interp.ρ n [Oa (.v a':Tc Interp.G)] ((tY k).getD .i64))):=by
 refine ⟨⟨k,qR hk _⟩, ?_⟩;rw [Ch hk hn];simp only [mc,ha.2,List.map]
theorem D.RH{n k:Nat}(hk:k<=8)(hn:n<64){a a' b b':Value}(ha:D a a')(hb:D b b'):D (sy (16*n+k) [a,b]) (fk k (Sm Interp.ρ n [Oa (.v a':Tc Interp.G),Oa (.v b':Tc Interp.G)] ((tY k).getD .i64))):=by
 refine ⟨⟨k,qR hk _⟩, ?_⟩;rw [Ch hk hn];simp only [mc,ha.2,hb.2,List.map]
theorem D.same{a a' b b':Value}(ha:D a a')(hb:D b b')(h:re 60 a b=true):a'=b':=by
 have:=Hf 60 a b h;rw [ha.2,hb.2]at this;cases this;rfl
theorem Ip{E:Env}(hE:Yb E){a b:Value}{k:IntKind}{m n:Int}(ha:D a (.int k m))(hb:D b (.int k n)):D (dR E a b) (.bool (decide (m=n))):=by
 unfold dR
 split
 . rename_i h;have:=ha.same hb h;cases this;exact ⟨⟨8,rfl⟩,by simp [den]⟩
 . split
   . have:=(D.RH (n:=16) (k:=8) (by decide) (by decide) ha hb).norm hE
     simp only [Oa,Sm,Aq,Dd]at this;by_cases e:m=n<;>simp [e]at this⊢<;>exact this
   . have:=(D.RH (n:=16) (k:=8) (by decide) (by decide) hb ha).norm hE
     simp only [Oa,Sm,Aq,Dd]at this;by_cases e:m=n
     . simp [e]at this⊢;exact this
     . have e':¬n=m:=fun q=>e q.symm
       simp [e,e']at this⊢;exact this
theorem uo{E:Env}(hE:Yb E){a b:Value}{k:IntKind}{m n:Int}(ha:D a (.int k m))(hb:D b (.int k n)):D (ltS E a b) (.bool (decide (m<n))):=by
 unfold ltS
 split
 . rename_i h;have:=ha.same hb h;cases this;exact ⟨⟨8,rfl⟩,by simp [den]⟩
 . have:=(D.RH (n:=17) (k:=8) (by decide) (by decide) ha hb).norm hE
   simp only [Oa,Sm,Aq,Dd]at this;by_cases e:m<n<;>simp [e]at this⊢<;>exact this
theorem Dl{E:Env}(hE:Yb E){x:Value}{b:Bool}(hx:D x (.bool b)){v:Value}(h:ZB E x=some v):D v (.bool (!b)):=by
 unfold ZB at h
 split at h
 . rename_i b0;cases h;have:=hx.2
   simp only [den]at this;cases this;exact ⟨⟨8,rfl⟩,by simp [den,Cd]⟩
 . rename_i t s l c
   split at h
   . rename_i ht;rw [Va]at ht;have ht:=of_decide_eq_true ht
     split at h
     . rename_i x0 h1;rw [Va]at h1;have h1:=of_decide_eq_true h1;subst h1
       split at h
       . rename_i k hk
         split at h
         . rename_i h8;cases h;rw [Va]at h8;have h8:=of_decide_eq_true h8;subst h8;obtain ⟨x',hd,hs⟩:=Zr hk;obtain ⟨b0,rfl⟩:=hs.bool;refine ⟨⟨8,hk⟩, ?_⟩;have:=(D.UX (n:=18) (k:=8) (by decide) (by decide) (⟨⟨8,hk⟩,hd⟩:D v (.bool b0))).2
           have h3:den (sy 296 [v])= .v (.bool b):=hx.2
           rw [show sy (16*18+8) [v]=sy 296 [v]from rfl,h3]at this;simp only [Oa,Sm,Aq,Dd]at this;rw [hd];cases b0<;>simp at this<;>subst this<;>rfl
         . cases h
       . cases h
     . cases h;have:=(D.UX (n:=18) (k:=8) (by decide) (by decide) hx).norm hE
       simp only [Oa,Sm,Aq,Dd]at this;cases b<;>simp at this⊢<;>exact this
   . cases h
 . cases h
theorem LK{a:Value}{k:IntKind}{m:Int}(hs:Bm a=true)(h:D a (.int k m)):k.wrap m=m:=by
 obtain ⟨⟨c,h1⟩,h2⟩:=h;exact Taj hs h1 h2
theorem rC{E:Env}(hE:Yb E){op:BinOp}{k:IntKind}{m n:Int}{a b v:Value}(ha:D a (.int k m))(hb:D b (.int k n))(h:cI E op (Hc k) a b=some v):∃v',Cl op k k m n=some v'/\D v v':=by
 have hk:=Ag k;unfold cI at h;cases op<;>simp only [opN]at h
 all_goals first
  |(cases h;done)
  |skip
 case eql=>cases h;exact ⟨_,by simp [Cl],Ip hE ha hb⟩
 case neq=>exact ⟨_,by simp [Cl],Dl hE (Ip hE ha hb) h⟩
 case lss=>cases h;exact ⟨_,by simp [Cl],uo hE ha hb⟩
 case gtr=>cases h;exact ⟨_,by simp [Cl],uo hE hb ha⟩
 case leq=>exact ⟨_,by simp [Cl],Dl hE (uo hE hb ha) h⟩
 case geq=>exact ⟨_,by simp [Cl],Dl hE (uo hE ha hb) h⟩
 case add=>cases h;have:=(D.RH (n:=1) (k:=Hc k) (by omega) (by decide) ha hb).norm hE;simp only [Oa,Sm,Aq,pd,je,Option.getD_some]at this;exact ⟨_,by simp [Cl],this⟩
 case sub=>cases h;have:=(D.RH (n:=2) (k:=Hc k) (by omega) (by decide) ha hb).norm hE;simp only [Oa,Sm,Aq,pd,je,Option.getD_some]at this;exact ⟨_,by simp [Cl],this⟩
 case mul=>cases h;have:=(D.RH (n:=3) (k:=Hc k) (by omega) (by decide) ha hb).norm hE;simp only [Oa,Sm,Aq,pd,je,Option.getD_some]at this;exact ⟨_,by simp [Cl],this⟩
 case and=>cases h;have:=(D.RH (n:=4) (k:=Hc k) (by omega) (by decide) ha hb).norm hE;simp only [Oa,Sm,Aq,pd,je,Option.getD_some]at this;exact ⟨_,by simp [Cl],this⟩
 case or=>cases h;have:=(D.RH (n:=5) (k:=Hc k) (by omega) (by decide) ha hb).norm hE;simp only [Oa,Sm,Aq,pd,je,Option.getD_some]at this;exact ⟨_,by simp [Cl],this⟩
 case xor=>cases h;have:=(D.RH (n:=6) (k:=Hc k) (by omega) (by decide) ha hb).norm hE;simp only [Oa,Sm,Aq,pd,je,Option.getD_some]at this;exact ⟨_,by simp [Cl],this⟩
 case andNot=>cases h;have:=(D.RH (n:=7) (k:=Hc k) (by omega) (by decide) ha hb).norm hE;simp only [Oa,Sm,Aq,pd,je,Option.getD_some]at this;exact ⟨_,by simp [Cl],this⟩
theorem Gq{E:Env}(hE:Yb E){R:Mp}{op:BinOp}{a b v a' b':Value}(ha:VR R a a')(hb:VR R b b')(h:aC E op a b=some v):
  ∃v' k k' m n,a'= .int k m/\b'= .int k' n/\Cl op k k' m n=some v'/\D v v':=by
 unfold aC at h
 split at h
 . cases h
 . split at h
   . rename_i i j hi hj;obtain ⟨_,sa⟩:=Qi ha hi;obtain ⟨_,sb⟩:=Qi hb hj;have da:=D.of ha hi;have db:=D.of hb hj
     split at h
     . rename_i q n hs _ _
       split at h
       . rename_i h7;rw [xd]at h7;obtain ⟨k,m,rfl,rfl⟩:=sa.int (of_decide_eq_true h7);cases h;have e:=qc hb;subst e;have hk:=Ag k;have:=(D.RH (n:=8) (k:=Hc k) (by omega) (by decide) da db).norm hE
         simp only [Oa,Sm,Aq,pd,je,Option.getD_some]at this;exact ⟨_,k,q,m,_,rfl,rfl,rfl,this⟩
       . cases h
     . rename_i q n hs _ _
       split at h
       . rename_i h7;rw [xd]at h7;obtain ⟨k,m,rfl,rfl⟩:=sa.int (of_decide_eq_true h7);cases h;have e:=qc hb;subst e;have hk:=Ag k;have:=(D.RH (n:=9) (k:=Hc k) (by omega) (by decide) da db).norm hE
         simp only [Oa,Sm,Aq,pd,je,Option.getD_some]at this;have hw:=Cq k (LK hs da) (Dq m (min n k.bits)).1 (Dq m (min n k.bits)).2
         exact ⟨_,k,q,m,_,rfl,rfl,rfl,by simpa [hw]using this⟩
       . cases h
     . rename_i q n hs _ _
       split at h
       . rename_i Vm h7;rw [xd]at h7;rw [Va]at Vm;have Vm:=of_decide_eq_true Vm;obtain ⟨k,m,rfl,rfl⟩:=sa.int (of_decide_eq_true h7);cases h;have e:=qc hb;subst e;have hk:=Ag k;simp only [Wf,Option.some.injEq]at hj;have e2:q=k:=Zb (by rw [Va];exact decide_eq_true (hj.trans Vm.symm));subst e2;have:=(D.RH (n:=11) (k:=Hc q) (by omega) (by decide) da db).norm hE
         simp only [Oa,Sm,Aq,pd,je,Option.getD_some]at this;have h0:¬((Int.ofNat (n+1):Int)=0):=by simp;omega
         exact ⟨_,q,q,m,_,rfl,rfl,by simp only [Cl,if_true];rw [if_neg h0],this⟩
       . cases h
     . rename_i q n hs _ _
       split at h
       . rename_i Vm h7;rw [xd]at h7;rw [Va]at Vm;have Vm:=of_decide_eq_true Vm;obtain ⟨k,m,rfl,rfl⟩:=sa.int (of_decide_eq_true h7);cases h;have e:=qc hb;subst e;have hk:=Ag k;simp only [Wf,Option.some.injEq]at hj;have e2:q=k:=Zb (by rw [Va];exact decide_eq_true (hj.trans Vm.symm));subst e2;have:=(D.RH (n:=12) (k:=Hc q) (by omega) (by decide) da db).norm hE
         simp only [Oa,Sm,Aq,pd,je,Option.getD_some]at this;have hw:=Cq q (LK hs da) (Fq m (n+1:Nat)).1 (Fq m (n+1:Nat)).2
         have h0:¬((Int.ofNat (n+1):Int)=0):=by simp;omega
         refine ⟨_,q,q,m,_,rfl,rfl,by simp only [Cl,if_true];rw [if_neg h0], ?_⟩;rw [show((Int.ofNat (n+1)):Int)=((n+1:Nat):Int)from rfl,hw]at this;exact this
       . cases h
     . split at h
       . rename_i Vm h7;rw [xd]at h7;rw [Va]at Vm;have Vm:=of_decide_eq_true Vm;subst Vm;obtain ⟨k,m,rfl,e1⟩:=sa.int (of_decide_eq_true h7);obtain ⟨k2,n,rfl,e2⟩:=sb.int (of_decide_eq_true h7);have:k=k2:=Zb (by rw [Va];exact decide_eq_true (e1.symm.trans e2));subst this;subst e1;obtain ⟨v',q1,q2⟩:=rC hE da db h;exact ⟨v',k,k,m,n,rfl,rfl,q1,q2⟩
       . cases h
   . cases h
theorem RE{E:Env}(hE:Yb E){R:Mp}{op:UnOp}{x v x':Value}(hx:VR R x x')(h:eR E op x=some v):∃b,x'= .bool b/\op= .not/\D v (.bool (!b)):=by
 unfold eR at h
 split at h
 . cases h
 . split at h
   . have hq:Wf x=some 8:=by
      cases x with
      |bool b=>rfl
      |func f l c=>cases f with
       |methodOf t s=>
        simp only [ZB]at h
        split at h
        . rename_i ht;rw [Va]at ht;have ht:=of_decide_eq_true ht;have:=PE (t:=t) (l:=[]) (by show t %16<=8;exact Nat.le_of_eq ht);simp only [Wf];rw [show Nat.mod t 16=8 from ht]
        . cases h
       |_=>simp [ZB]at h
      |_=>simp [ZB]at h
     obtain ⟨_,s⟩:=Qi hx hq;obtain ⟨b,rfl⟩:=s.bool;exact ⟨b,rfl,rfl,Dl hE (D.of hx hq) h⟩
   . cases h
theorem Mz{E:Env}(hE:Yb E){R:Mp}{ss d:TypeId}{x v x':Value}(hx:VR R x x')(h:bC E ss d x=some v):∃v',(∀w,(convert ss d x').run E.P w= .ok v' w)/\D v v':=by
 unfold bC at h
 split at h
 . rename_i i j _ hs hi hj hjs
   split at h
   . rename_i k h7 hk;obtain ⟨ii,dd,hT⟩:=hE.is hj;rw [xd]at h7;obtain ⟨_,sa⟩:=Qi hx hi;obtain ⟨q,m,rfl,rfl⟩:=sa.int (of_decide_eq_true h7);cases h;have M3:=Ag k;have:=(D.UX (n:=10) (k:=Hc k) (by omega) (by decide) (D.of hx hi)).norm hE
     simp only [Oa,Sm,Aq,pd,je,Option.getD_some]at this;obtain ⟨_,u,hTs⟩:=hE.is hjs;have hu:=hTs.zg;have hd:=hT.zg;rw [hT.it hk]at hd;refine ⟨_,fun w=> ?_,this⟩;simp [convert,go_sem,eb w hu,eb w hd,Conv.intToInt]
   . cases h
 . cases h
end Sk
end Go.Proofs.YtfnkmolffhfpoaaGreat
namespace Go.Proofs.YtfnkmolffhfpoaaGreat
namespace Sk
variable[Interp]
theorem El{α:Type}(P:Program):∀(e:Sem α) (a:α),Xd P e=some a->∀w,e.run P w= .ok a w
 | .pure a,b,h,w=>by simp [Xd]at h;subst h;rfl
 | .program k,b,h,w=>by simp only [Xd]at h;exact El P (k P) b h w
 | .load ..,b,h,w=>by simp [Xd]at h
 | .store ..,b,h,w=>by simp [Xd]at h
 | .new ..,b,h,w=>by simp [Xd]at h
 | .shape ..,b,h,w=>by simp [Xd]at h
 | .freeze ..,b,h,w=>by simp [Xd]at h
 | .frozen ..,b,h,w=>by simp [Xd]at h
 | .getObj ..,b,h,w=>by simp [Xd]at h
 | .setObj ..,b,h,w=>by simp [Xd]at h
 | .choose ..,b,h,w=>by simp [Xd]at h
 | .sys ..,b,h,w=>by simp [Xd]at h
 | .mark ..,b,h,w=>by simp [Xd]at h
 | .halt ..,b,h,w=>by simp [Xd]at h
theorem Hq{x:Option Value}{v:Value}(h:AE x=some v):x=some v/\Sk.flat v=true:=by
 unfold AE at h
 split at h
 . split at h
   . cases h;exact ⟨rfl,‹_›⟩
   . cases h
 . cases h
theorem YN(op:BinOp)(k:IntKind)(a b:Int)(v:Value)(h:pY op k a b=some v){P:Program}(ty:TypeId)(x y:Operand)(w:World):
  (do eqGuard op ty x y (.int k a) (.int k b);binOp op ty (.int k a) (.int k b):Sem Value).run P w= .ok v w:=by
 cases op<;>simp only [pY]at h<;>first|(cases h;done)|skip
 all_goals
  cases h;simp [eqGuard,binOp,go_sem,Op.intArith,Op.intCmp,Qm,Cd,lC,Sd]
 all_goals first|rfl|(rw [<-decide_not];congr 1;simp;done)|skip
theorem jw{P:Program}{op:BinOp}{ty:TypeId}{x y:Operand}{a b v:Value}{R:Mp}{a' b':Value}(ha:VR R a a')(hb:VR R b b')(h:UN P op ty x y a b=some v)(w:World):
  (do eqGuard op ty x y a' b';binOp op ty a' b':Sem Value).run P w= .ok v w:=by
 unfold UN at h
 split at h
 . rename_i v0 h0;cases h
   split at h0
   . rename_i k m k' n
     split at h0
     . rename_i hk;have:=Zb hk;subst this;rw [qc ha,qc hb];exact YN op k m n v h0 ty x y w
     . cases h0
   . cases h0
 . split at h
   . rename_i h1
     split at h
     . rename_i h2;rw [Hp ha h1,Hp hb h2];exact El P _ v (Hq h).1 w
     . cases h
   . cases h
theorem FA{P:Program}{op:BinOp}{ty:TypeId}{x y:Operand}{a b v:Value}(h:UN P op ty x y a b=some v):Sk.flat v=true:=by
 unfold UN at h
 split at h
 . rename_i v0 h0;cases h
   split at h0
   . split at h0
     . unfold pY at h0
       split at h0<;>first|(cases h0;rfl)|cases h0
     . cases h0
   . cases h0
 . split at h
   . split at h
     . exact (Hq h).2
     . cases h
   . cases h
theorem Fl{R:Mp}(place:Nat->Option (Nat×Nat)):∀(ps ps':List (Nat×Value)) (c c':List Value) (r:List Value),ps.length=ps'.length->
  (∀(i:Nat) (p q:Nat×Value),ps[i]?=some p->ps'[i]?=some q->p.1=q.1/\VR R p.2 q.2)->LR R c c'->ld place ps c=some r->∃r':List Value,LR R r r'/\Instr.fill place ⟨c'⟩ ps'=some ⟨r'⟩
 |[],ps',c,c',r,hl,hp,hc,h=>by
  have:ps'=[]:=by simpa using hl.symm
  subst this;simp [ld]at h;subst h;exact ⟨c',hc,by simp [Instr.fill]⟩
 |p::ps,[],c,c',r,hl,hp,hc,h=>by simp at hl
 |p::ps,q::ps',c,c',r,hl,hp,hc,h=>by
  obtain ⟨h1,h2⟩:=hp 0 p q rfl rfl;obtain ⟨i,v⟩:=p;obtain ⟨j,u⟩:=q;simp only at h1 h2;subst h1;simp only [ld]at h;cases Gz:place i with
  |none=>rw [Gz]at h;cases h
  |some os=>
   obtain ⟨o,s⟩:=os;rw [Gz]at h;simp only [Va,Dc]at h;by_cases hs:(Ra v).length=s
   . simp only [hs,decide_true]at h;cases rR:Km o c (Ra v)with
     |none=>rw [rR]at h;cases h
     |some c2=>
      rw [rR]at h;simp only at h;obtain ⟨hb,rfl⟩:=Yr _ _ _ _ rR;have Iq:=tk h2;have hus:u.cells.size=s:=by rw [<-hs,Iq.1,yd];simp
      have NQ:LR R (c.take o++Ra v++c.drop (o+(Ra v).length)) (c'.take o++Ra u++c'.drop (o+(Ra u).length)):=by
       rw [Iq.1];exact LR.append (LR.append (hc.take o) Iq) (hc.drop _)
      have hlen:u.cells.toList.length=s:=by simpa using hus
      obtain ⟨r',h3,h4⟩:=Fl place ps ps' _ (c'.take o++Ra u++c'.drop (o+(Ra u).length)) r (by simpa using hl) (fun i p q a b=>hp (i+1) p q (by simpa using a) (by simpa using b)) NQ h;refine ⟨r',h3, ?_⟩;have hf:(u.cells.zipIdx.foldl (fun cs (x:Value×Nat)=>cs.setIfInBounds (o+x.2) x.1) (⟨c'⟩:Array Value))=⟨c'.take o++Ra u++c'.drop (o+(Ra u).length)⟩:=by
       rw [yd,<-Array.foldl_toList];have hz:u.cells.zipIdx.toList=u.cells.toList.zipIdx:=by simp
       rw [hz];have SE:o+u.cells.toList.length<=c'.length:=by rw [hlen,<-hs,<-hc.1];exact hb
       generalize u.cells.toList=us at SE;have key:∀(us:List Value) (k:Nat) (cs:List Value),o+k+us.length<=cs.length->
         (us.zipIdx k).foldl (fun(cs:Array Value) (x:Value×Nat)=>cs.setIfInBounds (o+x.2) x.1) ⟨cs⟩=⟨cs.take (o+k)++us++cs.drop (o+k+us.length)⟩:=by
        intro us
        induction us with
        |nil=>intro k cs _;simp
        |cons x us ih=>
         intro k cs hk;simp only [List.zipIdx_cons,List.foldl_cons];have hk:o+k+(us.length+1)<=cs.length:=by simpa using hk
         have e1:(⟨cs⟩:Array Value).setIfInBounds (o+k) x=⟨cs.set (o+k) x⟩:=by simp
         rw [e1,ih (k+1) (cs.set (o+k) x) (by simp;omega)];have e2:=list_seg_step cs (o+k) x us (by omega);have e3:o+(k+1)=o+k+1:=by omega
         rw [e3]
         simpa [Nat.add_assoc]using e2
       simpa using key us 0 c' (by simpa using SE)
      have mj:¬(o+u.cells.size>(⟨c'⟩:Array Value).size):=by rw [hus,<-hs];simp only [List.size_toArray];rw [<-hc.1];omega
      simp only [Instr.fill,Gz];rw [if_neg (by simp only [hus];simp;rw [hus]at mj;simpa using mj)];rw [hf];exact h4
   . simp only [hs,decide_false]at h;cases h
theorem As{R:Mp}{t:Tm}{a:Act}(ht:TR R t a.tmps):∀{ps:List (Nat×Operand)} {vs:List (Nat×Value)},TX t ps=some vs->
  vs.length=(ps.map fun p=>(p.1,a.eval p.2)).length/\∀(i:Nat) (p q:Nat×Value),vs[i]?=some p->(ps.map fun p=>(p.1,a.eval p.2))[i]?=some q->p.1=q.1/\VR R p.2 q.2
 |[],vs,h=>by simp [TX]at h;subst h;exact ⟨rfl,fun i p q a=>by simp at a⟩
 |p::ps,vs,h=>by
  simp only [TX]at h;cases h1:ev t p.2 with
  |none=>rw [h1]at h;cases h
  |some v=>
   cases h2:TX t ps with
   |none=>rw [h1,h2]at h;cases h
   |some l=>
    rw [h1,h2]at h;cases h;obtain ⟨k1,k2⟩:=As ht h2;refine ⟨by simpa using k1,fun i x y hx hy=> ?_⟩;cases i with
    |zero=>simp at hx hy;subst hx;subst hy;exact ⟨rfl,Qa ht h1⟩
    |succ i=>exact k2 i x y (by simpa using hx) (by simpa using hy)
theorem Dh{P:Program}{e:Sem Value}{v:Value}{w w':World}(h:e.run P w= .ok v w'):(do pure (Next.value (<-e)):Sem Next).run P w= .ok (.value v) w':=by simp [go_sem,h]
section
variable{E:Env}(hE:Yb E){R:Mp}{t:Tm}{a:Act}(ht:TR R t a.tmps)
include hE ht
theorem Ku{dst:Option Tmp}{ty:TypeId}{x:Operand}{i:Nat}{tp:TypeId}{pos:String}{af:Array Edge}{g:Option (Nat×Bool)}{v:Value}(h:Sa E t (.fieldAddr ty x i)=some v):
  ∃v',VR R v v'/\∀w,(execOp a.eval ⟨dst, .fieldAddr ty x i,tp,pos,af,g⟩).run E.P w= .ok (.value v') w:=by
 simp only [Sa]at h
 split at h
 . rename_i b o hx
   split at h
   . rename_i j hj;obtain ⟨ii,d,hT⟩:=hE.is hj
     split at h
     . rename_i fs vY
       split at h
       . rename_i f hf;obtain ⟨F,rfl,rfl⟩:=hT.st vY;obtain ⟨gf,hg,rfl⟩:=Zv hf;simp only at h
         split at h
         . cases h
         . rename_i n hn;cases h;obtain ⟨fi,hfi,vY⟩:=pC hn;obtain ⟨b',s,hb,hv⟩:=ji (Qa ht hx);refine ⟨_, .ptr b _ b' s hb,fun w=>Dh ?_⟩;rw [hv];simp [Instr.fieldAt,go_sem,eb w hT.zg,hg,hfi,vY,Hd,fieldPlace]
       . cases h
     . cases h
   . cases h
 . cases h
omit ht in
theorem TE{ty:TypeId}{u u':Value}{k:IntKind}{j:Nat}{v:Value}(hu:VR R u u')(h:cC E ty u j=some v):
  ∃v',VR R v v'/\∀w,(Instr.indexAt ty u' (.int k (.ofNat j))).run E.P w= .ok v' w:=by
 unfold cC at h
 split at h
 . rename_i q hq;obtain ⟨ii,d,hT⟩:=hE.is hq
   split at h
   . rename_i e ad n z Le
     split at h
     . rename_i Db;rw [xd]at Db;have Db:j+1<=n:=of_decide_eq_true Db
       split at h
       . rename_i ie Im;cases h;obtain ⟨ei,ed,sh⟩:=hE.is Im;have:=hT.sl Le;subst this;obtain ⟨b',s,c',hb,rfl,_,_⟩:=Um hu (by omega);refine ⟨_, .ptr _ _ b' s hb,fun w=> ?_⟩;have Wae:(j:Int)<n:=by omega
         have hj0:(0:Int)<=j:=by omega
         simp [Instr.indexAt,go_sem,asIntOf,eb w hT.zg,Hd w sh.info,sh.size,Wae,hj0];exact fun hh=>absurd hh (by omega)
       . cases h
     . cases h
   . rename_i n e b o Le
     split at h
     . rename_i Db;rw [xd]at Db;have Db:j+1<=n:=of_decide_eq_true Db
       split at h
       . rename_i ie Im;cases h;obtain ⟨ei,ed,sh⟩:=hE.is Im;have:=hT.ar Le;subst this;obtain ⟨b',s,hb,rfl⟩:=ji hu;refine ⟨_, .ptr _ _ b' s hb,fun w=> ?_⟩;have Wae:(j:Int)<n:=by omega
         have hj0:(0:Int)<=j:=by omega
         simp [Instr.indexAt,go_sem,asIntOf,eb w hT.zg,Hd w sh.info,sh.size,Wae,hj0,Instr.sureAddr];exact fun hh=>absurd hh (by omega)
       . cases h
     . cases h
   . cases h
 . cases h
theorem UE{dst:Option Tmp}{ty:TypeId}{x i:Operand}{tp:TypeId}{pos:String}{af:Array Edge}{g:Option (Nat×Bool)}{v:Value}(h:Sa E t (.indexAddr ty x i)=some v):
  ∃v',VR R v v'/\∀w,(execOp a.eval ⟨dst, .indexAddr ty x i,tp,pos,af,g⟩).run E.P w= .ok (.value v') w:=by
 simp only [Sa]at h
 split at h
 . rename_i k j hi;have e1:=qc (Qa ht hi)
   split at h
   . rename_i u hx;obtain ⟨v',h1,h2⟩:=TE hE (k:=k) (Qa ht hx) h;exact ⟨v',h1,fun w=>Dh (by rw [e1];exact h2 w)⟩
   . cases h
 . cases h
theorem VE{dst:Option Tmp}{ty:TypeId}{ps:Array (Nat×Operand)}{tp:TypeId}{pos:String}{af:Array Edge}{g:Option (Nat×Bool)}{v:Value}(h:Sa E t (.build ty ps)=some v):
  ∃v',VR R v v'/\∀w,(execOp a.eval ⟨dst, .build ty ps,tp,pos,af,g⟩).run E.P w= .ok (.value v') w:=by
 simp only [Sa]at h
 split at h
 . rename_i i hi;obtain ⟨ii,d,hT⟩:=hE.is hi
   split at h
   . rename_i z vs hz sR;obtain ⟨Mi,uh⟩:=hT.zero hz;obtain ⟨hl,hp⟩:=As ht sR;have VX:LR R (Ra z) z.cells.toList:=by rw [<-yd];exact tk (Bf R uh)
     have hps:(ps.map fun(i,x)=>(i,a.eval x)).toList=ps.toList.map fun p=>(p.1,a.eval p.2):=by simp
     split at h
     . rename_i fs vY;obtain ⟨F,rfl,rfl,Ug⟩:=hT.J3 vY;cases hf:ld (fieldAt (fieldsOf E.P F)) vs (Ra z)with
       |none=>rw [hf]at h;simp [Nv]at h
       |some r=>
        rw [hf]at h;simp only [Nv]at h;cases h;obtain ⟨r',hr,GA⟩:=Fl (R:=R) _ _ _ _ _ _ hl hp VX hf;refine ⟨.agg ⟨r'⟩,hr.agg,fun w=>Dh ?_⟩;refine run_build w ty _ ⟨r'⟩ ?_
        unfold Program.built;rw [hT.info,hT.zg];have hm:F.toList.mapM (fun f=>(E.P.info? f.type).map fun i=>(f.offset,i.size))=some (F.toList.map fun f=>(f.offset,E.P.cellsOf f.type)):=by
         generalize F.toList=L at Ug;clear hf vY hT
         induction L with
         |nil=>simp
         |cons f L ih=>
          simp only [List.all_cons,Bool.and_eq_true]at Ug;obtain ⟨j,hj⟩:=Option.isSome_iff_exists.1 Ug.1
          simp only [List.mapM_cons,hj,ih Ug.2];simp [Program.cellsOf,hj]
        simp only [Mi,hm];have Gz:(fun i=>(F.toList.map fun f=>(f.offset,E.P.cellsOf f.type)).toArray[i]?)=fieldAt (fieldsOf E.P F):=by
         funext i
         unfold fieldAt fieldsOf;rw [Pc];simp only [List.getElem?_toArray,List.getElem?_map];cases F.toList[i]?<;>rfl
        rw [hps,Gz];exact GA
     . rename_i n e Le;have:=hT.ar Le;subst this
       split at h
       . rename_i ie Im;obtain ⟨ei,ed,sh⟩:=hE.is Im;cases hf:ld (fun i=>some (Nat.mul i ie.size,ie.size)) vs (Ra z)with
         |none=>rw [hf]at h;simp [Nv]at h
         |some r=>
          rw [hf]at h;simp only [Nv]at h;cases h;obtain ⟨r',hr,GA⟩:=Fl (R:=R) _ _ _ _ _ _ hl hp VX hf;refine ⟨.agg ⟨r'⟩,hr.agg,fun w=>Dh ?_⟩;refine run_build w ty _ ⟨r'⟩ ?_
          unfold Program.built;rw [hT.info,hT.zg];simp only [Mi,sh.info];rw [hps,sh.size];exact GA
       . cases h
     . cases h
   . cases h
 . cases h
theorem WE{dst:Option Tmp}{ty:TypeId}{x:Operand}{i:Nat}{tp:TypeId}{pos:String}{af:Array Edge}{g:Option (Nat×Bool)}{v:Value}(h:Sa E t (.field ty x i)=some v):
  ∃v',VR R v v'/\∀w,(execOp a.eval ⟨dst, .field ty x i,tp,pos,af,g⟩).run E.P w= .ok (.value v') w:=by
 simp only [Sa]at h
 split at h
 . rename_i j l hj hx;obtain ⟨ii,d,hT⟩:=hE.is hj
   split at h
   . rename_i fs vY
     split at h
     . rename_i f hf;obtain ⟨F,rfl,rfl⟩:=hT.st vY;obtain ⟨gf,hg,rfl⟩:=Zv hf;obtain ⟨l',hl,hv⟩:=mi (Qa ht hx);obtain ⟨v',h1,h2⟩:=lI hE hl h;refine ⟨v',h1,fun w=>Dh ?_⟩;rw [hv];simp [Instr.field,eb w hT.zg,hg,asAgg,Result.andThen];exact h2 w
     . cases h
   . cases h
 . cases h
theorem mI{dst:Option Tmp}{c x y:Operand}{tp:TypeId}{pos:String}{af:Array Edge}{g:Option (Nat×Bool)}{v:Value}(h:Sa E t (.pick c x y)=some v):
  ∃v',VR R v v'/\∀w,(execOp a.eval ⟨dst, .pick c x y,tp,pos,af,g⟩).run E.P w= .ok (.value v') w:=by
 simp only [Sa]at h
 split at h
 . rename_i hc;exact ⟨_,Qa ht h,fun w=>by simp only [execOp];rw [Jh (Qa ht hc)];simp [asBool]⟩
 . rename_i hc;exact ⟨_,Qa ht h,fun w=>by simp only [execOp];rw [Jh (Qa ht hc)];simp [asBool]⟩
 . cases h
theorem ZN{dst:Option Tmp}{x:Operand}{tp:TypeId}{pos:String}{af:Array Edge}{g:Option (Nat×Bool)}{v:Value}(h:Sa E t (.nilCheck x)=some v):
  ∃v',VR R v v'/\∀w,(execOp a.eval ⟨dst, .nilCheck x,tp,pos,af,g⟩).run E.P w= .ok (.value v') w:=by
 simp only [Sa]at h
 split at h
 . rename_i u hx;have hu:=Qa ht hx
   split at h
   . cases h;obtain ⟨b,o,b',s,rfl,hb,hv⟩:=KK hu;exact ⟨_, .ptr b o b' s hb,fun w=>by simp only [execOp];rw [hv];simp⟩
   . cases h;refine ⟨a.eval x,hu,fun w=> ?_⟩;simp only [execOp];generalize a.eval x=q at hu;cases hu<;>simp
   . cases h;refine ⟨a.eval x,hu,fun w=> ?_⟩;simp only [execOp];generalize a.eval x=q at hu;cases hu<;>simp
   . cases h
 . cases h
theorem nI{dst:Option Tmp}{tp:TypeId}{pos:String}{af:Array Edge}{g:Option (Nat×Bool)}{v:Value}{x:Operand}(h:Sa E t (.move x)=some v):∃v',VR R v v'/\∀w,(execOp a.eval ⟨dst, .move x,tp,pos,af,g⟩).run E.P w= .ok (.value v') w:=by
 simp only [Sa]at h;exact ⟨_,Qa ht h,fun w=>by simp [execOp]⟩
theorem sC{dst:Option Tmp}{tp:TypeId}{pos:String}{af:Array Edge}{g:Option (Nat×Bool)}{v:Value}{x:Operand}(h:Sa E t (.assign x)=some v):∃v',VR R v v'/\∀w,(execOp a.eval ⟨dst, .assign x,tp,pos,af,g⟩).run E.P w= .ok (.value v') w:=by
 simp only [Sa]at h;exact ⟨_,Qa ht h,fun w=>by simp [execOp]⟩
theorem aO{dst:Option Tmp}{tp:TypeId}{pos:String}{af:Array Edge}{g:Option (Nat×Bool)}{v:Value}{op:BinOp}{ty yt:TypeId}{x y:Operand}(h:Sa E t (.binOp op ty x y yt)=some v):∃v',VR R v v'/\∀w,(execOp a.eval ⟨dst, .binOp op ty x y yt,tp,pos,af,g⟩).run E.P w= .ok (.value v') w:=by
 simp only [Sa]at h
 split at h
 . rename_i u hx
   split at h
   . rename_i u2 hy
     split at h
     . rename_i v0 hs;cases h;obtain ⟨v',k,k',m,n,e1,e2,hb,hd⟩:=Gq hE (Qa ht hx) (Qa ht hy) hs;exact ⟨v',hd.vr R,fun w=>Dh (by rw [e1,e2];exact QE hb w)⟩
     . exact ⟨v,Bf R (FA h),fun w=>Dh (jw (Qa ht hx) (Qa ht hy) h w)⟩
   . cases h
 . cases h
theorem tR{dst:Option Tmp}{tp:TypeId}{pos:String}{af:Array Edge}{g:Option (Nat×Bool)}{v:Value}{op:UnOp}{ty:TypeId}{x:Operand}(h:Sa E t (.unOp op ty x)=some v):∃v',VR R v v'/\∀w,(execOp a.eval ⟨dst, .unOp op ty x,tp,pos,af,g⟩).run E.P w= .ok (.value v') w:=by
 simp only [Sa]at h
 split at h
 . rename_i b hx
   split at h
   . cases h;refine ⟨_, .flat _ rfl,fun w=>Dh ?_⟩;rw [Jh (Qa ht hx),Cd];simp [Op.unary]
   . cases h
 . rename_i k n hx;obtain ⟨h1,h2⟩:=Hq h;exact ⟨v,Bf R h2,fun w=>Dh (by rw [qc (Qa ht hx)];exact El E.P _ v h1 w)⟩
 . rename_i hx;obtain ⟨b,e,rfl,hd⟩:=RE hE (Qa ht hx) h;exact ⟨_,hd.vr R,fun w=>Dh (by rw [e];simp [Op.unary])⟩
 . cases h
theorem oI{dst:Option Tmp}{tp:TypeId}{pos:String}{af:Array Edge}{g:Option (Nat×Bool)}{v:Value}{ss dd:TypeId}{x:Operand}(h:Sa E t (.convert ss dd x)=some v):∃v',VR R v v'/\∀w,(execOp a.eval ⟨dst, .convert ss dd x,tp,pos,af,g⟩).run E.P w= .ok (.value v') w:=by
 simp only [Sa]at h
 split at h
 . rename_i k n hx;obtain ⟨h1,h2⟩:=Hq h;exact ⟨v,Bf R h2,fun w=>Dh (by rw [qc (Qa ht hx)];exact El E.P _ v h1 w)⟩
 . rename_i hx;obtain ⟨v',hr,hd⟩:=Mz hE (Qa ht hx) h;exact ⟨_,hd.vr R,fun w=>Dh (hr w)⟩
 . cases h
theorem bO{dst:Option Tmp}{tp:TypeId}{pos:String}{af:Array Edge}{g:Option (Nat×Bool)}{v:Value}{ty:TypeId}{x:Operand}(h:Sa E t (.sliceToArrayPointer ty x)=some v):∃v',VR R v v'/\∀w,(execOp a.eval ⟨dst, .sliceToArrayPointer ty x,tp,pos,af,g⟩).run E.P w= .ok (.value v') w:=by
 simp only [Sa]at h
 split at h
 . rename_i j b o sp m z hj hx;obtain ⟨ii,d,hT⟩:=hE.is hj
   split at h
   . rename_i n e Le
     split at h
     . rename_i h1 h2;cases h;rw [xd]at h1 h2;have h1:=of_decide_eq_true h1;have h2:=of_decide_eq_true h2;have:=hT.ar Le;subst this;obtain ⟨b',s,c',hb,hv,_,_⟩:=Um (Qa ht hx) (by omega);refine ⟨_, .ptr b o b' s hb,fun w=>Dh ?_⟩;rw [hv];have hn:¬m<n:=by omega
       simp [Instr.arrayAt,eb w hT.zg,hn,Result.andThen]
     . cases h
   . cases h
 . cases h
theorem cO{dst:Option Tmp}{tp:TypeId}{pos:String}{af:Array Edge}{g:Option (Nat×Bool)}{v:Value}{ty:TypeId}{x:Operand}(h:Sa E t (.makeInterface ty x)=some v):∃v',VR R v v'/\∀w,(execOp a.eval ⟨dst, .makeInterface ty x,tp,pos,af,g⟩).run E.P w= .ok (.value v') w:=by
 simp only [Sa]at h
 split at h
 . rename_i j p hj hx;obtain ⟨ii,d,hT⟩:=hE.is hj
   split at h
   . cases h
   . rename_i hn;cases h;refine ⟨_, .Kv ty _ _ (Qa ht hx),fun w=>Dh ?_⟩;have:=hT.Uae hn;cases d<;>first|(exact absurd rfl (this _))|simp [Instr.makeInterface,eb w hT.zg,Result.andThen]
 . cases h
theorem pI{dst:Option Tmp}{tp:TypeId}{pos:String}{af:Array Edge}{g:Option (Nat×Bool)}{v:Value}{f:Fn}{fs cs:Array Operand}(h:Sa E t (.makeFunc f fs cs)=some v):∃v',VR R v v'/\∀w,(execOp a.eval ⟨dst, .makeFunc f fs cs,tp,pos,af,g⟩).run E.P w= .ok (.value v') w:=by
 simp only [Sa]at h
 split at h
 . rename_i ff
   split at h
   . rename_i l m h1 h2;cases h;have k1:=Yf ht h1;have k2:=Yf ht h2;refine ⟨_, .fn ff l (fs.toList.map a.eval) m (cs.toList.map a.eval) k1.1 k2.1 k1.2 k2.2,fun w=>Dh ?_⟩;simp [Instr.makeFunc];exact ⟨by rw [<-Array.toList_map],by rw [<-Array.toList_map]⟩
   . cases h
 . cases h
theorem Nz{dst:Option Tmp}{tp:TypeId}{pos:String}{af:Array Edge}{g:Option (Nat×Bool)}{v:Value}{x:Operand}{i:Nat}(h:Sa E t (.extract x i)=some v):∃v',VR R v v'/\∀w,(execOp a.eval ⟨dst, .extract x i,tp,pos,af,g⟩).run E.P w= .ok (.value v') w:=by
 simp only [Sa]at h
 split at h
 . rename_i l hx;rw [Pc]at h;obtain ⟨l',hl,hv⟩:=oC (Qa ht hx);obtain ⟨y,hy,hr⟩:=hl.get h;refine ⟨y,hr,fun w=>Dh ?_⟩;rw [hv];simp [Instr.extract,hy]
 . cases h
theorem eO{dst:Option Tmp}{tp:TypeId}{pos:String}{af:Array Edge}{g:Option (Nat×Bool)}{v:Value}{ty:TypeId}{x i:Operand}(h:Sa E t (.index ty x i)=some v):∃v',VR R v v'/\∀w,(execOp a.eval ⟨dst, .index ty x i,tp,pos,af,g⟩).run E.P w= .ok (.value v') w:=by
 simp only [Sa]at h
 split at h
 . rename_i j s k n hj hx hi;obtain ⟨ii,d,hT⟩:=hE.is hj
   split at h
   . rename_i b Le hb;cases h;rw [Pc]at hb;refine ⟨_, .flat _ rfl,fun w=>Dh ?_⟩;rw [qc (Qa ht hi),Ic (Qa ht hx) rfl];have:=hT.str Le;subst this;have SE:s[n]?=some b:=by
      have hn:n<s.data.size:=by have:=(List.getElem?_eq_some_iff.1 hb).1;simpa using this
      have Uj:s.data[n]=b:=by rw [List.getElem?_eq_getElem (by simpa using hn)]at hb;simpa using hb
      have hs:n<s.size:=hn;rw [getElem?_pos s n hs,<-Uj];rfl
     simp [Instr.index,asIntOf,eb w hT.zg,Result.andThen,SE]
   . cases h
 . cases h
theorem fO{dst:Option Tmp}{tp:TypeId}{pos:String}{af:Array Edge}{g:Option (Nat×Bool)}{v:Value}{c:Call}(h:Sa E t (.call c)=some v):∃v',VR R v v'/\∀w,(execOp a.eval ⟨dst, .call c,tp,pos,af,g⟩).run E.P w= .ok (.value v') w:=by
 simp only [Sa]at h;obtain ⟨ce,xs,ts⟩:=c;simp only at h
 split at h
 . rename_i x l ty hl hty;have uR:=Yf ht hl;obtain ⟨y,l',Oz,WX,_⟩:=uR.ya;rw [Pc]at hty;have ow:xs.map a.eval=⟨y::l'⟩:=by apply Array.ext';simpa using Oz
   have qI:ts[0]?=some ty:=by simpa using hty
   unfold G3 at h
   split at h
   . rename_i i hi;obtain ⟨ii,d,hT⟩:=hE.is hi;have key:∀(r:Value) (w:World),(Builtin.len_ ts tp (xs.map a.eval)).run E.P w= .ok r w->(execOp a.eval ⟨dst, .call ⟨.builtin .len,xs,ts⟩,tp,pos,af,g⟩).run E.P w= .ok (.value r) w:=fun r w hr=>by
      simp [execOp,resolve,invoke,builtin,Result.andThen,hr]
     split at h
     . rename_i e ad n z Le;cases h;have:=hT.sl Le;subst this;refine ⟨_, .flat _ rfl,fun w=>key _ w ?_⟩;have hy:∃N3 z',y= .slice N3 n z':=by cases WX<;>exact ⟨_,_,rfl⟩
       obtain ⟨N3,z',rfl⟩:=hy;rw [ow];simp [Builtin.len_,qI,eb w hT.zg,Result.andThen,goInt]
     . rename_i n e Le;cases h;have:=hT.ar Le;subst this;refine ⟨_, .flat _ rfl,fun w=>key _ w ?_⟩;rw [ow];simp [Builtin.len_,qI,eb w hT.zg,Result.andThen,goInt]
     . rename_i sx Le;cases h;have:=hT.str Le;subst this;refine ⟨_, .flat _ rfl,fun w=>key _ w ?_⟩;have:y= .string sx:=Ic WX rfl
       subst this;rw [ow];simp [Builtin.len_,qI,eb w hT.zg,Result.andThen,goInt]
     . cases h
   . cases h
 . rename_i x l ty hl hty;have uR:=Yf ht hl;obtain ⟨y,l',Oz,WX,_⟩:=uR.ya;rw [Pc]at hty;have ow:xs.map a.eval=⟨y::l'⟩:=by apply Array.ext';simpa using Oz
   have qI:ts[0]?=some ty:=by simpa using hty
   unfold I3 at h
   split at h
   . rename_i i hi;obtain ⟨ii,d,hT⟩:=hE.is hi;have key:∀(r:Value) (w:World),(Builtin.cap_ ts tp (xs.map a.eval)).run E.P w= .ok r w->(execOp a.eval ⟨dst, .call ⟨.builtin .cap,xs,ts⟩,tp,pos,af,g⟩).run E.P w= .ok (.value r) w:=fun r w hr=>by
      simp [execOp,resolve,invoke,builtin,Result.andThen,hr]
     split at h
     . rename_i e Le;cases h;have:=hT.sl Le;subst this;refine ⟨_, .flat _ rfl,fun w=>key _ w ?_⟩;have:y= .slice none 0 0:=Ic WX rfl
       subst this;rw [ow];simp [Builtin.cap_,qI,eb w hT.zg,Result.andThen,goInt]
     . rename_i e bb oo Le;have:=hT.sl Le;subst this;cases h;refine ⟨_, .flat _ rfl,fun w=>key _ w ?_⟩;have hy:∃N3 n',y= .slice N3 n' 0:=by cases WX with
        |flat v h=>simp [Mc]at h
        |Fz b o b' s n z c' h hz hc hn=>omega
        |XN a=>exact ⟨_,_,rfl⟩
       obtain ⟨N3,n',rfl⟩:=hy;rw [ow];simp [Builtin.cap_,qI,eb w hT.zg,Result.andThen,goInt]
     . rename_i e bb oo cc nn zz Le;cases h;have:=hT.sl Le;subst this;refine ⟨_, .flat _ rfl,fun w=>key _ w ?_⟩;have hy:∃N3 n',y= .slice N3 n' cc:=by cases WX with
        |flat v h=>simp [Mc]at h
        |MQ b o b' s n z c h hz hn=>exact ⟨_,_,rfl⟩
       obtain ⟨N3,n',rfl⟩:=hy;rw [ow];simp [Builtin.cap_,qI,eb w hT.zg,Result.andThen,goInt]
     . cases h
   . cases h
 . rename_i k m k' n hl;cases h;have uR:=Yf ht hl;obtain ⟨y,l',Oz,WX,h2⟩:=uR.ya;obtain ⟨y2,l2,rfl,Xae,h3⟩:=h2.ya;have:=h3.ic;subst this;rw [qc WX,qc Xae]at Oz;have ow:xs.map a.eval=⟨[.int k m, .int k' n]⟩:=by apply Array.ext';simpa using Oz
   refine ⟨_, .flat _ rfl,fun w=> ?_⟩;simp only [execOp,resolve,ow];simp [invoke,builtin,Result.andThen,Builtin.min_,Builtin.min2,lC];by_cases hc:m<=n
   . first|(simp [hc];done)|(simp [hc];exact fun hh=>absurd hh (by omega))
   . first|(simp [hc];done)|(simp [hc];exact fun hh=>absurd hh (by omega))
 . rename_i k m k' n hl;cases h;have uR:=Yf ht hl;obtain ⟨y,l',Oz,WX,h2⟩:=uR.ya;obtain ⟨y2,l2,rfl,Xae,h3⟩:=h2.ya;have:=h3.ic;subst this;rw [qc WX,qc Xae]at Oz;have ow:xs.map a.eval=⟨[.int k m, .int k' n]⟩:=by apply Array.ext';simpa using Oz
   refine ⟨_, .flat _ rfl,fun w=> ?_⟩;simp only [execOp,resolve,ow];simp [invoke,builtin,Result.andThen,Builtin.max_,Builtin.max2,lC];by_cases hc:n<=m
   . first|(simp [hc];done)|(simp [hc];exact fun hh=>absurd hh (by omega))
   . first|(simp [hc];done)|(simp [hc];exact fun hh=>absurd hh (by omega))
 . cases h
theorem XE(o:Oper)(hc:cls o.op= .still){v:Value}(h:Sa E t o.op=some v):∃v',VR R v v'/\∀w,(execOp a.eval o).run E.P w= .ok (.value v') w:=by
 obtain ⟨dst,op,tp,pos,af,g⟩:=o;cases op with
 |move x=>exact nI hE ht h
 |assign x=>exact sC hE ht h
 |pick c x y=>exact mI hE ht h
 |nilCheck x=>exact ZN hE ht h
 |build ty ps=>exact VE hE ht h
 |field ty x i=>exact WE hE ht h
 |fieldAddr ty x i=>exact Ku hE ht h
 |indexAddr ty x i=>exact UE hE ht h
 |binOp op ty x y yt=>exact aO hE ht h
 |unOp op ty x=>exact tR hE ht h
 |convert s d x=>exact oI hE ht h
 |sliceToArrayPointer ty x=>exact bO hE ht h
 |makeInterface ty x=>exact cO hE ht h
 |makeFunc f fs cs=>exact pI hE ht h
 |extract x i=>exact Nz hE ht h
 |index ty x i=>exact eO hE ht h
 |call c=>exact fO hE ht h
 |_=>simp [cls]at hc
end
end Sk
end Go.Proofs.YtfnkmolffhfpoaaGreat
