/- -/
import Derived.Test.YtfnkmolffhfpoaaGreatHb7
import Derived.MapKept
set_option linter.unusedVariables false
set_option linter.unusedSimpArgs false
set_option linter.unusedSectionVars false
namespace Go.Proofs.YtfnkmolffhfpoaaGreat
namespace Sk
open Go.RowKit
variable[Interp]
theorem Jy{P:Program}{w:World}{r1 o1 r2 o2:Nat}{c1 c2:Array Value}{e1 e2:TypeId}(h1:w.heap[r1]?=some (.cells c1 e1 (0,0)))(h2:w.heap[r2]?=some (.cells c2 e2 (0,0))):
  (sameAddr ⟨r1,o1,none⟩ ⟨r2,o2,none⟩).run P w= .ok (if r1=r2 then decide (o1=o2)else false) w:=by
 have f1:∀o,w.frozen? ⟨r1,o,none⟩=false:=fun o=>by simp [World.frozen?,h1]
 have f2:∀o,w.frozen? ⟨r2,o,none⟩=false:=fun o=>by simp [World.frozen?,h2]
 have s1:w.shape? r1=some (e1,c1.size):=by simp [World.shape?,h1]
 have s2:w.shape? r2=some (e2,c2.size):=by simp [World.shape?,h2]
 by_cases h:r1=r2
 . subst h;simp [sameAddr];by_cases ho:o1=o2<;>simp [ho]
 . simp [sameAddr,h,frozen,Sem.run,f1,f2,noView,viewAt,shape,s1,s2,mayBeOne,stringish,Result.andThen]
structure kQ(P:Program)(w:World)(op:BinOp)(ty:TypeId)(x y:Operand)(a b:Value)(r:Bool):Prop where
 guard:(eqGuard op ty x y a b).run P w= .ok () w
 eq:∀d,(Op.equalIn (d+1) ty a b).run P w= .ok r w
 eql:binOp .eql ty a b=do pure (.bool (<-Op.equal ty a b))
 neq:binOp .neq ty a b=do pure (.bool (!(<-Op.equal ty a b)))
theorem kQ.out{P:Program}{w:World}{op:BinOp}{ty:TypeId}{x y:Operand}{a b v:Value}{r:Bool}(h:kQ P w op ty x y a b r)(hv:ur op r=some v):
  Sk.flat v=true/\(do eqGuard op ty x y a b;binOp op ty a b:Sem Value).run P w= .ok v w:=by
 have k1:(Op.equal ty a b).run P w= .ok r w:=h.eq 9999
 cases op<;>simp only [ur]at hv<;>first|(cases hv;done)|skip
 . cases hv;refine ⟨rfl, ?_⟩;rw [Sem.run_bind,h.guard,h.eql];simp [Result.andThen,k1]
 . cases hv;refine ⟨rfl, ?_⟩;rw [Sem.run_bind,h.guard,h.neq];simp [Result.andThen,k1,ke]
theorem lI{P:Program}{w:World}{R:Mp}{op:BinOp}{ty:TypeId}{i:Ti}{ii:TypeInfo}{d:TypeDesc}(hT:Rf P ty i ii d){x y:Operand}{a b a' b':Value}(ha:VR R a a')(hb:VR R b b'){r:Bool}
  (hn:IK a b=some r)(hf:fits i.ds a=true):kQ P w op ty x y a' b' r:=by
 unfold IK at hn
 split at hn
 . rename_i q;cases hn;cases Zd:i.ds<;>simp only [Zd,fits]at hf<;>first|(cases hf;done)|skip
   have:=hT.pt Zd;subst this;have e1:=Yb ha rfl;subst e1;have e2:∃p,b'= .pointer p/\q.isNone=p.isNone:=by
    cases hb with
    |flat v h=>exact ⟨_,rfl,rfl⟩
    |ptr b o b' s h=>exact ⟨_,rfl,rfl⟩
   obtain ⟨p,rfl,hq⟩:=e2;rw [hq];exact ⟨by cases op<;>simp [eqGuard],fun d=>by simp [Op.equalIn,Qa w hT.Df,Result.andThen],rfl,rfl⟩
 . skip
   cases hn;cases Zd:i.ds<;>simp only [Zd,fits]at hf<;>first|(cases hf;done)|skip
   have:=hT.pt Zd;subst this;obtain ⟨b,o,b',s,rfl,_,rfl⟩:=cG ha;have e1:=Yb hb rfl;subst e1;exact ⟨by cases op<;>simp [eqGuard],fun d=>by simp [Op.equalIn,Qa w hT.Df,Result.andThen],rfl,rfl⟩
 . rename_i n c q m cc;cases hn;cases Zd:i.ds<;>simp only [Zd,fits]at hf<;>first|(cases hf;done)|skip
   have:=hT.sl Zd;subst this;have e1:∃n c,a'= .slice none n c:=by cases ha with|flat v h=>exact ⟨_,_,rfl⟩
   obtain ⟨n,c,rfl⟩:=e1;have e2:∃p n c,b'= .slice p n c/\q.isNone=p.isNone:=by cases hb<;>exact ⟨_,_,_,rfl,rfl⟩
   obtain ⟨p,n2,c2,rfl,hq⟩:=e2;rw [hq];exact ⟨by cases op<;>simp [eqGuard],fun d=>by simp [Op.equalIn,Qa w hT.Df,Result.andThen],rfl,rfl⟩
 . skip
   cases hn;cases Zd:i.ds<;>simp only [Zd,fits]at hf<;>first|(cases hf;done)|skip
   have:=hT.sl Zd;subst this;have e1:∃q n c,a'= .slice (some q) n c:=by
    cases ha with
    |flat v h=>simp [ic]at h
    |_=>exact ⟨_,_,_,rfl⟩
   obtain ⟨q,n,c,rfl⟩:=e1;have e2:∃n c,b'= .slice none n c:=by cases hb with|flat v h=>exact ⟨_,_,rfl⟩
   obtain ⟨n2,c2,rfl⟩:=e2;exact ⟨by cases op<;>simp [eqGuard],fun d=>by simp [Op.equalIn,Qa w hT.Df,Result.andThen],rfl,rfl⟩
 . rename_i q;cases hn;cases Zd:i.ds<;>simp only [Zd,fits]at hf<;>first|(cases hf;done)|skip
   have:=hT.mp Zd;subst this;have e1:=Yb ha rfl;subst e1;have e2:∃p,b'= .map p/\q.isNone=p.isNone:=by cases hb<;>exact ⟨_,rfl,rfl⟩
   obtain ⟨p,rfl,hq⟩:=e2;rw [hq];exact ⟨by cases op<;>simp [eqGuard],fun d=>by simp [Op.equalIn,Qa w hT.Df,Result.andThen],rfl,rfl⟩
 . skip
   cases hn;cases Zd:i.ds<;>simp only [Zd,fits]at hf<;>first|(cases hf;done)|skip
   have:=hT.mp Zd;subst this;have e1:∃q,a'= .map (some q):=by
    cases ha with
    |flat v h=>simp [ic]at h
    |map r r' s h=>exact ⟨_,rfl⟩
   obtain ⟨q,rfl⟩:=e1;have e2:=Yb hb rfl;subst e2;exact ⟨by cases op<;>simp [eqGuard],fun d=>by simp [Op.equalIn,Qa w hT.Df,Result.andThen],rfl,rfl⟩
 . skip
   cases hn;cases Zd:i.ds<;>simp only [Zd,fits]at hf<;>first|(cases hf;done)|skip
   obtain ⟨_,_,_,rfl⟩:=hT.fn Zd;have e1:=Yb ha rfl;have e2:=Yb hb rfl;subst e1;subst e2;exact ⟨by cases op<;>simp [eqGuard],fun d=>by simp [Op.equalIn,Qa w hT.Df,Result.andThen],rfl,rfl⟩
 . skip
   cases hn;cases Zd:i.ds<;>simp only [Zd,fits]at hf<;>first|(cases hf;done)|skip
   obtain ⟨_,_,_,rfl⟩:=hT.fn Zd;have e1:=Yb ha rfl;subst e1;have e2:∃f q c,b'= .func f q c:=by cases hb<;>exact ⟨_,_,_,rfl⟩
   obtain ⟨f,q,c,rfl⟩:=e2;exact ⟨by cases op<;>simp [eqGuard],fun d=>by simp [Op.equalIn,Qa w hT.Df,Result.andThen],rfl,rfl⟩
 . skip
   cases hn;cases Zd:i.ds<;>simp only [Zd,fits]at hf<;>first|(cases hf;done)|skip
   obtain ⟨_,_,_,rfl⟩:=hT.fn Zd;have e1:=Yb hb rfl;subst e1;have e2:∃f q c,a'= .func f q c:=by cases ha<;>exact ⟨_,_,_,rfl⟩
   obtain ⟨f,q,c,rfl⟩:=e2;exact ⟨by cases op<;>simp [eqGuard],fun d=>by simp [Op.equalIn,Qa w hT.Df,Result.andThen],rfl,rfl⟩
 . skip
   cases hn;cases Zd:i.ds<;>simp only [Zd,fits]at hf<;>first|(cases hf;done)|skip
   obtain ⟨_,rfl⟩:=hT.mv Zd;have e1:=Yb ha rfl;subst e1;have e2:∃t q,b'= .iface t q:=by
    cases hb with
    |flat v h=>simp [ic]at h
    |mv t v v' h=>exact ⟨_,_,rfl⟩
   obtain ⟨t,q,rfl⟩:=e2;exact ⟨by cases op<;>simp [eqGuard],fun d=>by simp [Op.equalIn,Qa w hT.Df,Result.andThen],rfl,rfl⟩
 . skip
   cases hn;cases Zd:i.ds<;>simp only [Zd,fits]at hf<;>first|(cases hf;done)|skip
   obtain ⟨_,rfl⟩:=hT.mv Zd;have e1:=Yb hb rfl;subst e1;have e2:∃t q,a'= .iface t q:=by
    cases ha with
    |flat v h=>simp [ic]at h
    |mv t v v' h=>exact ⟨_,_,rfl⟩
   obtain ⟨t,q,rfl⟩:=e2;exact ⟨by cases op<;>simp [eqGuard],fun d=>by simp [Op.equalIn,Qa w hT.Df,Result.andThen],rfl,rfl⟩
 . cases hn
section
variable{E:Env}(hE:Pb E){B:Nat->Prop}{w0:World}{R:Mp}{σ:AH}{w:World}(hS:Ic B w0 R σ w)
include hE hS
theorem mI{op:BinOp}{ty:TypeId}{i:Ti}(hi:E.ty ty=some i){x y:Operand}{a b v a' b':Value}(ha:VR R a a')(hb:VR R b b'){r:Bool}(h:eqP E σ i.ds a b=some r)(hv:ur op r=some v):
  Sk.flat v=true/\(do eqGuard op ty x y a' b';binOp op ty a' b':Sem Value).run E.P w= .ok v w:=by
 obtain ⟨ii,d,hT⟩:=hE.is hi;unfold eqP at h
 split at h
 . rename_i r0 hn
   split at h
   . rename_i hf;cases h;exact (lI hT ha hb hn hf).out hv
   . cases h
 . split at h
   . rename_i b1 o1 b2 o2 e Zd _;have:=hT.pt Zd;subst this
     split at h
     . rename_i ie c1 e1 f1 c2 e2 f2 Zj g1 g2;obtain ⟨ei,ed,lg⟩:=hE.is Zj
       split at h
       . cases h
       . rename_i n hn;cases h;obtain ⟨r1,s1,k1,rfl⟩:=wg ha;obtain ⟨r2,s2,k2,rfl⟩:=wg hb;obtain ⟨c1',m1,_⟩:=Ji hE hS k1 g1;obtain ⟨c2',m2,_⟩:=Ji hE hS k2 g2;have Xg:¬(ei.size=0):=by rw [lg.size,hn];omega
         have eG:=Jy (P:=E.P) (w:=w) (o1:=o1) (o2:=o2) m1 m2;have hr:(if r1=r2 then decide (o1=o2)else false)=eqA b1 o1 b2 o2:=by
          unfold eqA;by_cases oB:b1=b2
          . subst oB;rw [k1]at k2;cases k2;simp [Ja]
          . have Jc:r1≠r2:=fun e=>by
             subst e;rcases hS.inj b1 b2 r1 s1 s2 k1 k2 oB with h|h
             . rw [g1]at h;cases h
             . rw [g2]at h;cases h
            simp [Ja,oB,Jc]
         rw [hr]at eG;exact kQ.out ⟨by cases op<;>simp [eqGuard],fun d=>by simp [Op.equalIn,Qa w hT.Df,Result.andThen,Vc w lg.info,Xg,eG],rfl,rfl⟩ hv
     . cases h
   . cases h
theorem YK{op:BinOp}{ty:TypeId}{x y:Operand}{a b v a' b':Value}(ha:VR R a a')(hb:VR R b b')(h:PW E σ op ty x y a b=some v):
  ∃v',VR R v v'/\(do eqGuard op ty x y a' b';binOp op ty a' b':Sem Value).run E.P w= .ok v' w:=by
 unfold PW at h
 split at h
 . rename_i r hr;obtain ⟨h1,h2⟩:=kI hE (op:=op) (x:=x) (y:=y) ha hb hr h w;exact ⟨_,we R h1,h2⟩
 . split at h
   . rename_i v0 hs;cases h;obtain ⟨v',k,k',m,n,rfl,rfl,hq,hd⟩:=Un hE ha hb hs;exact ⟨v',hd.vr R,fB hq w⟩
   . split at h
     . rename_i v0 h0;cases h;exact ⟨_,we R (Hw h0),Jr ha hb h0 w⟩
     . split at h
       . cases h
       . rename_i i hi
         split at h
         . cases h
         . rename_i r hr;obtain ⟨h1,h2⟩:=mI hE hS hi (op:=op) (x:=x) (y:=y) ha hb hr h;exact ⟨_,we R h1,h2⟩
end
def IsB(x:Option Value)(d n:Nat):Prop:=(x=none/\n=d)\/∃k,x=some (.int k (n:Int))
theorem zg{R:Mp}{t:Tm}{a:Act}(ht:TR R t a.tmps){x:Option Operand}{d n:Nat}(h:ly t x d=some n):IsB (x.map a.eval) d n:=by
 unfold ly at h
 split at h
 . cases h;exact .inl ⟨rfl,rfl⟩
 . split at h
   . rename_i v hv;have hv:=Aa ht hv;cases v with
     |int k m=>cases m with
      |ofNat m=>simp [asN]at h;subst h;exact .inr ⟨k,by rw [Option.map_some,wc hv];rfl⟩
      |negSucc m=>simp [asN]at h
     |_=>simp [asN]at h
   . cases h
theorem run_sliceBound{P:Program}{w:World}{k:IntKind}{n y:Nat}{code:BoundsCode}(h:n<=y):(Instr.sliceBound (.int k (n:Int)) y code).run P w= .ok n w:=by
 have h':(n:Int)<=y:=by omega
 simp [Instr.sliceBound,asIntOf,h',h,Result.andThen]
theorem Rg{P:Program}{w:World}{isS:Bool}{len cap l h:Nat}{lo hi:Option Value}(hl:IsB lo 0 l)(hh:IsB hi len h)(h1:l<=h)(h2:h<=cap):(Instr.sliceBounds isS len cap lo hi none).run P w= .ok (l,h,cap) w:=by
 rcases hl with⟨rfl,rfl⟩|⟨k,rfl⟩<;>rcases hh with⟨rfl,rfl⟩|⟨k2,rfl⟩<;>simp [Instr.sliceBounds,run_sliceBound,h1,h2,Result.andThen]
theorem Yo{P:Program}{w:World}{isS:Bool}{len cap l h m:Nat}{lo:Option Value}{kh km:IntKind}(hl:IsB lo 0 l)(h1:l<=h)(h2:h<=m)(h3:m<=cap):(Instr.sliceBounds isS len cap lo (some (.int kh (h:Int))) (some (.int km (m:Int)))).run P w= .ok (l,h,m) w:=by
 rcases hl with⟨rfl,rfl⟩|⟨k,rfl⟩<;>simp [Instr.sliceBounds,run_sliceBound,h1,h2,h3,Result.andThen]
theorem tl{R:Mp}{b o b' s l h m z:Nat}(hb:R b=some (b',s))(hz:1<=z)(h1:l<=h)(h2:h<=m):VR R (cutAt b o l h m z) (.slice (some (if m=l then⟨b',o,none⟩else(⟨b',o,none⟩:Addr).add (l*z))) (h -l) (m -l)):=by
 unfold cutAt;rw [Ja];by_cases e:l=m
 . subst e;have:h -l=0:=by omega
   rw [if_pos rfl,this,Nat.sub_self];simp only [decide_true];exact .QK _
 . rw [if_neg (fun k=>e k.symm),zk];simp only [e,decide_false];exact .xP b _ b' s _ z (m -l) hb hz (show h -l<=m -l by omega)
theorem Xp{R:Mp}{sz l h b o n z:Nat}{mm sp:Option Nat}{v x':Value}(hx:VR R (.slice (some ⟨b,o,sp⟩) n z) x')(hv:sk sz l h mm b o sp n z=some v)(c1:l<=h)(c2:h<=n):
  ∃(ad:Addr) (cap:Nat) (v':Value),x'= .slice (some ad) n cap/\n<=cap/\VR R v v'/\(mm=none->v'= .slice (some (if cap=l then ad else ad.add (l*sz))) (h -l) (cap -l))/\
   (∀m,mm=some m->h<=m/\m<=cap/\v'= .slice (some (if m=l then ad else ad.add (l*sz))) (h -l) (m -l)):=by
 cases hx with
 |flat v h=>simp [ic]at h
 |WH ad c'=>
  have hl:l=0:=by omega
  have hh:h=0:=by omega
  subst hl;subst hh;cases mm with
  |none=>
   simp [sk]at hv;subst hv;exact ⟨ad,c',_,rfl,by omega, .WH _ _,fun _=>rfl,fun m e=>by cases e⟩
  |some m=>
   cases m with
   |zero=>simp [sk]at hv;subst hv;exact ⟨ad,c',_,rfl,by omega, .QK _,(fun e=>by cases e),fun m e=>by cases e;exact ⟨by omega,by omega,rfl⟩⟩
   |succ m=>simp [sk]at hv
 |QK ad=>
  have hl:l=0:=by omega
  have hh:h=0:=by omega
  subst hl;subst hh;cases mm with
  |none=>
   simp [sk]at hv;subst hv;exact ⟨ad,0,_,rfl,by omega, .QK _,fun _=>rfl,fun m e=>by cases e⟩
  |some m=>
   cases m with
   |zero=>simp [sk]at hv;subst hv;exact ⟨ad,0,_,rfl,by omega, .QK _,(fun e=>by cases e),fun m e=>by cases e;exact ⟨by omega,by omega,rfl⟩⟩
   |succ m=>simp [sk]at hv
 |Fw b o b' s n z c' hb hz hc hn=>
  obtain ⟨z,rfl⟩:∃q,z=q+1:=⟨z -1,by omega⟩;simp only [sk]at hv
  split at hv
  . cases hv
  . rename_i qg;rw [Ja]at qg;have qg:=of_decide_eq_true qg;cases mm with
    |none=>
     refine ⟨⟨b',o,none⟩,c',_,rfl,hn, ?_,fun _=>rfl,fun m e=>by cases e⟩;simp only [Ja,jd]at hv;by_cases Vl:l=0\/l<n
     . have h2:v= .slice (some ⟨b,o+l*(z+1),none⟩) (h -l) (z+1):=by
        rcases Vl with Vl|Vl
        . simp only [Vl,decide_true]at hv;cases hv;simp only [Vl];rfl
        . have:decide (l.succ<=n)=true:=decide_eq_true Vl;rw [this]at hv
          split at hv
          . rename_i q;cases q
          . cases hv;rfl
       subst h2;rw [qg];have hle:l<=c':=by omega
       have e1:(if c'=l then(⟨b',o,none⟩:Addr)else(⟨b',o,none⟩:Addr).add (l*(z+1)))=if c'=l then(⟨b',o,none⟩:Addr)else⟨b',o+l*(z+1),none⟩:=by rw [zk]
       rw [e1];by_cases e:c'=l
       . have:l=0:=by omega
         subst this;rw [if_pos e];have:=VR.Fw (R:=R) b o b' s (h -0) (z+1) (c' -0) hb (by omega) (by simpa using hc) (by omega)
         simpa using this
       . rw [if_neg e];refine .Fw b _ b' s _ (z+1) (c' -l) hb (by omega) ?_ (by omega)
         rw [Nat.sub_mul];have:=Nat.mul_le_mul_right (z+1) hle;omega
     . have d1:decide (l=0)=false:=decide_eq_false (by omega);have d2:decide (l.succ<=n)=false:=decide_eq_false (by omega);rw [d1,d2]at hv;cases hv;have:h -l=0:=by omega
       rw [this];exact .WH _ _
    |some m=>
     simp only [jd]at hv
     split at hv
     . rename_i d1 d2;have d1:=of_decide_eq_true d1;have d2:=of_decide_eq_true d2;cases hv;exact ⟨⟨b',o,none⟩,c',_,rfl,hn,tl hb (by omega) c1 d1,fun e=>(by cases e),fun m' e=>by cases e;exact ⟨d1,by omega,by rw [qg]⟩⟩
     . cases hv
 |xP b o b' s n z c hb hz hn=>
  obtain ⟨z,rfl⟩:∃q,z=q+1:=⟨z -1,by omega⟩;simp only [sk]at hv
  split at hv
  . cases hv
  . rename_i qg;rw [Ja]at qg;have qg:=of_decide_eq_true qg;cases mm with
    |none=>
     simp only at hv;cases hv;exact ⟨⟨b',o,none⟩,c,_,rfl,hn,tl hb (by omega) c1 (by omega),fun e=>by rw [qg],fun m e=>by cases e⟩
    |some m=>
     simp only [jd]at hv
     split at hv
     . rename_i d1 d2;have d1:=of_decide_eq_true d1;have d2:=of_decide_eq_true d2;cases hv;exact ⟨⟨b',o,none⟩,c,_,rfl,hn,tl hb (by omega) c1 d1,fun e=>(by cases e),fun m' e=>by cases e;exact ⟨d1,d2,by rw [qg]⟩⟩
     . cases hv
section
variable{E:Env}(hE:Pb E){R:Mp}{t:Tm}{a:Act}(ht:TR R t a.tmps)
include hE ht
theorem pB{ty:TypeId}{x v x':Value}{lo hi mx:Option Operand}(hx:VR R x x')(h:Zk E t ty x lo hi mx=some v)(w:World):
  ∃v',VR R v v'/\(Instr.sliceAt ty x' (lo.map a.eval) (hi.map a.eval) (mx.map a.eval)).run E.P w= .ok v' w:=by
 unfold Zk at h
 split at h
 . cases h
 . rename_i i hi0;obtain ⟨ii,d,hT⟩:=hE.is hi0
   split at h
   . rename_i n e b o Zd;have:=hT.ar Zd;subst this
     split at h
     . rename_i ie l hh Zj hl N3;obtain ⟨ei,ed,lg⟩:=hE.is Zj
       split at h
       . cases h
       . rename_i z hz
         split at h
         . rename_i c1 c2;cases h;rw [jd]at c1 c2;have c1:=of_decide_eq_true c1;have c2:=of_decide_eq_true c2;obtain ⟨b',s,hb,rfl⟩:=wg hx;refine ⟨_,tl hb (by omega) c1 c2, ?_⟩;simp [Instr.sliceAt,Qa w hT.Df,Instr.sureAddr,Result.andThen,Rg (zg ht hl) (zg ht N3) c1 c2,Vc w lg.info,lg.size,hz]
         . cases h
     . cases h
   . rename_i e Zd;have:=hT.sl Zd;subst this
     split at h
     . rename_i ie Zj hl N3;obtain ⟨ei,ed,lg⟩:=hE.is Zj;cases h;have:=Yb hx rfl;subst this;refine ⟨_, .flat _ rfl, ?_⟩;have:=Rg (P:=E.P) (w:=w) (isS:=true) (cap:=0) (zg ht hl) (zg ht N3) (Nat.le_refl 0) (Nat.le_refl 0);simp [Instr.sliceAt,Instr.slice,Qa w hT.Df,Result.andThen,this,Vc w lg.info]
     . cases h
   . rename_i e b o sp n z Zd;have:=hT.sl Zd;subst this
     split at h
     . rename_i ie l hh Zj hl N3;obtain ⟨ei,ed,lg⟩:=hE.is Zj
       split at h
       . rename_i c1 c2;rw [jd]at c1 c2;have c1:=of_decide_eq_true c1;have c2:=of_decide_eq_true c2;have bl:=zg ht hl;have bh:=zg ht N3;have sz:ei.size=ie.size:=lg.size;have two:∀(ad:Addr) (cap:Nat),n<=cap->mx=none->x'= .slice (some ad) n cap->(Instr.sliceAt ty x' (lo.map a.eval) (hi.map a.eval) (mx.map a.eval)).run E.P w= .ok (.slice (some (if cap=l then ad else ad.add (l*ie.size))) (hh -l) (cap -l)) w:=fun ad cap hc hm e=>by
          subst hm;subst e;have:=Rg (P:=E.P) (w:=w) (isS:=true) (cap:=cap) bl bh c1 (by omega);simp [Instr.sliceAt,Instr.slice,Qa w hT.Df,Result.andThen,this,Vc w lg.info,sz]
          split<;>simp_all
         have three:∀(ad:Addr) (cap m:Nat),(∃xm xh,mx=some xm/\hi=some xh/\ly t (some xm) 0=some m)->hh<=m->m<=cap->x'= .slice (some ad) n cap->(Instr.sliceAt ty x' (lo.map a.eval) (hi.map a.eval) (mx.map a.eval)).run E.P w= .ok (.slice (some (if m=l then ad else ad.add (l*ie.size))) (hh -l) (m -l)) w:=fun ad cap m hm h1 h2 e=>by
          obtain ⟨xm,xh,rfl,rfl,hb⟩:=hm;subst e;have bm:=zg ht hb;rcases bm with⟨bm,_⟩|⟨km,bm⟩
          . cases bm
          rcases bh with⟨bh,_⟩|⟨kh,bh⟩
          . cases bh
          have:=Yo (P:=E.P) (w:=w) (isS:=true) (len:=n) (cap:=cap) (kh:=kh) (km:=km) bl c1 h1 h2;rw [bm,bh];simp [Instr.sliceAt,Instr.slice,Qa w hT.Df,Result.andThen,this,Vc w lg.info,sz]
          split<;>simp_all
         split at h
         . obtain ⟨ad,cap,v',e1,e2,e3,e4,_⟩:=Xp hx h c1 c2;exact ⟨v',e3,by rw [two ad cap e2 rfl e1,e4 rfl]⟩
         . split at h
           . rename_i m _ hm;obtain ⟨ad,cap,v',e1,e2,e3,_,e5⟩:=Xp hx h c1 c2;obtain ⟨q1,q2,q3⟩:=e5 _ rfl;exact ⟨v',e3,by rw [three ad cap _ ⟨_,_,rfl,rfl,hm⟩ q1 q2 e1,q3]⟩
           . cases h
       . cases h
     . cases h
   . cases h
end
theorem qB{P:Program}{w:World}{kt:TypeId}{kd:IntKind}{q:IntKind}{n:Int}(hd:P.underlying kt=some (.int kd))(e:Bool)(m:Nat):(Instr.checkKey e (m+1) kt (.int q n)).run P w= .ok () w:=by
 unfold Instr.checkKey;simp [Qa w hd,Result.andThen]
theorem Yn{P:Program}{w:World}{kt:TypeId}{d:TypeDesc}{k:Value}{l:List MapEntry}{a:Option (Nat×Value)}(hd:P.underlying kt=some d)(h:Instr.findNow d k l 0=some a):(Instr.findKey kt k l).run P w= .ok a w:=by
 simp [Instr.findKey,Qa w hd,Result.andThen,h]
theorem Aj{k e:Value}{b:Bool}(h:YF k e=some b):∃q n m,k= .int q n/\e= .int q m/\b=decide (n=m):=by
 cases k<;>cases e<;>simp only [YF]at h<;>first|(cases h;done)|skip
 rename_i q n q' m
 split at h
 . rename_i hk;have:=Nb hk;subst this;cases h;exact ⟨q,n,m,rfl,rfl,by rw [oe]⟩
 . cases h
theorem Om{R:Mp}{k:Value}{kd:IntKind}:∀(es:List (Value×Value)) (zj:List MapEntry) (r:Option Value),es.length=zj.length->
  (∀(i:Nat) (p:Value×Value) (e:MapEntry),es[i]?=some p->zj[i]?=some e->VR R p.1 e.key/\VR R p.2 e.val)->WA k es=some r->∀i:Nat,
  match r with
  |none=>Instr.findNow (.int kd) k zj i=some none
  |some v=>∃j v',Instr.findNow (.int kd) k zj i=some (some (j,v'))/\VR R v v'
 |[],zj,r,hl,hp,h,i=>by
  have:zj=[]:=by simpa using hl.symm
  subst this;simp [WA]at h;subst h;simp [Instr.findNow]
 |p::es,[],r,hl,hp,h,i=>by simp at hl
 |p::es,e::zj,r,hl,hp,h,i=>by
  obtain ⟨h1,h2⟩:=hp 0 p e rfl rfl;simp only [WA]at h
  split at h
  . rename_i hs;cases h;obtain ⟨q,n,m,rfl,he,hb⟩:=Aj hs;rw [he]at h1;have:=wc h1;have gK:n=m:=of_decide_eq_true hb.symm;simp only;refine ⟨i,e.val, ?_,h2⟩;simp [Instr.findNow,this,Instr.sameNow,gK]
  . rename_i hs;obtain ⟨q,n,m,rfl,he,hb⟩:=Aj hs;rw [he]at h1;have:=wc h1;have gK:¬n=m:=of_decide_eq_false hb.symm;have ih:=Om (kd:=kd) es zj r (by simpa using hl) (fun i p e a b=>hp (i+1) p e (by simpa using a) (by simpa using b)) h (i+1);have e2:Instr.findNow (.int kd) (.int q n) (e::zj) i=Instr.findNow (.int kd) (.int q n) zj (i+1):=by
     have:(n==m)=false:=by simpa using gK
     simp [Instr.findNow,‹e.key=_›,Instr.sameNow,this]
    rw [e2];exact ih
  . cases h
section
variable{E:Env}(hE:Pb E){B:Nat->Prop}{w0:World}{R:Mp}{σ:AH}{w:World}(hS:Ic B w0 R σ w)
include hE hS
theorem Ky{ty:TypeId}{m k v m' k':Value}{ok:Bool}(hm:VR R m m')(hk:VR R k k')(h:yr E σ ty m k ok=some v):∃v',VR R v v'/\(Instr.lookup ty m' k' ok).run E.P w= .ok v' w:=by
 unfold yr at h
 split at h
 . rename_i i r hi;obtain ⟨ii,d,hT⟩:=hE.is hi
   split at h
   . rename_i kt et es Zd YW hg;have:=hT.mp Zd;subst this
     split at h
     . rename_i ik ie hkt het;obtain ⟨ki,kd,lQ⟩:=hE.is hkt;obtain ⟨ei,ed,lg⟩:=hE.is het
       split at h
       . rename_i z BP hz;obtain ⟨kk,rfl⟩:∃kk,_=TypeDesc.int kk:=⟨_,lQ.it BP⟩;obtain ⟨Kh,qg⟩:=lg.zero hz;have gT:∃q n,k= .int q n:=by cases k<;>simp [isI]at YW;exact ⟨_,_,rfl⟩
         obtain ⟨q,n,rfl⟩:=gT;have:=wc hk;subst this;have hr:∃r' s,m'= .map (some r')/\R r=some (r',s):=by
          cases hm with
          |flat v h=>simp [ic]at h
          |map r r' s h=>exact ⟨r',s,rfl,h⟩
         obtain ⟨r',s,rfl,hr⟩:=hr;obtain ⟨_,zj,cl,h1,h2,h3⟩:=hS.obj r r' s _ hr hg;have ej:=qB (P:=E.P) (w:=w) (q:=q) (n:=n) lQ.Df (zj.isEmpty) 9999;have wi:(getObj r').run E.P w= .ok (.map zj cl) w:=by simp [getObj,Sem.run,h1]
         split at h
         . rename_i u hf;cases h;obtain ⟨j,u',e1,e2⟩:=Om (kd:=kk) es zj.toList (some u) (by simpa using h2) (fun i p e a b=>h3 i p e a (by simpa using b)) hf 0;have mQ:=Yn (P:=E.P) (w:=w) lQ.Df e1;cases ok
           . exact ⟨u',e2,by simp [Instr.lookup,Qa w hT.Df,Result.andThen,wi,ej,mQ]⟩
           . exact ⟨.tuple #[u', .bool true],(LR.cons e2 (LR.cons (.flat _ rfl) (LR.nil R))).ZH,by simp [Instr.lookup,Qa w hT.Df,Result.andThen,wi,ej,mQ]⟩
         . rename_i hf;cases h;have e1:=Om (kd:=kk) es zj.toList none (by simpa using h2) (fun i p e a b=>h3 i p e a (by simpa using b)) hf 0;have mQ:=Yn (P:=E.P) (w:=w) lQ.Df e1;cases ok
           . exact ⟨z,we R qg,by simp [Instr.lookup,Qa w hT.Df,Result.andThen,wi,ej,mQ,Qn w lg.info Kh]⟩
           . exact ⟨.tuple #[z, .bool false],(LR.cons (we R qg) (LR.cons (.flat _ rfl) (LR.nil R))).ZH,by simp [Instr.lookup,Qa w hT.Df,Result.andThen,wi,ej,mQ,Qn w lg.info Kh]⟩
         . cases h
       . cases h
     . cases h
   . cases h
 . cases h
theorem UD{t:Tm}{a:Act}(ht:TR R t a.tmps)(o:Oper)(hc:cls o.op= .read){v:Value}(h:Pe E t σ o.op=some v):∃v',VR R v v'/\(execOp a.eval o).run E.P w= .ok (.value v') w:=by
 obtain ⟨dst,op,tp,pos,af,g⟩:=o;cases op with
 |load ty x=>
  simp only [Pe]at h
  split at h
  . rename_i u hu;obtain ⟨v',h1,h2⟩:=Lr hE hS (Aa ht hu) h;exact ⟨v',h1,yg h2⟩
  . cases h
 |binOp op ty x y yt=>
  simp only [Pe]at h
  split at h
  . rename_i u hu
    split at h
    . rename_i u2 nQ;obtain ⟨v',h1,h2⟩:=YK hE hS (Aa ht hu) (Aa ht nQ) h;exact ⟨v',h1,yg h2⟩
    . cases h
  . cases h
 |slice ty x lo hi mx=>
  simp only [Pe]at h
  split at h
  . rename_i u hu;obtain ⟨v',h1,h2⟩:=pB hE ht (Aa ht hu) h w;exact ⟨v',h1,yg h2⟩
  . cases h
 |lookup ty x i ok=>
  simp only [Pe]at h
  split at h
  . rename_i u k hu hk;obtain ⟨v',h1,h2⟩:=Ky hE hS (Aa ht hu) (Aa ht hk) h;exact ⟨v',h1,yg h2⟩
  . cases h
 |call c=>simp only [cls]at hc;split at hc<;>cases hc
 |_=>simp [cls]at hc
end
end Sk
end Go.Proofs.YtfnkmolffhfpoaaGreat
