/- -/
import Derived.Test.YtfnkmolffhfpoaaGreatHq5
import Derived.MapKept
set_option linter.unusedVariables false
set_option linter.unusedSimpArgs false
set_option linter.unusedSectionVars false
namespace Go.Proofs.YtfnkmolffhfpoaaGreat
namespace Sk
open Go.RowKit
variable[Interp]
theorem tB{P:Program}{w:World}{r1 o1 r2 o2:Nat}{c1 c2:Array Value}{e1 e2:TypeId}(h1:w.heap[r1]?=some (.cells c1 e1 (0,0)))(h2:w.heap[r2]?=some (.cells c2 e2 (0,0))):
  (sameAddr ⟨r1,o1,none⟩ ⟨r2,o2,none⟩).run P w= .ok (if r1=r2 then decide (o1=o2)else false) w:=by
 have f1:∀o,w.frozen? ⟨r1,o,none⟩=false:=fun o=>by simp [World.frozen?,h1]
 have f2:∀o,w.frozen? ⟨r2,o,none⟩=false:=fun o=>by simp [World.frozen?,h2]
 have s1:w.shape? r1=some (e1,c1.size):=by simp [World.shape?,h1]
 have s2:w.shape? r2=some (e2,c2.size):=by simp [World.shape?,h2]
 by_cases h:r1=r2
 . subst h;simp [sameAddr];by_cases ho:o1=o2<;>simp [ho]
 . simp [sameAddr,h,frozen,Sem.run,f1,f2,noView,viewAt,shape,s1,s2,mayBeOne,stringish,Result.andThen]
structure NU(P:Program)(w:World)(op:BinOp)(ty:TypeId)(x y:Operand)(a b:Value)(r:Bool):Prop where
 guard:(eqGuard op ty x y a b).run P w= .ok () w
 eq:∀d,(Op.equalIn (d+1) ty a b).run P w= .ok r w
 eql:binOp .eql ty a b=do pure (.bool (<-Op.equal ty a b))
 neq:binOp .neq ty a b=do pure (.bool (!(<-Op.equal ty a b)))
theorem NU.out{P:Program}{w:World}{op:BinOp}{ty:TypeId}{x y:Operand}{a b v:Value}{r:Bool}(h:NU P w op ty x y a b r)(hv:av op r=some v):
  Sk.flat v=true/\(do eqGuard op ty x y a b;binOp op ty a b:Sem Value).run P w= .ok v w:=by
 have k1:(Op.equal ty a b).run P w= .ok r w:=h.eq 9999
 cases op<;>simp only [av]at hv<;>first|(cases hv;done)|skip
 . cases hv;refine ⟨rfl, ?_⟩;rw [Sem.run_bind,h.guard,h.eql];simp [Result.andThen,k1]
 . cases hv;refine ⟨rfl, ?_⟩;rw [Sem.run_bind,h.guard,h.neq];simp [Result.andThen,k1,Ae]
theorem XL{P:Program}{w:World}{R:Mp}{op:BinOp}{ty:TypeId}{i:Ti}{ii:TypeInfo}{d:TypeDesc}(hT:qg P ty i ii d){x y:Operand}{a b a' b':Value}(ha:VR R a a')(hb:VR R b b'){r:Bool}
  (hn:yO a b=some r)(hf:fits i.ds a=true):NU P w op ty x y a' b' r:=by
 unfold yO at hn
 split at hn
 . rename_i q;cases hn;cases ye:i.ds<;>simp only [ye,fits]at hf<;>first|(cases hf;done)|skip
   have:=hT.pt ye;subst this;have e1:=mc ha rfl;subst e1;have e2:∃p,b'= .pointer p/\q.isNone=p.isNone:=by
    cases hb with
    |flat v h=>exact ⟨_,rfl,rfl⟩
    |ptr b o b' s h=>exact ⟨_,rfl,rfl⟩
   obtain ⟨p,rfl,hq⟩:=e2;rw [hq];exact ⟨by cases op<;>simp [eqGuard],fun d=>by simp [Op.equalIn,Sa w hT.Sf,Result.andThen],rfl,rfl⟩
 . skip
   cases hn;cases ye:i.ds<;>simp only [ye,fits]at hf<;>first|(cases hf;done)|skip
   have:=hT.pt ye;subst this;obtain ⟨b,o,b',s,rfl,_,rfl⟩:=kJ ha;have e1:=mc hb rfl;subst e1;exact ⟨by cases op<;>simp [eqGuard],fun d=>by simp [Op.equalIn,Sa w hT.Sf,Result.andThen],rfl,rfl⟩
 . rename_i n c q m cc;cases hn;cases ye:i.ds<;>simp only [ye,fits]at hf<;>first|(cases hf;done)|skip
   have:=hT.sl ye;subst this;have e1:∃n c,a'= .slice none n c:=by cases ha with|flat v h=>exact ⟨_,_,rfl⟩
   obtain ⟨n,c,rfl⟩:=e1;have e2:∃p n c,b'= .slice p n c/\q.isNone=p.isNone:=by cases hb<;>exact ⟨_,_,_,rfl,rfl⟩
   obtain ⟨p,n2,c2,rfl,hq⟩:=e2;rw [hq];exact ⟨by cases op<;>simp [eqGuard],fun d=>by simp [Op.equalIn,Sa w hT.Sf,Result.andThen],rfl,rfl⟩
 . skip
   cases hn;cases ye:i.ds<;>simp only [ye,fits]at hf<;>first|(cases hf;done)|skip
   have:=hT.sl ye;subst this;have e1:∃q n c,a'= .slice (some q) n c:=by
    cases ha with
    |flat v h=>simp [yc]at h
    |_=>exact ⟨_,_,_,rfl⟩
   obtain ⟨q,n,c,rfl⟩:=e1;have e2:∃n c,b'= .slice none n c:=by cases hb with|flat v h=>exact ⟨_,_,rfl⟩
   obtain ⟨n2,c2,rfl⟩:=e2;exact ⟨by cases op<;>simp [eqGuard],fun d=>by simp [Op.equalIn,Sa w hT.Sf,Result.andThen],rfl,rfl⟩
 . rename_i q;cases hn;cases ye:i.ds<;>simp only [ye,fits]at hf<;>first|(cases hf;done)|skip
   have:=hT.mp ye;subst this;have e1:=mc ha rfl;subst e1;have e2:∃p,b'= .map p/\q.isNone=p.isNone:=by cases hb<;>exact ⟨_,rfl,rfl⟩
   obtain ⟨p,rfl,hq⟩:=e2;rw [hq];exact ⟨by cases op<;>simp [eqGuard],fun d=>by simp [Op.equalIn,Sa w hT.Sf,Result.andThen],rfl,rfl⟩
 . skip
   cases hn;cases ye:i.ds<;>simp only [ye,fits]at hf<;>first|(cases hf;done)|skip
   have:=hT.mp ye;subst this;have e1:∃q,a'= .map (some q):=by
    cases ha with
    |flat v h=>simp [yc]at h
    |map r r' s h=>exact ⟨_,rfl⟩
   obtain ⟨q,rfl⟩:=e1;have e2:=mc hb rfl;subst e2;exact ⟨by cases op<;>simp [eqGuard],fun d=>by simp [Op.equalIn,Sa w hT.Sf,Result.andThen],rfl,rfl⟩
 . skip
   cases hn;cases ye:i.ds<;>simp only [ye,fits]at hf<;>first|(cases hf;done)|skip
   obtain ⟨_,_,_,rfl⟩:=hT.fn ye;have e1:=mc ha rfl;have e2:=mc hb rfl;subst e1;subst e2;exact ⟨by cases op<;>simp [eqGuard],fun d=>by simp [Op.equalIn,Sa w hT.Sf,Result.andThen],rfl,rfl⟩
 . skip
   cases hn;cases ye:i.ds<;>simp only [ye,fits]at hf<;>first|(cases hf;done)|skip
   obtain ⟨_,_,_,rfl⟩:=hT.fn ye;have e1:=mc ha rfl;subst e1;have e2:∃f q c,b'= .func f q c:=by cases hb<;>exact ⟨_,_,_,rfl⟩
   obtain ⟨f,q,c,rfl⟩:=e2;exact ⟨by cases op<;>simp [eqGuard],fun d=>by simp [Op.equalIn,Sa w hT.Sf,Result.andThen],rfl,rfl⟩
 . skip
   cases hn;cases ye:i.ds<;>simp only [ye,fits]at hf<;>first|(cases hf;done)|skip
   obtain ⟨_,_,_,rfl⟩:=hT.fn ye;have e1:=mc hb rfl;subst e1;have e2:∃f q c,a'= .func f q c:=by cases ha<;>exact ⟨_,_,_,rfl⟩
   obtain ⟨f,q,c,rfl⟩:=e2;exact ⟨by cases op<;>simp [eqGuard],fun d=>by simp [Op.equalIn,Sa w hT.Sf,Result.andThen],rfl,rfl⟩
 . skip
   cases hn;cases ye:i.ds<;>simp only [ye,fits]at hf<;>first|(cases hf;done)|skip
   obtain ⟨_,rfl⟩:=hT.Wu ye;have e1:=mc ha rfl;subst e1;have e2:∃t q,b'= .iface t q:=by
    cases hb with
    |flat v h=>simp [yc]at h
    |Wu t v v' h=>exact ⟨_,_,rfl⟩
   obtain ⟨t,q,rfl⟩:=e2;exact ⟨by cases op<;>simp [eqGuard],fun d=>by simp [Op.equalIn,Sa w hT.Sf,Result.andThen],rfl,rfl⟩
 . skip
   cases hn;cases ye:i.ds<;>simp only [ye,fits]at hf<;>first|(cases hf;done)|skip
   obtain ⟨_,rfl⟩:=hT.Wu ye;have e1:=mc hb rfl;subst e1;have e2:∃t q,a'= .iface t q:=by
    cases ha with
    |flat v h=>simp [yc]at h
    |Wu t v v' h=>exact ⟨_,_,rfl⟩
   obtain ⟨t,q,rfl⟩:=e2;exact ⟨by cases op<;>simp [eqGuard],fun d=>by simp [Op.equalIn,Sa w hT.Sf,Result.andThen],rfl,rfl⟩
 . cases hn
section
variable{E:Env}(hE:Rb E){B:Nat->Prop}{w0:World}{R:Mp}{σ:AH}{w:World}(hS:Vc B w0 R σ w)
include hE hS
theorem YL{op:BinOp}{ty:TypeId}{i:Ti}(hi:E.ty ty=some i){x y:Operand}{a b v a' b':Value}(ha:VR R a a')(hb:VR R b b'){r:Bool}(h:eqP E σ i.ds a b=some r)(hv:av op r=some v):
  Sk.flat v=true/\(do eqGuard op ty x y a' b';binOp op ty a' b':Sem Value).run E.P w= .ok v w:=by
 obtain ⟨ii,d,hT⟩:=hE.is hi;unfold eqP at h
 split at h
 . rename_i r0 hn
   split at h
   . rename_i hf;cases h;exact (XL hT ha hb hn hf).out hv
   . cases h
 . split at h
   . rename_i b1 o1 b2 o2 e ye _;have:=hT.pt ye;subst this
     split at h
     . rename_i ie c1 e1 f1 c2 e2 f2 Gm g1 g2;obtain ⟨ei,ed,Og⟩:=hE.is Gm
       split at h
       . cases h
       . rename_i n hn;cases h;obtain ⟨r1,s1,k1,rfl⟩:=Wg ha;obtain ⟨r2,s2,k2,rfl⟩:=Wg hb;obtain ⟨c1',m1,_⟩:=Um hE hS k1 g1;obtain ⟨c2',m2,_⟩:=Um hE hS k2 g2;have Vh:¬(ei.size=0):=by rw [Og.size,hn];omega
         have Cv:=tB (P:=E.P) (w:=w) (o1:=o1) (o2:=o2) m1 m2;have hr:(if r1=r2 then decide (o1=o2)else false)=eqA b1 o1 b2 o2:=by
          unfold eqA;by_cases ED:b1=b2
          . subst ED;rw [k1]at k2;cases k2;simp [Na]
          . have bc:r1≠r2:=fun e=>by
             subst e;rcases hS.inj b1 b2 r1 s1 s2 k1 k2 ED with h|h
             . rw [g1]at h;cases h
             . rw [g2]at h;cases h
            simp [Na,ED,bc]
         rw [hr]at Cv;exact NU.out ⟨by cases op<;>simp [eqGuard],fun d=>by simp [Op.equalIn,Sa w hT.Sf,Result.andThen,od w Og.info,Vh,Cv],rfl,rfl⟩ hv
     . cases h
   . cases h
theorem OO{op:BinOp}{ty:TypeId}{x y:Operand}{a b v a' b':Value}(ha:VR R a a')(hb:VR R b b')(h:G6 E σ op ty x y a b=some v):
  ∃v',VR R v v'/\(do eqGuard op ty x y a' b';binOp op ty a' b':Sem Value).run E.P w= .ok v' w:=by
 unfold G6 at h
 split at h
 . rename_i r hr;obtain ⟨h1,h2⟩:=WL hE (op:=op) (x:=x) (y:=y) ha hb hr h w;exact ⟨_,Qe R h1,h2⟩
 . split at h
   . rename_i v0 hs;cases h;obtain ⟨v',k,k',m,n,rfl,rfl,hq,hd⟩:=yq hE ha hb hs;exact ⟨v',hd.vr R,wD hq w⟩
   . split at h
     . rename_i v0 h0;cases h;exact ⟨_,Qe R (tz h0),yv ha hb h0 w⟩
     . split at h
       . cases h
       . rename_i i hi
         split at h
         . cases h
         . rename_i r hr;obtain ⟨h1,h2⟩:=YL hE hS hi (op:=op) (x:=x) (y:=y) ha hb hr h;exact ⟨_,Qe R h1,h2⟩
end
def IsB(x:Option Value)(d n:Nat):Prop:=(x=none/\n=d)\/∃k,x=some (.int k (n:Int))
theorem Zg{R:Mp}{t:Tm}{a:Act}(ht:TR R t a.tmps){x:Option Operand}{d n:Nat}(h:cB t x d=some n):IsB (x.map a.eval) d n:=by
 unfold cB at h
 split at h
 . cases h;exact .inl ⟨rfl,rfl⟩
 . split at h
   . rename_i v hv;have hv:=Ia ht hv;cases v with
     |int k m=>cases m with
      |ofNat m=>simp [asN]at h;subst h;exact .inr ⟨k,by rw [Option.map_some,Wc hv];rfl⟩
      |negSucc m=>simp [asN]at h
     |_=>simp [asN]at h
   . cases h
theorem run_sliceBound{P:Program}{w:World}{k:IntKind}{n y:Nat}{code:BoundsCode}(h:n<=y):(Instr.sliceBound (.int k (n:Int)) y code).run P w= .ok n w:=by
 have h':(n:Int)<=y:=by omega
 simp [Instr.sliceBound,asIntOf,h',h,Result.andThen]
theorem Eh{P:Program}{w:World}{isS:Bool}{len cap l h:Nat}{lo hi:Option Value}(hl:IsB lo 0 l)(hh:IsB hi len h)(h1:l<=h)(h2:h<=cap):(Instr.sliceBounds isS len cap lo hi none).run P w= .ok (l,h,cap) w:=by
 rcases hl with⟨rfl,rfl⟩|⟨k,rfl⟩<;>rcases hh with⟨rfl,rfl⟩|⟨k2,rfl⟩<;>simp [Instr.sliceBounds,run_sliceBound,h1,h2,Result.andThen]
theorem Sr{P:Program}{w:World}{isS:Bool}{len cap l h m:Nat}{lo:Option Value}{kh km:IntKind}(hl:IsB lo 0 l)(h1:l<=h)(h2:h<=m)(h3:m<=cap):(Instr.sliceBounds isS len cap lo (some (.int kh (h:Int))) (some (.int km (m:Int)))).run P w= .ok (l,h,m) w:=by
 rcases hl with⟨rfl,rfl⟩|⟨k,rfl⟩<;>simp [Instr.sliceBounds,run_sliceBound,h1,h2,h3,Result.andThen]
theorem Zn{R:Mp}{b o b' s l h m z:Nat}(hb:R b=some (b',s))(hz:1<=z)(h1:l<=h)(h2:h<=m):VR R (cutAt b o l h m z) (.slice (some (if m=l then⟨b',o,none⟩else(⟨b',o,none⟩:Addr).add (l*z))) (h -l) (m -l)):=by
 unfold cutAt;rw [Na];by_cases e:l=m
 . subst e;have:h -l=0:=by omega
   rw [if_pos rfl,this,Nat.sub_self];simp only [decide_true];exact .ML _
 . rw [if_neg (fun k=>e k.symm),Sm];simp only [e,decide_false];exact .iO b _ b' s _ z (m -l) hb hz (show h -l<=m -l by omega)
theorem jt{R:Mp}{sz l h b o n z:Nat}{mm sp:Option Nat}{v x':Value}(hx:VR R (.slice (some ⟨b,o,sp⟩) n z) x')(hv:Lm sz l h mm b o sp n z=some v)(c1:l<=h)(c2:h<=n):
  ∃(ad:Addr) (cap:Nat) (v':Value),x'= .slice (some ad) n cap/\n<=cap/\VR R v v'/\(mm=none->v'= .slice (some (if cap=l then ad else ad.add (l*sz))) (h -l) (cap -l))/\
   (∀m,mm=some m->h<=m/\m<=cap/\v'= .slice (some (if m=l then ad else ad.add (l*sz))) (h -l) (m -l)):=by
 cases hx with
 |flat v h=>simp [yc]at h
 |FG ad c'=>
  have hl:l=0:=by omega
  have hh:h=0:=by omega
  subst hl;subst hh;cases mm with
  |none=>
   simp [Lm]at hv;subst hv;exact ⟨ad,c',_,rfl,by omega, .FG _ _,fun _=>rfl,fun m e=>by cases e⟩
  |some m=>
   cases m with
   |zero=>simp [Lm]at hv;subst hv;exact ⟨ad,c',_,rfl,by omega, .ML _,(fun e=>by cases e),fun m e=>by cases e;exact ⟨by omega,by omega,rfl⟩⟩
   |succ m=>simp [Lm]at hv
 |ML ad=>
  have hl:l=0:=by omega
  have hh:h=0:=by omega
  subst hl;subst hh;cases mm with
  |none=>
   simp [Lm]at hv;subst hv;exact ⟨ad,0,_,rfl,by omega, .ML _,fun _=>rfl,fun m e=>by cases e⟩
  |some m=>
   cases m with
   |zero=>simp [Lm]at hv;subst hv;exact ⟨ad,0,_,rfl,by omega, .ML _,(fun e=>by cases e),fun m e=>by cases e;exact ⟨by omega,by omega,rfl⟩⟩
   |succ m=>simp [Lm]at hv
 |ly b o b' s n z c' hb hz hc hn=>
  obtain ⟨z,rfl⟩:∃q,z=q+1:=⟨z -1,by omega⟩;simp only [Lm]at hv
  split at hv
  . cases hv
  . rename_i tg;rw [Na]at tg;have tg:=of_decide_eq_true tg;cases mm with
    |none=>
     refine ⟨⟨b',o,none⟩,c',_,rfl,hn, ?_,fun _=>rfl,fun m e=>by cases e⟩;simp only [Na,yd]at hv;by_cases Oo:l=0\/l<n
     . have h2:v= .slice (some ⟨b,o+l*(z+1),none⟩) (h -l) (z+1):=by
        rcases Oo with Oo|Oo
        . simp only [Oo,decide_true]at hv;cases hv;simp only [Oo];rfl
        . have:decide (l.succ<=n)=true:=decide_eq_true Oo;rw [this]at hv
          split at hv
          . rename_i q;cases q
          . cases hv;rfl
       subst h2;rw [tg];have hle:l<=c':=by omega
       have e1:(if c'=l then(⟨b',o,none⟩:Addr)else(⟨b',o,none⟩:Addr).add (l*(z+1)))=if c'=l then(⟨b',o,none⟩:Addr)else⟨b',o+l*(z+1),none⟩:=by rw [Sm]
       rw [e1];by_cases e:c'=l
       . have:l=0:=by omega
         subst this;rw [if_pos e];have:=VR.ly (R:=R) b o b' s (h -0) (z+1) (c' -0) hb (by omega) (by simpa using hc) (by omega)
         simpa using this
       . rw [if_neg e];refine .ly b _ b' s _ (z+1) (c' -l) hb (by omega) ?_ (by omega)
         rw [Nat.sub_mul];have:=Nat.mul_le_mul_right (z+1) hle;omega
     . have d1:decide (l=0)=false:=decide_eq_false (by omega);have d2:decide (l.succ<=n)=false:=decide_eq_false (by omega);rw [d1,d2]at hv;cases hv;have:h -l=0:=by omega
       rw [this];exact .FG _ _
    |some m=>
     simp only [yd]at hv
     split at hv
     . rename_i d1 d2;have d1:=of_decide_eq_true d1;have d2:=of_decide_eq_true d2;cases hv;exact ⟨⟨b',o,none⟩,c',_,rfl,hn,Zn hb (by omega) c1 d1,fun e=>(by cases e),fun m' e=>by cases e;exact ⟨d1,by omega,by rw [tg]⟩⟩
     . cases hv
 |iO b o b' s n z c hb hz hn=>
  obtain ⟨z,rfl⟩:∃q,z=q+1:=⟨z -1,by omega⟩;simp only [Lm]at hv
  split at hv
  . cases hv
  . rename_i tg;rw [Na]at tg;have tg:=of_decide_eq_true tg;cases mm with
    |none=>
     simp only at hv;cases hv;exact ⟨⟨b',o,none⟩,c,_,rfl,hn,Zn hb (by omega) c1 (by omega),fun e=>by rw [tg],fun m e=>by cases e⟩
    |some m=>
     simp only [yd]at hv
     split at hv
     . rename_i d1 d2;have d1:=of_decide_eq_true d1;have d2:=of_decide_eq_true d2;cases hv;exact ⟨⟨b',o,none⟩,c,_,rfl,hn,Zn hb (by omega) c1 d1,fun e=>(by cases e),fun m' e=>by cases e;exact ⟨d1,d2,by rw [tg]⟩⟩
     . cases hv
section
variable{E:Env}(hE:Rb E){R:Mp}{t:Tm}{a:Act}(ht:TR R t a.tmps)
include hE ht
theorem GD{ty:TypeId}{x v x':Value}{lo hi mx:Option Operand}(hx:VR R x x')(h:Sn E t ty x lo hi mx=some v)(w:World):
  ∃v',VR R v v'/\(Instr.sliceAt ty x' (lo.map a.eval) (hi.map a.eval) (mx.map a.eval)).run E.P w= .ok v' w:=by
 unfold Sn at h
 split at h
 . cases h
 . rename_i i hi0;obtain ⟨ii,d,hT⟩:=hE.is hi0
   split at h
   . rename_i n e b o ye;have:=hT.ar ye;subst this
     split at h
     . rename_i ie l hh Gm hl hhi;obtain ⟨ei,ed,Og⟩:=hE.is Gm
       split at h
       . cases h
       . rename_i z hz
         split at h
         . rename_i c1 c2;cases h;rw [yd]at c1 c2;have c1:=of_decide_eq_true c1;have c2:=of_decide_eq_true c2;obtain ⟨b',s,hb,rfl⟩:=Wg hx;refine ⟨_,Zn hb (by omega) c1 c2, ?_⟩;simp [Instr.sliceAt,Sa w hT.Sf,Instr.sureAddr,Result.andThen,Eh (Zg ht hl) (Zg ht hhi) c1 c2,od w Og.info,Og.size,hz]
         . cases h
     . cases h
   . rename_i e ye;have:=hT.sl ye;subst this
     split at h
     . rename_i ie Gm hl hhi;obtain ⟨ei,ed,Og⟩:=hE.is Gm;cases h;have:=mc hx rfl;subst this;refine ⟨_, .flat _ rfl, ?_⟩;have:=Eh (P:=E.P) (w:=w) (isS:=true) (cap:=0) (Zg ht hl) (Zg ht hhi) (Nat.le_refl 0) (Nat.le_refl 0);simp [Instr.sliceAt,Instr.slice,Sa w hT.Sf,Result.andThen,this,od w Og.info]
     . cases h
   . rename_i e b o sp n z ye;have:=hT.sl ye;subst this
     split at h
     . rename_i ie l hh Gm hl hhi;obtain ⟨ei,ed,Og⟩:=hE.is Gm
       split at h
       . rename_i c1 c2;rw [yd]at c1 c2;have c1:=of_decide_eq_true c1;have c2:=of_decide_eq_true c2;have bl:=Zg ht hl;have bh:=Zg ht hhi;have sz:ei.size=ie.size:=Og.size;have two:∀(ad:Addr) (cap:Nat),n<=cap->mx=none->x'= .slice (some ad) n cap->(Instr.sliceAt ty x' (lo.map a.eval) (hi.map a.eval) (mx.map a.eval)).run E.P w= .ok (.slice (some (if cap=l then ad else ad.add (l*ie.size))) (hh -l) (cap -l)) w:=fun ad cap hc hm e=>by
          subst hm;subst e;have:=Eh (P:=E.P) (w:=w) (isS:=true) (cap:=cap) bl bh c1 (by omega);simp [Instr.sliceAt,Instr.slice,Sa w hT.Sf,Result.andThen,this,od w Og.info,sz]
          split<;>simp_all
         have three:∀(ad:Addr) (cap m:Nat),(∃xm xh,mx=some xm/\hi=some xh/\cB t (some xm) 0=some m)->hh<=m->m<=cap->x'= .slice (some ad) n cap->(Instr.sliceAt ty x' (lo.map a.eval) (hi.map a.eval) (mx.map a.eval)).run E.P w= .ok (.slice (some (if m=l then ad else ad.add (l*ie.size))) (hh -l) (m -l)) w:=fun ad cap m hm h1 h2 e=>by
          obtain ⟨xm,xh,rfl,rfl,hb⟩:=hm;subst e;have bm:=Zg ht hb;rcases bm with⟨bm,_⟩|⟨km,bm⟩
          . cases bm
          rcases bh with⟨bh,_⟩|⟨kh,bh⟩
          . cases bh
          have:=Sr (P:=E.P) (w:=w) (isS:=true) (len:=n) (cap:=cap) (kh:=kh) (km:=km) bl c1 h1 h2;rw [bm,bh];simp [Instr.sliceAt,Instr.slice,Sa w hT.Sf,Result.andThen,this,od w Og.info,sz]
          split<;>simp_all
         split at h
         . obtain ⟨ad,cap,v',e1,e2,e3,e4,_⟩:=jt hx h c1 c2;exact ⟨v',e3,by rw [two ad cap e2 rfl e1,e4 rfl]⟩
         . split at h
           . rename_i m _ hm;obtain ⟨ad,cap,v',e1,e2,e3,_,e5⟩:=jt hx h c1 c2;obtain ⟨q1,q2,q3⟩:=e5 _ rfl;exact ⟨v',e3,by rw [three ad cap _ ⟨_,_,rfl,rfl,hm⟩ q1 q2 e1,q3]⟩
           . cases h
       . cases h
     . cases h
   . cases h
end
theorem ID{P:Program}{w:World}{kt:TypeId}{kd:IntKind}{q:IntKind}{n:Int}(hd:P.underlying kt=some (.int kd))(e:Bool)(m:Nat):(Instr.checkKey e (m+1) kt (.int q n)).run P w= .ok () w:=by
 unfold Instr.checkKey;simp [Sa w hd,Result.andThen]
theorem Cq{P:Program}{w:World}{kt:TypeId}{d:TypeDesc}{k:Value}{l:List MapEntry}{a:Option (Nat×Value)}(hd:P.underlying kt=some d)(h:Instr.findNow d k l 0=some a):(Instr.findKey kt k l).run P w= .ok a w:=by
 simp [Instr.findKey,Sa w hd,Result.andThen,h]
theorem El{k e:Value}{b:Bool}(h:fJ k e=some b):∃q n m,k= .int q n/\e= .int q m/\b=decide (n=m):=by
 cases k<;>cases e<;>simp only [fJ]at h<;>first|(cases h;done)|skip
 rename_i q n q' m
 split at h
 . rename_i hk;have:=Qb hk;subst this;cases h;exact ⟨q,n,m,rfl,rfl,by rw [Ce]⟩
 . cases h
theorem Fp{R:Mp}{k:Value}{kd:IntKind}:∀(es:List (Value×Value)) (Dl:List MapEntry) (r:Option Value),es.length=Dl.length->
  (∀(i:Nat) (p:Value×Value) (e:MapEntry),es[i]?=some p->Dl[i]?=some e->VR R p.1 e.key/\VR R p.2 e.val)->nD k es=some r->∀i:Nat,
  match r with
  |none=>Instr.findNow (.int kd) k Dl i=some none
  |some v=>∃j v',Instr.findNow (.int kd) k Dl i=some (some (j,v'))/\VR R v v'
 |[],Dl,r,hl,hp,h,i=>by
  have:Dl=[]:=by simpa using hl.symm
  subst this;simp [nD]at h;subst h;simp [Instr.findNow]
 |p::es,[],r,hl,hp,h,i=>by simp at hl
 |p::es,e::Dl,r,hl,hp,h,i=>by
  obtain ⟨h1,h2⟩:=hp 0 p e rfl rfl;simp only [nD]at h
  split at h
  . rename_i hs;cases h;obtain ⟨q,n,m,rfl,he,hb⟩:=El hs;rw [he]at h1;have:=Wc h1;have nJ:n=m:=of_decide_eq_true hb.symm;simp only;refine ⟨i,e.val, ?_,h2⟩;simp [Instr.findNow,this,Instr.sameNow,nJ]
  . rename_i hs;obtain ⟨q,n,m,rfl,he,hb⟩:=El hs;rw [he]at h1;have:=Wc h1;have nJ:¬n=m:=of_decide_eq_false hb.symm;have ih:=Fp (kd:=kd) es Dl r (by simpa using hl) (fun i p e a b=>hp (i+1) p e (by simpa using a) (by simpa using b)) h (i+1);have e2:Instr.findNow (.int kd) (.int q n) (e::Dl) i=Instr.findNow (.int kd) (.int q n) Dl (i+1):=by
     have:(n==m)=false:=by simpa using nJ
     simp [Instr.findNow,‹e.key=_›,Instr.sameNow,this]
    rw [e2];exact ih
  . cases h
section
variable{E:Env}(hE:Rb E){B:Nat->Prop}{w0:World}{R:Mp}{σ:AH}{w:World}(hS:Vc B w0 R σ w)
include hE hS
theorem uB{ty:TypeId}{m k v m' k':Value}{ok:Bool}(hm:VR R m m')(hk:VR R k k')(h:cv E σ ty m k ok=some v):∃v',VR R v v'/\(Instr.lookup ty m' k' ok).run E.P w= .ok v' w:=by
 unfold cv at h
 split at h
 . rename_i i r hi;obtain ⟨ii,d,hT⟩:=hE.is hi
   split at h
   . rename_i kt et es ye Q6 hg;have:=hT.mp ye;subst this
     split at h
     . rename_i ik ie hkt het;obtain ⟨ki,kd,OU⟩:=hE.is hkt;obtain ⟨ei,ed,Og⟩:=hE.is het
       split at h
       . rename_i z PO hz;obtain ⟨kk,rfl⟩:∃kk,_=TypeDesc.int kk:=⟨_,OU.it PO⟩;obtain ⟨Kh,tg⟩:=Og.zero hz;have hX:∃q n,k= .int q n:=by cases k<;>simp [isI]at Q6;exact ⟨_,_,rfl⟩
         obtain ⟨q,n,rfl⟩:=hX;have:=Wc hk;subst this;have hr:∃r' s,m'= .map (some r')/\R r=some (r',s):=by
          cases hm with
          |flat v h=>simp [yc]at h
          |map r r' s h=>exact ⟨r',s,rfl,h⟩
         obtain ⟨r',s,rfl,hr⟩:=hr;obtain ⟨_,Dl,cl,h1,h2,h3⟩:=hS.obj r r' s _ hr hg;have Mf:=ID (P:=E.P) (w:=w) (q:=q) (n:=n) OU.Sf (Dl.isEmpty) 9999;have yk:(getObj r').run E.P w= .ok (.map Dl cl) w:=by simp [getObj,Sem.run,h1]
         split at h
         . rename_i u hf;cases h;obtain ⟨j,u',e1,e2⟩:=Fp (kd:=kk) es Dl.toList (some u) (by simpa using h2) (fun i p e a b=>h3 i p e a (by simpa using b)) hf 0;have PU:=Cq (P:=E.P) (w:=w) OU.Sf e1;cases ok
           . exact ⟨u',e2,by simp [Instr.lookup,Sa w hT.Sf,Result.andThen,yk,Mf,PU]⟩
           . exact ⟨.tuple #[u', .bool true],(LR.cons e2 (LR.cons (.flat _ rfl) (LR.nil R))).LG,by simp [Instr.lookup,Sa w hT.Sf,Result.andThen,yk,Mf,PU]⟩
         . rename_i hf;cases h;have e1:=Fp (kd:=kk) es Dl.toList none (by simpa using h2) (fun i p e a b=>h3 i p e a (by simpa using b)) hf 0;have PU:=Cq (P:=E.P) (w:=w) OU.Sf e1;cases ok
           . exact ⟨z,Qe R tg,by simp [Instr.lookup,Sa w hT.Sf,Result.andThen,yk,Mf,PU,tq w Og.info Kh]⟩
           . exact ⟨.tuple #[z, .bool false],(LR.cons (Qe R tg) (LR.cons (.flat _ rfl) (LR.nil R))).LG,by simp [Instr.lookup,Sa w hT.Sf,Result.andThen,yk,Mf,PU,tq w Og.info Kh]⟩
         . cases h
       . cases h
     . cases h
   . cases h
 . cases h
theorem VG{t:Tm}{a:Act}(ht:TR R t a.tmps)(o:Oper)(hc:cls o.op= .read){v:Value}(h:Cf E t σ o.op=some v):∃v',VR R v v'/\(execOp a.eval o).run E.P w= .ok (.value v') w:=by
 obtain ⟨dst,op,tp,pos,af,g⟩:=o;cases op with
 |load ty x=>
  simp only [Cf]at h
  split at h
  . rename_i u hu;obtain ⟨v',h1,h2⟩:=Bv hE hS (Ia ht hu) h;exact ⟨v',h1,Yg h2⟩
  . cases h
 |binOp op ty x y yt=>
  simp only [Cf]at h
  split at h
  . rename_i u hu
    split at h
    . rename_i u2 QU;obtain ⟨v',h1,h2⟩:=OO hE hS (Ia ht hu) (Ia ht QU) h;exact ⟨v',h1,Yg h2⟩
    . cases h
  . cases h
 |slice ty x lo hi mx=>
  simp only [Cf]at h
  split at h
  . rename_i u hu;obtain ⟨v',h1,h2⟩:=GD hE ht (Ia ht hu) h w;exact ⟨v',h1,Yg h2⟩
  . cases h
 |lookup ty x i ok=>
  simp only [Cf]at h
  split at h
  . rename_i u k hu hk;obtain ⟨v',h1,h2⟩:=uB hE hS (Ia ht hu) (Ia ht hk) h;exact ⟨v',h1,Yg h2⟩
  . cases h
 |call c=>simp only [cls]at hc;split at hc<;>cases hc
 |_=>simp [cls]at hc
end
end Sk
end Go.Proofs.YtfnkmolffhfpoaaGreat
