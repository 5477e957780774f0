/- -/
import Derived.Test.YtfnkmolffhfpoaaGreatHq3
import Derived.Laws.CopyRow
set_option linter.unusedVariables false
set_option linter.unusedSimpArgs false
set_option linter.unusedSectionVars false
namespace Go.Proofs.YtfnkmolffhfpoaaGreat
namespace Sk
variable[Interp]
theorem Bl{α:Type}(P:Program):∀(e:Sem α) (a:α),Gd P e=some a->∀w,e.run P w= .ok a w
 | .pure a,b,h,w=>by simp [Gd]at h;subst h;rfl
 | .program k,b,h,w=>by simp only [Gd]at h;exact Bl P (k P) b h w
 | .load ..,b,h,w=>by simp [Gd]at h
 | .store ..,b,h,w=>by simp [Gd]at h
 | .new ..,b,h,w=>by simp [Gd]at h
 | .shape ..,b,h,w=>by simp [Gd]at h
 | .freeze ..,b,h,w=>by simp [Gd]at h
 | .frozen ..,b,h,w=>by simp [Gd]at h
 | .getObj ..,b,h,w=>by simp [Gd]at h
 | .setObj ..,b,h,w=>by simp [Gd]at h
 | .choose ..,b,h,w=>by simp [Gd]at h
 | .sys ..,b,h,w=>by simp [Gd]at h
 | .mark ..,b,h,w=>by simp [Gd]at h
 | .halt ..,b,h,w=>by simp [Gd]at h
theorem zq{x:Option Value}{v:Value}(h:lD x=some v):x=some v/\Sk.flat v=true:=by
 unfold lD at h
 split at h
 . split at h
   . cases h;exact ⟨rfl,‹_›⟩
   . cases h
 . cases h
theorem NL(op:BinOp)(k:IntKind)(a b:Int)(v:Value)(h:DU op k a b=some v){P:Program}(ty:TypeId)(x y:Operand)(w:World):
  (do eqGuard op ty x y (.int k a) (.int k b);binOp op ty (.int k a) (.int k b):Sem Value).run P w= .ok v w:=by
 cases op<;>simp only [DU]at h<;>first|(cases h;done)|skip
 all_goals
  cases h;simp [eqGuard,binOp,go_sem,Op.intArith,Op.intCmp,Mm,Ae,lB,Ce]
 all_goals first|rfl|(rw [<-decide_not];congr 1;simp;done)|skip
theorem yv{P:Program}{op:BinOp}{ty:TypeId}{x y:Operand}{a b v:Value}{R:Mp}{a' b':Value}(ha:VR R a a')(hb:VR R b b')(h:JL P op ty x y a b=some v)(w:World):
  (do eqGuard op ty x y a' b';binOp op ty a' b':Sem Value).run P w= .ok v w:=by
 unfold JL at h
 split at h
 . rename_i v0 h0;cases h
   split at h0
   . rename_i k m k' n
     split at h0
     . rename_i hk;have:=Qb hk;subst this;rw [Wc ha,Wc hb];exact NL op k m n v h0 ty x y w
     . cases h0
   . cases h0
 . split at h
   . rename_i h1
     split at h
     . rename_i h2;rw [Cp ha h1,Cp hb h2];exact Bl P _ v (zq h).1 w
     . cases h
   . cases h
theorem tz{P:Program}{op:BinOp}{ty:TypeId}{x y:Operand}{a b v:Value}(h:JL P op ty x y a b=some v):Sk.flat v=true:=by
 unfold JL at h
 split at h
 . rename_i v0 h0;cases h
   split at h0
   . split at h0
     . unfold DU at h0
       split at h0<;>first|(cases h0;rfl)|cases h0
     . cases h0
   . cases h0
 . split at h
   . split at h
     . exact (zq h).2
     . cases h
   . cases h
theorem Cl{R:Mp}(place:Nat->Option (Nat×Nat)):∀(ps K6:List (Nat×Value)) (c c':List Value) (r:List Value),ps.length=K6.length->
  (∀(i:Nat) (p q:Nat×Value),ps[i]?=some p->K6[i]?=some q->p.1=q.1/\VR R p.2 q.2)->LR R c c'->Jc place ps c=some r->∃r':List Value,LR R r r'/\Instr.fill place ⟨c'⟩ K6=some ⟨r'⟩
 |[],K6,c,c',r,hl,hp,hc,h=>by
  have:K6=[]:=by simpa using hl.symm
  subst this;simp [Jc]at h;subst h;exact ⟨c',hc,by simp [Instr.fill]⟩
 |p::ps,[],c,c',r,hl,hp,hc,h=>by simp at hl
 |p::ps,q::K6,c,c',r,hl,hp,hc,h=>by
  obtain ⟨h1,h2⟩:=hp 0 p q rfl rfl;obtain ⟨i,v⟩:=p;obtain ⟨j,u⟩:=q;simp only at h1 h2;subst h1;simp only [Jc]at h;cases Qr:place i with
  |none=>rw [Qr]at h;cases h
  |some os=>
   obtain ⟨o,s⟩:=os;rw [Qr]at h;simp only [Na,cd]at h;by_cases hs:(Ja v).length=s
   . simp only [hs,decide_true]at h;cases KO:Hm o c (Ja v)with
     |none=>rw [KO]at h;cases h
     |some c2=>
      rw [KO]at h;simp only at h;obtain ⟨hb,rfl⟩:=Mr _ _ _ _ KO;have Aq:=Ek h2;have hus:u.cells.size=s:=by rw [<-hs,Aq.1,Xc];simp
      have jO:LR R (c.take o++Ja v++c.drop (o+(Ja v).length)) (c'.take o++Ja u++c'.drop (o+(Ja u).length)):=by
       rw [Aq.1];exact LR.append (LR.append (hc.take o) Aq) (hc.drop _)
      have hlen:u.cells.toList.length=s:=by simpa using hus
      obtain ⟨r',h3,h4⟩:=Cl place ps K6 _ (c'.take o++Ja u++c'.drop (o+(Ja u).length)) r (by simpa using hl) (fun i p q a b=>hp (i+1) p q (by simpa using a) (by simpa using b)) jO h;refine ⟨r',h3, ?_⟩;have hf:(u.cells.zipIdx.foldl (fun cs (x:Value×Nat)=>cs.setIfInBounds (o+x.2) x.1) (⟨c'⟩:Array Value))=⟨c'.take o++Ja u++c'.drop (o+(Ja u).length)⟩:=by
       rw [Xc,<-Array.foldl_toList];have hz:u.cells.zipIdx.toList=u.cells.toList.zipIdx:=by simp
       rw [hz];have kU:o+u.cells.toList.length<=c'.length:=by rw [hlen,<-hs,<-hc.1];exact hb
       generalize u.cells.toList=us at kU;have key:∀(us:List Value) (k:Nat) (cs:List Value),o+k+us.length<=cs.length->
         (us.zipIdx k).foldl (fun(cs:Array Value) (x:Value×Nat)=>cs.setIfInBounds (o+x.2) x.1) ⟨cs⟩=⟨cs.take (o+k)++us++cs.drop (o+k+us.length)⟩:=by
        intro us
        induction us with
        |nil=>intro k cs _;simp
        |cons x us ih=>
         intro k cs hk;simp only [List.zipIdx_cons,List.foldl_cons];have hk:o+k+(us.length+1)<=cs.length:=by simpa using hk
         have e1:(⟨cs⟩:Array Value).setIfInBounds (o+k) x=⟨cs.set (o+k) x⟩:=by simp
         rw [e1,ih (k+1) (cs.set (o+k) x) (by simp;omega)];have e2:=list_seg_step cs (o+k) x us (by omega);have e3:o+(k+1)=o+k+1:=by omega
         rw [e3]
         simpa [Nat.add_assoc]using e2
       simpa using key us 0 c' (by simpa using kU)
      have Vh:¬(o+u.cells.size>(⟨c'⟩:Array Value).size):=by rw [hus,<-hs];simp only [List.size_toArray];rw [<-hc.1];omega
      simp only [Instr.fill,Qr];rw [if_neg (by simp only [hus];simp;rw [hus]at Vh;simpa using Vh)];rw [hf];exact h4
   . simp only [hs,decide_false]at h;cases h
theorem Rr{R:Mp}{t:Tm}{a:Act}(ht:TR R t a.tmps):∀{ps:List (Nat×Operand)} {vs:List (Nat×Value)},iU t ps=some vs->
  vs.length=(ps.map fun p=>(p.1,a.eval p.2)).length/\∀(i:Nat) (p q:Nat×Value),vs[i]?=some p->(ps.map fun p=>(p.1,a.eval p.2))[i]?=some q->p.1=q.1/\VR R p.2 q.2
 |[],vs,h=>by simp [iU]at h;subst h;exact ⟨rfl,fun i p q a=>by simp at a⟩
 |p::ps,vs,h=>by
  simp only [iU]at h;cases h1:ev t p.2 with
  |none=>rw [h1]at h;cases h
  |some v=>
   cases h2:iU t ps with
   |none=>rw [h1,h2]at h;cases h
   |some l=>
    rw [h1,h2]at h;cases h;obtain ⟨k1,k2⟩:=Rr ht h2;refine ⟨by simpa using k1,fun i x y hx hy=> ?_⟩;cases i with
    |zero=>simp at hx hy;subst hx;subst hy;exact ⟨rfl,Ia ht h1⟩
    |succ i=>exact k2 i x y (by simpa using hx) (by simpa using hy)
theorem Yg{P:Program}{e:Sem Value}{v:Value}{w w':World}(h:e.run P w= .ok v w'):(do pure (Next.value (<-e)):Sem Next).run P w= .ok (.value v) w':=by simp [go_sem,h]
section
variable{E:Env}(hE:Rb E){R:Mp}{t:Tm}{a:Act}(ht:TR R t a.tmps)
include hE ht
theorem gu{dst:Option Tmp}{ty:TypeId}{x:Operand}{i:Nat}{tp:TypeId}{pos:String}{af:Array Edge}{g:Option (Nat×Bool)}{v:Value}(h:Ka E t (.fieldAddr ty x i)=some v):
  ∃v',VR R v v'/\∀w,(execOp a.eval ⟨dst, .fieldAddr ty x i,tp,pos,af,g⟩).run E.P w= .ok (.value v') w:=by
 simp only [Ka]at h
 split at h
 . rename_i b o hx
   split at h
   . rename_i j hj;obtain ⟨ii,d,hT⟩:=hE.is hj
     split at h
     . rename_i fs KU
       split at h
       . rename_i f hf;obtain ⟨F,rfl,rfl⟩:=hT.st KU;obtain ⟨gf,hg,rfl⟩:=rv hf;simp only at h
         split at h
         . cases h
         . rename_i n hn;cases h;obtain ⟨fi,hfi,KU⟩:=oB hn;obtain ⟨b',s,hb,hv⟩:=Wg (Ia ht hx);refine ⟨_, .ptr b _ b' s hb,fun w=>Yg ?_⟩;rw [hv];simp [Instr.fieldAt,go_sem,Sa w hT.Sf,hg,hfi,KU,od,fieldPlace]
       . cases h
     . cases h
   . cases h
 . cases h
omit ht in
theorem yD{ty:TypeId}{u u':Value}{k:IntKind}{j:Nat}{v:Value}(hu:VR R u u')(h:bB E ty u j=some v):
  ∃v',VR R v v'/\∀w,(Instr.indexAt ty u' (.int k (.ofNat j))).run E.P w= .ok v' w:=by
 unfold bB at h
 split at h
 . rename_i q hq;obtain ⟨ii,d,hT⟩:=hE.is hq
   split at h
   . rename_i e ad n z ye
     split at h
     . rename_i zb;rw [yd]at zb;have zb:j+1<=n:=of_decide_eq_true zb
       split at h
       . rename_i ie Gm;cases h;obtain ⟨ei,ed,Og⟩:=hE.is Gm;have:=hT.sl ye;subst this;obtain ⟨b',s,c',hb,rfl,_,_⟩:=Qm hu (by omega);refine ⟨_, .ptr _ _ b' s hb,fun w=> ?_⟩;have M6:(j:Int)<n:=by omega
         have hj0:(0:Int)<=j:=by omega
         simp [Instr.indexAt,go_sem,asIntOf,Sa w hT.Sf,od w Og.info,Og.size,M6,hj0];exact fun hh=>absurd hh (by omega)
       . cases h
     . cases h
   . rename_i n e b o ye
     split at h
     . rename_i zb;rw [yd]at zb;have zb:j+1<=n:=of_decide_eq_true zb
       split at h
       . rename_i ie Gm;cases h;obtain ⟨ei,ed,Og⟩:=hE.is Gm;have:=hT.ar ye;subst this;obtain ⟨b',s,hb,rfl⟩:=Wg hu;refine ⟨_, .ptr _ _ b' s hb,fun w=> ?_⟩;have M6:(j:Int)<n:=by omega
         have hj0:(0:Int)<=j:=by omega
         simp [Instr.indexAt,go_sem,asIntOf,Sa w hT.Sf,od w Og.info,Og.size,M6,hj0,Instr.sureAddr];exact fun hh=>absurd hh (by omega)
       . cases h
     . cases h
   . cases h
 . cases h
theorem zD{dst:Option Tmp}{ty:TypeId}{x i:Operand}{tp:TypeId}{pos:String}{af:Array Edge}{g:Option (Nat×Bool)}{v:Value}(h:Ka E t (.indexAddr ty x i)=some v):
  ∃v',VR R v v'/\∀w,(execOp a.eval ⟨dst, .indexAddr ty x i,tp,pos,af,g⟩).run E.P w= .ok (.value v') w:=by
 simp only [Ka]at h
 split at h
 . rename_i k j hi;have e1:=Wc (Ia ht hi)
   split at h
   . rename_i u hx;obtain ⟨v',h1,h2⟩:=yD hE (k:=k) (Ia ht hx) h;exact ⟨v',h1,fun w=>Yg (by rw [e1];exact h2 w)⟩
   . cases h
 . cases h
theorem AD{dst:Option Tmp}{ty:TypeId}{ps:Array (Nat×Operand)}{tp:TypeId}{pos:String}{af:Array Edge}{g:Option (Nat×Bool)}{v:Value}(h:Ka E t (.build ty ps)=some v):
  ∃v',VR R v v'/\∀w,(execOp a.eval ⟨dst, .build ty ps,tp,pos,af,g⟩).run E.P w= .ok (.value v') w:=by
 simp only [Ka]at h
 split at h
 . rename_i i hi;obtain ⟨ii,d,hT⟩:=hE.is hi
   split at h
   . rename_i z vs hz mJ;obtain ⟨Kh,tg⟩:=hT.zero hz;obtain ⟨hl,hp⟩:=Rr ht mJ;have LU:LR R (Ja z) z.cells.toList:=by rw [<-Xc];exact Ek (Qe R tg)
     have hps:(ps.map fun(i,x)=>(i,a.eval x)).toList=ps.toList.map fun p=>(p.1,a.eval p.2):=by simp
     split at h
     . rename_i fs KU;obtain ⟨F,rfl,rfl,ug⟩:=hT.fX KU;cases hf:Jc (fieldAt (fieldsOf E.P F)) vs (Ja z)with
       |none=>rw [hf]at h;simp [Xu]at h
       |some r=>
        rw [hf]at h;simp only [Xu]at h;cases h;obtain ⟨r',hr,uz⟩:=Cl (R:=R) _ _ _ _ _ _ hl hp LU hf;refine ⟨.agg ⟨r'⟩,hr.agg,fun w=>Yg ?_⟩;refine run_build w ty _ ⟨r'⟩ ?_
        unfold Program.built;rw [hT.info,hT.Sf];have hm:F.toList.mapM (fun f=>(E.P.info? f.type).map fun i=>(f.offset,i.size))=some (F.toList.map fun f=>(f.offset,E.P.cellsOf f.type)):=by
         generalize F.toList=L at ug;clear hf KU hT
         induction L with
         |nil=>simp
         |cons f L ih=>
          simp only [List.all_cons,Bool.and_eq_true]at ug;obtain ⟨j,hj⟩:=Option.isSome_iff_exists.1 ug.1
          simp only [List.mapM_cons,hj,ih ug.2];simp [Program.cellsOf,hj]
        simp only [Kh,hm];have Qr:(fun i=>(F.toList.map fun f=>(f.offset,E.P.cellsOf f.type)).toArray[i]?)=fieldAt (fieldsOf E.P F):=by
         funext i
         unfold fieldAt fieldsOf;rw [Ec];simp only [List.getElem?_toArray,List.getElem?_map];cases F.toList[i]?<;>rfl
        rw [hps,Qr];exact uz
     . rename_i n e ye;have:=hT.ar ye;subst this
       split at h
       . rename_i ie Gm;obtain ⟨ei,ed,Og⟩:=hE.is Gm;cases hf:Jc (fun i=>some (Nat.mul i ie.size,ie.size)) vs (Ja z)with
         |none=>rw [hf]at h;simp [Xu]at h
         |some r=>
          rw [hf]at h;simp only [Xu]at h;cases h;obtain ⟨r',hr,uz⟩:=Cl (R:=R) _ _ _ _ _ _ hl hp LU hf;refine ⟨.agg ⟨r'⟩,hr.agg,fun w=>Yg ?_⟩;refine run_build w ty _ ⟨r'⟩ ?_
          unfold Program.built;rw [hT.info,hT.Sf];simp only [Kh,Og.info];rw [hps,Og.size];exact uz
       . cases h
     . cases h
   . cases h
 . cases h
theorem BD{dst:Option Tmp}{ty:TypeId}{x:Operand}{i:Nat}{tp:TypeId}{pos:String}{af:Array Edge}{g:Option (Nat×Bool)}{v:Value}(h:Ka E t (.field ty x i)=some v):
  ∃v',VR R v v'/\∀w,(execOp a.eval ⟨dst, .field ty x i,tp,pos,af,g⟩).run E.P w= .ok (.value v') w:=by
 simp only [Ka]at h
 split at h
 . rename_i j l hj hx;obtain ⟨ii,d,hT⟩:=hE.is hj
   split at h
   . rename_i fs KU
     split at h
     . rename_i f hf;obtain ⟨F,rfl,rfl⟩:=hT.st KU;obtain ⟨gf,hg,rfl⟩:=rv hf;obtain ⟨l',hl,hv⟩:=Dp (Ia ht hx);obtain ⟨v',h1,h2⟩:=MG hE hl h;refine ⟨v',h1,fun w=>Yg ?_⟩;rw [hv];simp [Instr.field,Sa w hT.Sf,hg,asAgg,Result.andThen];exact h2 w
     . cases h
   . cases h
 . cases h
theorem OG{dst:Option Tmp}{c x y:Operand}{tp:TypeId}{pos:String}{af:Array Edge}{g:Option (Nat×Bool)}{v:Value}(h:Ka E t (.pick c x y)=some v):
  ∃v',VR R v v'/\∀w,(execOp a.eval ⟨dst, .pick c x y,tp,pos,af,g⟩).run E.P w= .ok (.value v') w:=by
 simp only [Ka]at h
 split at h
 . rename_i hc;exact ⟨_,Ia ht h,fun w=>by simp only [execOp];rw [vl (Ia ht hc)];simp [asBool]⟩
 . rename_i hc;exact ⟨_,Ia ht h,fun w=>by simp only [execOp];rw [vl (Ia ht hc)];simp [asBool]⟩
 . cases h
theorem OL{dst:Option Tmp}{x:Operand}{tp:TypeId}{pos:String}{af:Array Edge}{g:Option (Nat×Bool)}{v:Value}(h:Ka E t (.nilCheck x)=some v):
  ∃v',VR R v v'/\∀w,(execOp a.eval ⟨dst, .nilCheck x,tp,pos,af,g⟩).run E.P w= .ok (.value v') w:=by
 simp only [Ka]at h
 split at h
 . rename_i u hx;have hu:=Ia ht hx
   split at h
   . cases h;obtain ⟨b,o,b',s,rfl,hb,hv⟩:=kJ hu;exact ⟨_, .ptr b o b' s hb,fun w=>by simp only [execOp];rw [hv];simp⟩
   . cases h;refine ⟨a.eval x,hu,fun w=> ?_⟩;simp only [execOp];generalize a.eval x=q at hu;cases hu<;>simp
   . cases h;refine ⟨a.eval x,hu,fun w=> ?_⟩;simp only [execOp];generalize a.eval x=q at hu;cases hu<;>simp
   . cases h
 . cases h
theorem PG{dst:Option Tmp}{tp:TypeId}{pos:String}{af:Array Edge}{g:Option (Nat×Bool)}{v:Value}{x:Operand}(h:Ka E t (.move x)=some v):∃v',VR R v v'/\∀w,(execOp a.eval ⟨dst, .move x,tp,pos,af,g⟩).run E.P w= .ok (.value v') w:=by
 simp only [Ka]at h;exact ⟨_,Ia ht h,fun w=>by simp [execOp]⟩
theorem rB{dst:Option Tmp}{tp:TypeId}{pos:String}{af:Array Edge}{g:Option (Nat×Bool)}{v:Value}{x:Operand}(h:Ka E t (.assign x)=some v):∃v',VR R v v'/\∀w,(execOp a.eval ⟨dst, .assign x,tp,pos,af,g⟩).run E.P w= .ok (.value v') w:=by
 simp only [Ka]at h;exact ⟨_,Ia ht h,fun w=>by simp [execOp]⟩
theorem PL{dst:Option Tmp}{tp:TypeId}{pos:String}{af:Array Edge}{g:Option (Nat×Bool)}{v:Value}{op:BinOp}{ty yt:TypeId}{x y:Operand}(h:Ka E t (.binOp op ty x y yt)=some v):∃v',VR R v v'/\∀w,(execOp a.eval ⟨dst, .binOp op ty x y yt,tp,pos,af,g⟩).run E.P w= .ok (.value v') w:=by
 simp only [Ka]at h
 split at h
 . rename_i u hx
   split at h
   . rename_i u2 hy
     split at h
     . rename_i v0 hs;cases h;obtain ⟨v',k,k',m,n,e1,e2,hb,hd⟩:=yq hE (Ia ht hx) (Ia ht hy) hs;exact ⟨v',hd.vr R,fun w=>Yg (by rw [e1,e2];exact wD hb w)⟩
     . exact ⟨v,Qe R (tz h),fun w=>Yg (yv (Ia ht hx) (Ia ht hy) h w)⟩
   . cases h
 . cases h
theorem LO{dst:Option Tmp}{tp:TypeId}{pos:String}{af:Array Edge}{g:Option (Nat×Bool)}{v:Value}{op:UnOp}{ty:TypeId}{x:Operand}(h:Ka E t (.unOp op ty x)=some v):∃v',VR R v v'/\∀w,(execOp a.eval ⟨dst, .unOp op ty x,tp,pos,af,g⟩).run E.P w= .ok (.value v') w:=by
 simp only [Ka]at h
 split at h
 . rename_i b hx
   split at h
   . cases h;refine ⟨_, .flat _ rfl,fun w=>Yg ?_⟩;rw [vl (Ia ht hx),Ae];simp [Op.unary]
   . cases h
 . rename_i k n hx;obtain ⟨h1,h2⟩:=zq h;exact ⟨v,Qe R h2,fun w=>Yg (by rw [Wc (Ia ht hx)];exact Bl E.P _ v h1 w)⟩
 . rename_i hx;obtain ⟨b,e,rfl,hd⟩:=xD hE (Ia ht hx) h;exact ⟨_,hd.vr R,fun w=>Yg (by rw [e];simp [Op.unary])⟩
 . cases h
theorem QG{dst:Option Tmp}{tp:TypeId}{pos:String}{af:Array Edge}{g:Option (Nat×Bool)}{v:Value}{ss dd:TypeId}{x:Operand}(h:Ka E t (.convert ss dd x)=some v):∃v',VR R v v'/\∀w,(execOp a.eval ⟨dst, .convert ss dd x,tp,pos,af,g⟩).run E.P w= .ok (.value v') w:=by
 simp only [Ka]at h
 split at h
 . rename_i k n hx;obtain ⟨h1,h2⟩:=zq h;exact ⟨v,Qe R h2,fun w=>Yg (by rw [Wc (Ia ht hx)];exact Bl E.P _ v h1 w)⟩
 . rename_i hx;obtain ⟨v',hr,hd⟩:=vy hE (Ia ht hx) h;exact ⟨_,hd.vr R,fun w=>Yg (hr w)⟩
 . cases h
theorem QL{dst:Option Tmp}{tp:TypeId}{pos:String}{af:Array Edge}{g:Option (Nat×Bool)}{v:Value}{ty:TypeId}{x:Operand}(h:Ka E t (.sliceToArrayPointer ty x)=some v):∃v',VR R v v'/\∀w,(execOp a.eval ⟨dst, .sliceToArrayPointer ty x,tp,pos,af,g⟩).run E.P w= .ok (.value v') w:=by
 simp only [Ka]at h
 split at h
 . rename_i j b o sp m z hj hx;obtain ⟨ii,d,hT⟩:=hE.is hj
   split at h
   . rename_i n e ye
     split at h
     . rename_i h1 h2;cases h;rw [yd]at h1 h2;have h1:=of_decide_eq_true h1;have h2:=of_decide_eq_true h2;have:=hT.ar ye;subst this;obtain ⟨b',s,c',hb,hv,_,_⟩:=Qm (Ia ht hx) (by omega);refine ⟨_, .ptr b o b' s hb,fun w=>Yg ?_⟩;rw [hv];have hn:¬m<n:=by omega
       simp [Instr.arrayAt,Sa w hT.Sf,hn,Result.andThen]
     . cases h
   . cases h
 . cases h
theorem RL{dst:Option Tmp}{tp:TypeId}{pos:String}{af:Array Edge}{g:Option (Nat×Bool)}{v:Value}{ty:TypeId}{x:Operand}(h:Ka E t (.makeInterface ty x)=some v):∃v',VR R v v'/\∀w,(execOp a.eval ⟨dst, .makeInterface ty x,tp,pos,af,g⟩).run E.P w= .ok (.value v') w:=by
 simp only [Ka]at h
 split at h
 . rename_i j p hj hx;obtain ⟨ii,d,hT⟩:=hE.is hj
   split at h
   . cases h
   . rename_i hn;cases h;refine ⟨_, .Wu ty _ _ (Ia ht hx),fun w=>Yg ?_⟩;have:=hT.J6 hn;cases d<;>first|(exact absurd rfl (this _))|simp [Instr.makeInterface,Sa w hT.Sf,Result.andThen]
 . cases h
theorem RG{dst:Option Tmp}{tp:TypeId}{pos:String}{af:Array Edge}{g:Option (Nat×Bool)}{v:Value}{f:Fn}{fs cs:Array Operand}(h:Ka E t (.makeFunc f fs cs)=some v):∃v',VR R v v'/\∀w,(execOp a.eval ⟨dst, .makeFunc f fs cs,tp,pos,af,g⟩).run E.P w= .ok (.value v') w:=by
 simp only [Ka]at h
 split at h
 . rename_i ff
   split at h
   . rename_i l m h1 h2;cases h;have k1:=Hf ht h1;have k2:=Hf ht h2;refine ⟨_, .fn ff l (fs.toList.map a.eval) m (cs.toList.map a.eval) k1.1 k2.1 k1.2 k2.2,fun w=>Yg ?_⟩;simp [Instr.makeFunc];exact ⟨by rw [<-Array.toList_map],by rw [<-Array.toList_map]⟩
   . cases h
 . cases h
theorem wy{dst:Option Tmp}{tp:TypeId}{pos:String}{af:Array Edge}{g:Option (Nat×Bool)}{v:Value}{x:Operand}{i:Nat}(h:Ka E t (.extract x i)=some v):∃v',VR R v v'/\∀w,(execOp a.eval ⟨dst, .extract x i,tp,pos,af,g⟩).run E.P w= .ok (.value v') w:=by
 simp only [Ka]at h
 split at h
 . rename_i l hx;rw [Ec]at h;obtain ⟨l',hl,hv⟩:=I6 (Ia ht hx);obtain ⟨y,hy,hr⟩:=hl.get h;refine ⟨y,hr,fun w=>Yg ?_⟩;rw [hv];simp [Instr.extract,hy]
 . cases h
theorem SL{dst:Option Tmp}{tp:TypeId}{pos:String}{af:Array Edge}{g:Option (Nat×Bool)}{v:Value}{ty:TypeId}{x i:Operand}(h:Ka E t (.index ty x i)=some v):∃v',VR R v v'/\∀w,(execOp a.eval ⟨dst, .index ty x i,tp,pos,af,g⟩).run E.P w= .ok (.value v') w:=by
 simp only [Ka]at h
 split at h
 . rename_i j s k n hj hx hi;obtain ⟨ii,d,hT⟩:=hE.is hj
   split at h
   . rename_i b ye hb;cases h;rw [Ec]at hb;refine ⟨_, .flat _ rfl,fun w=>Yg ?_⟩;rw [Wc (Ia ht hi),mc (Ia ht hx) rfl];have:=hT.str ye;subst this;have kU:s[n]?=some b:=by
      have hn:n<s.data.size:=by have:=(List.getElem?_eq_some_iff.1 hb).1;simpa using this
      have Zp:s.data[n]=b:=by rw [List.getElem?_eq_getElem (by simpa using hn)]at hb;simpa using hb
      have hs:n<s.size:=hn;rw [getElem?_pos s n hs,<-Zp];rfl
     simp [Instr.index,asIntOf,Sa w hT.Sf,Result.andThen,kU]
   . cases h
 . cases h
theorem TL{dst:Option Tmp}{tp:TypeId}{pos:String}{af:Array Edge}{g:Option (Nat×Bool)}{v:Value}{c:Call}(h:Ka E t (.call c)=some v):∃v',VR R v v'/\∀w,(execOp a.eval ⟨dst, .call c,tp,pos,af,g⟩).run E.P w= .ok (.value v') w:=by
 simp only [Ka]at h;obtain ⟨ce,xs,ts⟩:=c;simp only at h
 split at h
 . rename_i x l ty hl hty;have MO:=Hf ht hl;obtain ⟨y,l',xy,lU,_⟩:=MO.Ea;rw [Ec]at hty;have Av:xs.map a.eval=⟨y::l'⟩:=by apply Array.ext';simpa using xy
   have SG:ts[0]?=some ty:=by simpa using hty
   unfold dX at h
   split at h
   . rename_i i hi;obtain ⟨ii,d,hT⟩:=hE.is hi;have key:∀(r:Value) (w:World),(Builtin.len_ ts tp (xs.map a.eval)).run E.P w= .ok r w->(execOp a.eval ⟨dst, .call ⟨.builtin .len,xs,ts⟩,tp,pos,af,g⟩).run E.P w= .ok (.value r) w:=fun r w hr=>by
      simp [execOp,resolve,invoke,builtin,Result.andThen,hr]
     split at h
     . rename_i e ad n z ye;cases h;have:=hT.sl ye;subst this;refine ⟨_, .flat _ rfl,fun w=>key _ w ?_⟩;have hy:∃iX z',y= .slice iX n z':=by cases lU<;>exact ⟨_,_,rfl⟩
       obtain ⟨iX,z',rfl⟩:=hy;rw [Av];simp [Builtin.len_,SG,Sa w hT.Sf,Result.andThen,goInt]
     . rename_i n e ye;cases h;have:=hT.ar ye;subst this;refine ⟨_, .flat _ rfl,fun w=>key _ w ?_⟩;rw [Av];simp [Builtin.len_,SG,Sa w hT.Sf,Result.andThen,goInt]
     . rename_i sx ye;cases h;have:=hT.str ye;subst this;refine ⟨_, .flat _ rfl,fun w=>key _ w ?_⟩;have:y= .string sx:=mc lU rfl
       subst this;rw [Av];simp [Builtin.len_,SG,Sa w hT.Sf,Result.andThen,goInt]
     . cases h
   . cases h
 . rename_i x l ty hl hty;have MO:=Hf ht hl;obtain ⟨y,l',xy,lU,_⟩:=MO.Ea;rw [Ec]at hty;have Av:xs.map a.eval=⟨y::l'⟩:=by apply Array.ext';simpa using xy
   have SG:ts[0]?=some ty:=by simpa using hty
   unfold eX at h
   split at h
   . rename_i i hi;obtain ⟨ii,d,hT⟩:=hE.is hi;have key:∀(r:Value) (w:World),(Builtin.cap_ ts tp (xs.map a.eval)).run E.P w= .ok r w->(execOp a.eval ⟨dst, .call ⟨.builtin .cap,xs,ts⟩,tp,pos,af,g⟩).run E.P w= .ok (.value r) w:=fun r w hr=>by
      simp [execOp,resolve,invoke,builtin,Result.andThen,hr]
     split at h
     . rename_i e ye;cases h;have:=hT.sl ye;subst this;refine ⟨_, .flat _ rfl,fun w=>key _ w ?_⟩;have:y= .slice none 0 0:=mc lU rfl
       subst this;rw [Av];simp [Builtin.cap_,SG,Sa w hT.Sf,Result.andThen,goInt]
     . rename_i e bb oo ye;have:=hT.sl ye;subst this;cases h;refine ⟨_, .flat _ rfl,fun w=>key _ w ?_⟩;have hy:∃iX n',y= .slice iX n' 0:=by cases lU with
        |flat v h=>simp [yc]at h
        |ly b o b' s n z c' h hz hc hn=>omega
        |ML a=>exact ⟨_,_,rfl⟩
       obtain ⟨iX,n',rfl⟩:=hy;rw [Av];simp [Builtin.cap_,SG,Sa w hT.Sf,Result.andThen,goInt]
     . rename_i e bb oo cc nn zz ye;cases h;have:=hT.sl ye;subst this;refine ⟨_, .flat _ rfl,fun w=>key _ w ?_⟩;have hy:∃iX n',y= .slice iX n' cc:=by cases lU with
        |flat v h=>simp [yc]at h
        |iO b o b' s n z c h hz hn=>exact ⟨_,_,rfl⟩
       obtain ⟨iX,n',rfl⟩:=hy;rw [Av];simp [Builtin.cap_,SG,Sa w hT.Sf,Result.andThen,goInt]
     . cases h
   . cases h
 . rename_i k m k' n hl;cases h;have MO:=Hf ht hl;obtain ⟨y,l',xy,lU,h2⟩:=MO.Ea;obtain ⟨y2,l2,rfl,N6,h3⟩:=h2.Ea;have:=h3.Fc;subst this;rw [Wc lU,Wc N6]at xy;have Av:xs.map a.eval=⟨[.int k m, .int k' n]⟩:=by apply Array.ext';simpa using xy
   refine ⟨_, .flat _ rfl,fun w=> ?_⟩;simp only [execOp,resolve,Av];simp [invoke,builtin,Result.andThen,Builtin.min_,Builtin.min2,lB];by_cases hc:m<=n
   . first|(simp [hc];done)|(simp [hc];exact fun hh=>absurd hh (by omega))
   . first|(simp [hc];done)|(simp [hc];exact fun hh=>absurd hh (by omega))
 . rename_i k m k' n hl;cases h;have MO:=Hf ht hl;obtain ⟨y,l',xy,lU,h2⟩:=MO.Ea;obtain ⟨y2,l2,rfl,N6,h3⟩:=h2.Ea;have:=h3.Fc;subst this;rw [Wc lU,Wc N6]at xy;have Av:xs.map a.eval=⟨[.int k m, .int k' n]⟩:=by apply Array.ext';simpa using xy
   refine ⟨_, .flat _ rfl,fun w=> ?_⟩;simp only [execOp,resolve,Av];simp [invoke,builtin,Result.andThen,Builtin.max_,Builtin.max2,lB];by_cases hc:n<=m
   . first|(simp [hc];done)|(simp [hc];exact fun hh=>absurd hh (by omega))
   . first|(simp [hc];done)|(simp [hc];exact fun hh=>absurd hh (by omega))
 . cases h
theorem CD(o:Oper)(hc:cls o.op= .still){v:Value}(h:Ka E t o.op=some v):∃v',VR R v v'/\∀w,(execOp a.eval o).run E.P w= .ok (.value v') w:=by
 obtain ⟨dst,op,tp,pos,af,g⟩:=o;cases op with
 |move x=>exact PG hE ht h
 |assign x=>exact rB hE ht h
 |pick c x y=>exact OG hE ht h
 |nilCheck x=>exact OL hE ht h
 |build ty ps=>exact AD hE ht h
 |field ty x i=>exact BD hE ht h
 |fieldAddr ty x i=>exact gu hE ht h
 |indexAddr ty x i=>exact zD hE ht h
 |binOp op ty x y yt=>exact PL hE ht h
 |unOp op ty x=>exact LO hE ht h
 |convert s d x=>exact QG hE ht h
 |sliceToArrayPointer ty x=>exact QL hE ht h
 |makeInterface ty x=>exact RL hE ht h
 |makeFunc f fs cs=>exact RG hE ht h
 |extract x i=>exact wy hE ht h
 |index ty x i=>exact SL hE ht h
 |call c=>exact TL hE ht h
 |_=>simp [cls]at hc
end
end Sk
end Go.Proofs.YtfnkmolffhfpoaaGreat
