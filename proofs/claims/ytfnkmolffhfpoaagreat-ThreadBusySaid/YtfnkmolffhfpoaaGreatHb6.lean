/- -/
import Derived.Test.YtfnkmolffhfpoaaGreatHb5
import Derived.Laws.CopyRow
set_option linter.unusedVariables false
set_option linter.unusedSimpArgs false
set_option linter.unusedSectionVars false
namespace Go.Proofs.YtfnkmolffhfpoaaGreat
namespace Sk
variable[Interp]
theorem xj{α:Type}(P:Program):∀(e:Sem α) (a:α),qd P e=some a->∀w,e.run P w= .ok a w
 | .pure a,b,h,w=>by simp [qd]at h;subst h;rfl
 | .program k,b,h,w=>by simp only [qd]at h;exact xj P (k P) b h w
 | .load ..,b,h,w=>by simp [qd]at h
 | .store ..,b,h,w=>by simp [qd]at h
 | .new ..,b,h,w=>by simp [qd]at h
 | .shape ..,b,h,w=>by simp [qd]at h
 | .freeze ..,b,h,w=>by simp [qd]at h
 | .frozen ..,b,h,w=>by simp [qd]at h
 | .getObj ..,b,h,w=>by simp [qd]at h
 | .setObj ..,b,h,w=>by simp [qd]at h
 | .choose ..,b,h,w=>by simp [qd]at h
 | .sys ..,b,h,w=>by simp [qd]at h
 | .mark ..,b,h,w=>by simp [qd]at h
 | .halt ..,b,h,w=>by simp [qd]at h
theorem Vn{x:Option Value}{v:Value}(h:UA x=some v):x=some v/\Sk.flat v=true:=by
 unfold UA at h
 split at h
 . split at h
   . cases h;exact ⟨rfl,‹_›⟩
   . cases h
 . cases h
theorem aI(op:BinOp)(k:IntKind)(a b:Int)(v:Value)(h:aQ op k a b=some v){P:Program}(ty:TypeId)(x y:Operand)(w:World):
  (do eqGuard op ty x y (.int k a) (.int k b);binOp op ty (.int k a) (.int k b):Sem Value).run P w= .ok v w:=by
 cases op<;>simp only [aQ]at h<;>first|(cases h;done)|skip
 all_goals
  cases h;simp [eqGuard,binOp,go_sem,Op.intArith,Op.intCmp,tk,ke,zy,oe]
 all_goals first|rfl|(rw [<-decide_not];congr 1;simp;done)|skip
theorem Jr{P:Program}{op:BinOp}{ty:TypeId}{x y:Operand}{a b v:Value}{R:Mp}{a' b':Value}(ha:VR R a a')(hb:VR R b b')(h:VH P op ty x y a b=some v)(w:World):
  (do eqGuard op ty x y a' b';binOp op ty a' b':Sem Value).run P w= .ok v w:=by
 unfold VH at h
 split at h
 . rename_i v0 h0;cases h
   split at h0
   . rename_i k m k' n
     split at h0
     . rename_i hk;have:=Nb hk;subst this;rw [wc ha,wc hb];exact aI op k m n v h0 ty x y w
     . cases h0
   . cases h0
 . split at h
   . rename_i h1
     split at h
     . rename_i h2;rw [Lm ha h1,Lm hb h2];exact xj P _ v (Vn h).1 w
     . cases h
   . cases h
theorem Hw{P:Program}{op:BinOp}{ty:TypeId}{x y:Operand}{a b v:Value}(h:VH P op ty x y a b=some v):Sk.flat v=true:=by
 unfold VH at h
 split at h
 . rename_i v0 h0;cases h
   split at h0
   . split at h0
     . unfold aQ at h0
       split at h0<;>first|(cases h0;rfl)|cases h0
     . cases h0
   . cases h0
 . split at h
   . split at h
     . exact (Vn h).2
     . cases h
   . cases h
theorem yj{R:Mp}(place:Nat->Option (Nat×Nat)):∀(ps TW:List (Nat×Value)) (c c':List Value) (r:List Value),ps.length=TW.length->
  (∀(i:Nat) (p q:Nat×Value),ps[i]?=some p->TW[i]?=some q->p.1=q.1/\VR R p.2 q.2)->LR R c c'->Cc place ps c=some r->∃r':List Value,LR R r r'/\Instr.fill place ⟨c'⟩ TW=some ⟨r'⟩
 |[],TW,c,c',r,hl,hp,hc,h=>by
  have:TW=[]:=by simpa using hl.symm
  subst this;simp [Cc]at h;subst h;exact ⟨c',hc,by simp [Instr.fill]⟩
 |p::ps,[],c,c',r,hl,hp,hc,h=>by simp at hl
 |p::ps,q::TW,c,c',r,hl,hp,hc,h=>by
  obtain ⟨h1,h2⟩:=hp 0 p q rfl rfl;obtain ⟨i,v⟩:=p;obtain ⟨j,u⟩:=q;simp only at h1 h2;subst h1;simp only [Cc]at h;cases tv:place i with
  |none=>rw [tv]at h;cases h
  |some os=>
   obtain ⟨o,s⟩:=os;rw [tv]at h;simp only [Ja,Pc]at h;by_cases hs:(Ca v).length=s
   . simp only [hs,decide_true]at h;cases TK:nk o c (Ca v)with
     |none=>rw [TK]at h;cases h
     |some c2=>
      rw [TK]at h;simp only at h;obtain ⟨hb,rfl⟩:=Vo _ _ _ _ TK;have Wn:=Ii h2;have hus:u.cells.size=s:=by rw [<-hs,Wn.1,Lc];simp
      have kK:LR R (c.take o++Ca v++c.drop (o+(Ca v).length)) (c'.take o++Ca u++c'.drop (o+(Ca u).length)):=by
       rw [Wn.1];exact LR.append (LR.append (hc.take o) Wn) (hc.drop _)
      have hlen:u.cells.toList.length=s:=by simpa using hus
      obtain ⟨r',h3,h4⟩:=yj place ps TW _ (c'.take o++Ca u++c'.drop (o+(Ca u).length)) r (by simpa using hl) (fun i p q a b=>hp (i+1) p q (by simpa using a) (by simpa using b)) kK h;refine ⟨r',h3, ?_⟩;have hf:(u.cells.zipIdx.foldl (fun cs (x:Value×Nat)=>cs.setIfInBounds (o+x.2) x.1) (⟨c'⟩:Array Value))=⟨c'.take o++Ca u++c'.drop (o+(Ca u).length)⟩:=by
       rw [Lc,<-Array.foldl_toList];have hz:u.cells.zipIdx.toList=u.cells.toList.zipIdx:=by simp
       rw [hz];have zP:o+u.cells.toList.length<=c'.length:=by rw [hlen,<-hs,<-hc.1];exact hb
       generalize u.cells.toList=us at zP;have key:∀(us:List Value) (k:Nat) (cs:List Value),o+k+us.length<=cs.length->
         (us.zipIdx k).foldl (fun(cs:Array Value) (x:Value×Nat)=>cs.setIfInBounds (o+x.2) x.1) ⟨cs⟩=⟨cs.take (o+k)++us++cs.drop (o+k+us.length)⟩:=by
        intro us
        induction us with
        |nil=>intro k cs _;simp
        |cons x us ih=>
         intro k cs hk;simp only [List.zipIdx_cons,List.foldl_cons];have hk:o+k+(us.length+1)<=cs.length:=by simpa using hk
         have e1:(⟨cs⟩:Array Value).setIfInBounds (o+k) x=⟨cs.set (o+k) x⟩:=by simp
         rw [e1,ih (k+1) (cs.set (o+k) x) (by simp;omega)];have e2:=list_seg_step cs (o+k) x us (by omega);have e3:o+(k+1)=o+k+1:=by omega
         rw [e3]
         simpa [Nat.add_assoc]using e2
       simpa using key us 0 c' (by simpa using zP)
      have Xg:¬(o+u.cells.size>(⟨c'⟩:Array Value).size):=by rw [hus,<-hs];simp only [List.size_toArray];rw [<-hc.1];omega
      simp only [Instr.fill,tv];rw [if_neg (by simp only [hus];simp;rw [hus]at Xg;simpa using Xg)];rw [hf];exact h4
   . simp only [hs,decide_false]at h;cases h
theorem Xo{R:Mp}{t:Tm}{a:Act}(ht:TR R t a.tmps):∀{ps:List (Nat×Operand)} {vs:List (Nat×Value)},wP t ps=some vs->
  vs.length=(ps.map fun p=>(p.1,a.eval p.2)).length/\∀(i:Nat) (p q:Nat×Value),vs[i]?=some p->(ps.map fun p=>(p.1,a.eval p.2))[i]?=some q->p.1=q.1/\VR R p.2 q.2
 |[],vs,h=>by simp [wP]at h;subst h;exact ⟨rfl,fun i p q a=>by simp at a⟩
 |p::ps,vs,h=>by
  simp only [wP]at h;cases h1:ev t p.2 with
  |none=>rw [h1]at h;cases h
  |some v=>
   cases h2:wP t ps with
   |none=>rw [h1,h2]at h;cases h
   |some l=>
    rw [h1,h2]at h;cases h;obtain ⟨k1,k2⟩:=Xo ht h2;refine ⟨by simpa using k1,fun i x y hx hy=> ?_⟩;cases i with
    |zero=>simp at hx hy;subst hx;subst hy;exact ⟨rfl,Aa ht h1⟩
    |succ i=>exact k2 i x y (by simpa using hx) (by simpa using hy)
theorem yg{P:Program}{e:Sem Value}{v:Value}{w w':World}(h:e.run P w= .ok v w'):(do pure (Next.value (<-e)):Sem Next).run P w= .ok (.value v) w':=by simp [go_sem,h]
section
variable{E:Env}(hE:Pb E){R:Mp}{t:Tm}{a:Act}(ht:TR R t a.tmps)
include hE ht
theorem xq{dst:Option Tmp}{ty:TypeId}{x:Operand}{i:Nat}{tp:TypeId}{pos:String}{af:Array Edge}{g:Option (Nat×Bool)}{v:Value}(h:Da E t (.fieldAddr ty x i)=some v):
  ∃v',VR R v v'/\∀w,(execOp a.eval ⟨dst, .fieldAddr ty x i,tp,pos,af,g⟩).run E.P w= .ok (.value v') w:=by
 simp only [Da]at h
 split at h
 . rename_i b o hx
   split at h
   . rename_i j hj;obtain ⟨ii,d,hT⟩:=hE.is hj
     split at h
     . rename_i fs gQ
       split at h
       . rename_i f hf;obtain ⟨F,rfl,rfl⟩:=hT.st gQ;obtain ⟨gf,hg,rfl⟩:=Gr hf;simp only at h
         split at h
         . cases h
         . rename_i n hn;cases h;obtain ⟨fi,hfi,gQ⟩:=Cy hn;obtain ⟨b',s,hb,hv⟩:=wg (Aa ht hx);refine ⟨_, .ptr b _ b' s hb,fun w=>yg ?_⟩;rw [hv];simp [Instr.fieldAt,go_sem,Qa w hT.Df,hg,hfi,gQ,Vc,fieldPlace]
       . cases h
     . cases h
   . cases h
 . cases h
omit ht in
theorem iB{ty:TypeId}{u u':Value}{k:IntKind}{j:Nat}{v:Value}(hu:VR R u u')(h:jy E ty u j=some v):
  ∃v',VR R v v'/\∀w,(Instr.indexAt ty u' (.int k (.ofNat j))).run E.P w= .ok v' w:=by
 unfold jy at h
 split at h
 . rename_i q hq;obtain ⟨ii,d,hT⟩:=hE.is hq
   split at h
   . rename_i e ad n z Zd
     split at h
     . rename_i Ab;rw [jd]at Ab;have Ab:j+1<=n:=of_decide_eq_true Ab
       split at h
       . rename_i ie Zj;cases h;obtain ⟨ei,ed,lg⟩:=hE.is Zj;have:=hT.sl Zd;subst this;obtain ⟨b',s,c',hb,rfl,_,_⟩:=Hi hu (by omega);refine ⟨_, .ptr _ _ b' s hb,fun w=> ?_⟩;have UW:(j:Int)<n:=by omega
         have hj0:(0:Int)<=j:=by omega
         simp [Instr.indexAt,go_sem,asIntOf,Qa w hT.Df,Vc w lg.info,lg.size,UW,hj0];exact fun hh=>absurd hh (by omega)
       . cases h
     . cases h
   . rename_i n e b o Zd
     split at h
     . rename_i Ab;rw [jd]at Ab;have Ab:j+1<=n:=of_decide_eq_true Ab
       split at h
       . rename_i ie Zj;cases h;obtain ⟨ei,ed,lg⟩:=hE.is Zj;have:=hT.ar Zd;subst this;obtain ⟨b',s,hb,rfl⟩:=wg hu;refine ⟨_, .ptr _ _ b' s hb,fun w=> ?_⟩;have UW:(j:Int)<n:=by omega
         have hj0:(0:Int)<=j:=by omega
         simp [Instr.indexAt,go_sem,asIntOf,Qa w hT.Df,Vc w lg.info,lg.size,UW,hj0,Instr.sureAddr];exact fun hh=>absurd hh (by omega)
       . cases h
     . cases h
   . cases h
 . cases h
theorem jB{dst:Option Tmp}{ty:TypeId}{x i:Operand}{tp:TypeId}{pos:String}{af:Array Edge}{g:Option (Nat×Bool)}{v:Value}(h:Da E t (.indexAddr ty x i)=some v):
  ∃v',VR R v v'/\∀w,(execOp a.eval ⟨dst, .indexAddr ty x i,tp,pos,af,g⟩).run E.P w= .ok (.value v') w:=by
 simp only [Da]at h
 split at h
 . rename_i k j hi;have e1:=wc (Aa ht hi)
   split at h
   . rename_i u hx;obtain ⟨v',h1,h2⟩:=iB hE (k:=k) (Aa ht hx) h;exact ⟨v',h1,fun w=>yg (by rw [e1];exact h2 w)⟩
   . cases h
 . cases h
theorem lB{dst:Option Tmp}{ty:TypeId}{ps:Array (Nat×Operand)}{tp:TypeId}{pos:String}{af:Array Edge}{g:Option (Nat×Bool)}{v:Value}(h:Da E t (.build ty ps)=some v):
  ∃v',VR R v v'/\∀w,(execOp a.eval ⟨dst, .build ty ps,tp,pos,af,g⟩).run E.P w= .ok (.value v') w:=by
 simp only [Da]at h
 split at h
 . rename_i i hi;obtain ⟨ii,d,hT⟩:=hE.is hi
   split at h
   . rename_i z vs hz UK;obtain ⟨Kh,qg⟩:=hT.zero hz;obtain ⟨hl,hp⟩:=Xo ht UK;have iQ:LR R (Ca z) z.cells.toList:=by rw [<-Lc];exact Ii (we R qg)
     have K3:(ps.map fun(i,x)=>(i,a.eval x)).toList=ps.toList.map fun p=>(p.1,a.eval p.2):=by simp
     split at h
     . rename_i fs gQ;obtain ⟨F,rfl,rfl,ug⟩:=hT.dT gQ;cases hf:Cc (fieldAt (fieldsOf E.P F)) vs (Ca z)with
       |none=>rw [hf]at h;simp [nr]at h
       |some r=>
        rw [hf]at h;simp only [nr]at h;cases h;obtain ⟨r',hr,Iw⟩:=yj (R:=R) _ _ _ _ _ _ hl hp iQ hf;refine ⟨.agg ⟨r'⟩,hr.agg,fun w=>yg ?_⟩;refine run_build w ty _ ⟨r'⟩ ?_
        unfold Program.built;rw [hT.info,hT.Df];have hm:F.toList.mapM (fun f=>(E.P.info? f.type).map fun i=>(f.offset,i.size))=some (F.toList.map fun f=>(f.offset,E.P.cellsOf f.type)):=by
         generalize F.toList=L at ug;clear hf gQ hT
         induction L with
         |nil=>simp
         |cons f L ih=>
          simp only [List.all_cons,Bool.and_eq_true]at ug;obtain ⟨j,hj⟩:=Option.isSome_iff_exists.1 ug.1
          simp only [List.mapM_cons,hj,ih ug.2];simp [Program.cellsOf,hj]
        simp only [Kh,hm];have tv:(fun i=>(F.toList.map fun f=>(f.offset,E.P.cellsOf f.type)).toArray[i]?)=fieldAt (fieldsOf E.P F):=by
         funext i
         unfold fieldAt fieldsOf;rw [Gc];simp only [List.getElem?_toArray,List.getElem?_map];cases F.toList[i]?<;>rfl
        rw [K3,tv];exact Iw
     . rename_i n e Zd;have:=hT.ar Zd;subst this
       split at h
       . rename_i ie Zj;obtain ⟨ei,ed,lg⟩:=hE.is Zj;cases hf:Cc (fun i=>some (Nat.mul i ie.size,ie.size)) vs (Ca z)with
         |none=>rw [hf]at h;simp [nr]at h
         |some r=>
          rw [hf]at h;simp only [nr]at h;cases h;obtain ⟨r',hr,Iw⟩:=yj (R:=R) _ _ _ _ _ _ hl hp iQ hf;refine ⟨.agg ⟨r'⟩,hr.agg,fun w=>yg ?_⟩;refine run_build w ty _ ⟨r'⟩ ?_
          unfold Program.built;rw [hT.info,hT.Df];simp only [Kh,lg.info];rw [K3,lg.size];exact Iw
       . cases h
     . cases h
   . cases h
 . cases h
theorem mB{dst:Option Tmp}{ty:TypeId}{x:Operand}{i:Nat}{tp:TypeId}{pos:String}{af:Array Edge}{g:Option (Nat×Bool)}{v:Value}(h:Da E t (.field ty x i)=some v):
  ∃v',VR R v v'/\∀w,(execOp a.eval ⟨dst, .field ty x i,tp,pos,af,g⟩).run E.P w= .ok (.value v') w:=by
 simp only [Da]at h
 split at h
 . rename_i j l hj hx;obtain ⟨ii,d,hT⟩:=hE.is hj
   split at h
   . rename_i fs gQ
     split at h
     . rename_i f hf;obtain ⟨F,rfl,rfl⟩:=hT.st gQ;obtain ⟨gf,hg,rfl⟩:=Gr hf;obtain ⟨l',hl,hv⟩:=wk (Aa ht hx);obtain ⟨v',h1,h2⟩:=MD hE hl h;refine ⟨v',h1,fun w=>yg ?_⟩;rw [hv];simp [Instr.field,Qa w hT.Df,hg,asAgg,Result.andThen];exact h2 w
     . cases h
   . cases h
 . cases h
theorem ND{dst:Option Tmp}{c x y:Operand}{tp:TypeId}{pos:String}{af:Array Edge}{g:Option (Nat×Bool)}{v:Value}(h:Da E t (.pick c x y)=some v):
  ∃v',VR R v v'/\∀w,(execOp a.eval ⟨dst, .pick c x y,tp,pos,af,g⟩).run E.P w= .ok (.value v') w:=by
 simp only [Da]at h
 split at h
 . rename_i hc;exact ⟨_,Aa ht h,fun w=>by simp only [execOp];rw [ll (Aa ht hc)];simp [asBool]⟩
 . rename_i hc;exact ⟨_,Aa ht h,fun w=>by simp only [execOp];rw [ll (Aa ht hc)];simp [asBool]⟩
 . cases h
theorem bI{dst:Option Tmp}{x:Operand}{tp:TypeId}{pos:String}{af:Array Edge}{g:Option (Nat×Bool)}{v:Value}(h:Da E t (.nilCheck x)=some v):
  ∃v',VR R v v'/\∀w,(execOp a.eval ⟨dst, .nilCheck x,tp,pos,af,g⟩).run E.P w= .ok (.value v') w:=by
 simp only [Da]at h
 split at h
 . rename_i u hx;have hu:=Aa ht hx
   split at h
   . cases h;obtain ⟨b,o,b',s,rfl,hb,hv⟩:=cG hu;exact ⟨_, .ptr b o b' s hb,fun w=>by simp only [execOp];rw [hv];simp⟩
   . cases h;refine ⟨a.eval x,hu,fun w=> ?_⟩;simp only [execOp];generalize a.eval x=q at hu;cases hu<;>simp
   . cases h;refine ⟨a.eval x,hu,fun w=> ?_⟩;simp only [execOp];generalize a.eval x=q at hu;cases hu<;>simp
   . cases h
 . cases h
theorem OD{dst:Option Tmp}{tp:TypeId}{pos:String}{af:Array Edge}{g:Option (Nat×Bool)}{v:Value}{x:Operand}(h:Da E t (.move x)=some v):∃v',VR R v v'/\∀w,(execOp a.eval ⟨dst, .move x,tp,pos,af,g⟩).run E.P w= .ok (.value v') w:=by
 simp only [Da]at h;exact ⟨_,Aa ht h,fun w=>by simp [execOp]⟩
theorem Hy{dst:Option Tmp}{tp:TypeId}{pos:String}{af:Array Edge}{g:Option (Nat×Bool)}{v:Value}{x:Operand}(h:Da E t (.assign x)=some v):∃v',VR R v v'/\∀w,(execOp a.eval ⟨dst, .assign x,tp,pos,af,g⟩).run E.P w= .ok (.value v') w:=by
 simp only [Da]at h;exact ⟨_,Aa ht h,fun w=>by simp [execOp]⟩
theorem cI{dst:Option Tmp}{tp:TypeId}{pos:String}{af:Array Edge}{g:Option (Nat×Bool)}{v:Value}{op:BinOp}{ty yt:TypeId}{x y:Operand}(h:Da E t (.binOp op ty x y yt)=some v):∃v',VR R v v'/\∀w,(execOp a.eval ⟨dst, .binOp op ty x y yt,tp,pos,af,g⟩).run E.P w= .ok (.value v') w:=by
 simp only [Da]at h
 split at h
 . rename_i u hx
   split at h
   . rename_i u2 hy
     split at h
     . rename_i v0 hs;cases h;obtain ⟨v',k,k',m,n,e1,e2,hb,hd⟩:=Un hE (Aa ht hx) (Aa ht hy) hs;exact ⟨v',hd.vr R,fun w=>yg (by rw [e1,e2];exact fB hb w)⟩
     . exact ⟨v,we R (Hw h),fun w=>yg (Jr (Aa ht hx) (Aa ht hy) h w)⟩
   . cases h
 . cases h
theorem VK{dst:Option Tmp}{tp:TypeId}{pos:String}{af:Array Edge}{g:Option (Nat×Bool)}{v:Value}{op:UnOp}{ty:TypeId}{x:Operand}(h:Da E t (.unOp op ty x)=some v):∃v',VR R v v'/\∀w,(execOp a.eval ⟨dst, .unOp op ty x,tp,pos,af,g⟩).run E.P w= .ok (.value v') w:=by
 simp only [Da]at h
 split at h
 . rename_i b hx
   split at h
   . cases h;refine ⟨_, .flat _ rfl,fun w=>yg ?_⟩;rw [ll (Aa ht hx),ke];simp [Op.unary]
   . cases h
 . rename_i k n hx;obtain ⟨h1,h2⟩:=Vn h;exact ⟨v,we R h2,fun w=>yg (by rw [wc (Aa ht hx)];exact xj E.P _ v h1 w)⟩
 . rename_i hx;obtain ⟨b,e,rfl,hd⟩:=gB hE (Aa ht hx) h;exact ⟨_,hd.vr R,fun w=>yg (by rw [e];simp [Op.unary])⟩
 . cases h
theorem PD{dst:Option Tmp}{tp:TypeId}{pos:String}{af:Array Edge}{g:Option (Nat×Bool)}{v:Value}{ss dd:TypeId}{x:Operand}(h:Da E t (.convert ss dd x)=some v):∃v',VR R v v'/\∀w,(execOp a.eval ⟨dst, .convert ss dd x,tp,pos,af,g⟩).run E.P w= .ok (.value v') w:=by
 simp only [Da]at h
 split at h
 . rename_i k n hx;obtain ⟨h1,h2⟩:=Vn h;exact ⟨v,we R h2,fun w=>yg (by rw [wc (Aa ht hx)];exact xj E.P _ v h1 w)⟩
 . rename_i hx;obtain ⟨v',hr,hd⟩:=rv hE (Aa ht hx) h;exact ⟨_,hd.vr R,fun w=>yg (hr w)⟩
 . cases h
theorem dI{dst:Option Tmp}{tp:TypeId}{pos:String}{af:Array Edge}{g:Option (Nat×Bool)}{v:Value}{ty:TypeId}{x:Operand}(h:Da E t (.sliceToArrayPointer ty x)=some v):∃v',VR R v v'/\∀w,(execOp a.eval ⟨dst, .sliceToArrayPointer ty x,tp,pos,af,g⟩).run E.P w= .ok (.value v') w:=by
 simp only [Da]at h
 split at h
 . rename_i j b o sp m z hj hx;obtain ⟨ii,d,hT⟩:=hE.is hj
   split at h
   . rename_i n e Zd
     split at h
     . rename_i h1 h2;cases h;rw [jd]at h1 h2;have h1:=of_decide_eq_true h1;have h2:=of_decide_eq_true h2;have:=hT.ar Zd;subst this;obtain ⟨b',s,c',hb,hv,_,_⟩:=Hi (Aa ht hx) (by omega);refine ⟨_, .ptr b o b' s hb,fun w=>yg ?_⟩;rw [hv];have hn:¬m<n:=by omega
       simp [Instr.arrayAt,Qa w hT.Df,hn,Result.andThen]
     . cases h
   . cases h
 . cases h
theorem eI{dst:Option Tmp}{tp:TypeId}{pos:String}{af:Array Edge}{g:Option (Nat×Bool)}{v:Value}{ty:TypeId}{x:Operand}(h:Da E t (.makeInterface ty x)=some v):∃v',VR R v v'/\∀w,(execOp a.eval ⟨dst, .makeInterface ty x,tp,pos,af,g⟩).run E.P w= .ok (.value v') w:=by
 simp only [Da]at h
 split at h
 . rename_i j p hj hx;obtain ⟨ii,d,hT⟩:=hE.is hj
   split at h
   . cases h
   . rename_i hn;cases h;refine ⟨_, .mv ty _ _ (Aa ht hx),fun w=>yg ?_⟩;have:=hT.SW hn;cases d<;>first|(exact absurd rfl (this _))|simp [Instr.makeInterface,Qa w hT.Df,Result.andThen]
 . cases h
theorem QD{dst:Option Tmp}{tp:TypeId}{pos:String}{af:Array Edge}{g:Option (Nat×Bool)}{v:Value}{f:Fn}{fs cs:Array Operand}(h:Da E t (.makeFunc f fs cs)=some v):∃v',VR R v v'/\∀w,(execOp a.eval ⟨dst, .makeFunc f fs cs,tp,pos,af,g⟩).run E.P w= .ok (.value v') w:=by
 simp only [Da]at h
 split at h
 . rename_i ff
   split at h
   . rename_i l m h1 h2;cases h;have k1:=We ht h1;have k2:=We ht h2;refine ⟨_, .fn ff l (fs.toList.map a.eval) m (cs.toList.map a.eval) k1.1 k2.1 k1.2 k2.2,fun w=>yg ?_⟩;simp [Instr.makeFunc];exact ⟨by rw [<-Array.toList_map],by rw [<-Array.toList_map]⟩
   . cases h
 . cases h
theorem uv{dst:Option Tmp}{tp:TypeId}{pos:String}{af:Array Edge}{g:Option (Nat×Bool)}{v:Value}{x:Operand}{i:Nat}(h:Da E t (.extract x i)=some v):∃v',VR R v v'/\∀w,(execOp a.eval ⟨dst, .extract x i,tp,pos,af,g⟩).run E.P w= .ok (.value v') w:=by
 simp only [Da]at h
 split at h
 . rename_i l hx;rw [Gc]at h;obtain ⟨l',hl,hv⟩:=RW (Aa ht hx);obtain ⟨y,hy,hr⟩:=hl.get h;refine ⟨y,hr,fun w=>yg ?_⟩;rw [hv];simp [Instr.extract,hy]
 . cases h
theorem gI{dst:Option Tmp}{tp:TypeId}{pos:String}{af:Array Edge}{g:Option (Nat×Bool)}{v:Value}{ty:TypeId}{x i:Operand}(h:Da E t (.index ty x i)=some v):∃v',VR R v v'/\∀w,(execOp a.eval ⟨dst, .index ty x i,tp,pos,af,g⟩).run E.P w= .ok (.value v') w:=by
 simp only [Da]at h
 split at h
 . rename_i j s k n hj hx hi;obtain ⟨ii,d,hT⟩:=hE.is hj
   split at h
   . rename_i b Zd hb;cases h;rw [Gc]at hb;refine ⟨_, .flat _ rfl,fun w=>yg ?_⟩;rw [wc (Aa ht hi),Yb (Aa ht hx) rfl];have:=hT.str Zd;subst this;have zP:s[n]?=some b:=by
      have hn:n<s.data.size:=by have:=(List.getElem?_eq_some_iff.1 hb).1;simpa using this
      have Ih:s.data[n]=b:=by rw [List.getElem?_eq_getElem (by simpa using hn)]at hb;simpa using hb
      have hs:n<s.size:=hn;rw [getElem?_pos s n hs,<-Ih];rfl
     simp [Instr.index,asIntOf,Qa w hT.Df,Result.andThen,zP]
   . cases h
 . cases h
theorem hI{dst:Option Tmp}{tp:TypeId}{pos:String}{af:Array Edge}{g:Option (Nat×Bool)}{v:Value}{c:Call}(h:Da E t (.call c)=some v):∃v',VR R v v'/\∀w,(execOp a.eval ⟨dst, .call c,tp,pos,af,g⟩).run E.P w= .ok (.value v') w:=by
 simp only [Da]at h;obtain ⟨ce,xs,ts⟩:=c;simp only at h
 split at h
 . rename_i x l ty hl M3;have WK:=We ht hl;obtain ⟨y,l',vv,AP,_⟩:=WK.qa;rw [Gc]at M3;have Kr:xs.map a.eval=⟨y::l'⟩:=by apply Array.ext';simpa using vv
   have RD:ts[0]?=some ty:=by simpa using M3
   unfold bT at h
   split at h
   . rename_i i hi;obtain ⟨ii,d,hT⟩:=hE.is hi;have key:∀(r:Value) (w:World),(Builtin.len_ ts tp (xs.map a.eval)).run E.P w= .ok r w->(execOp a.eval ⟨dst, .call ⟨.builtin .len,xs,ts⟩,tp,pos,af,g⟩).run E.P w= .ok (.value r) w:=fun r w hr=>by
      simp [execOp,resolve,invoke,builtin,Result.andThen,hr]
     split at h
     . rename_i e ad n z Zd;cases h;have:=hT.sl Zd;subst this;refine ⟨_, .flat _ rfl,fun w=>key _ w ?_⟩;have hy:∃iT z',y= .slice iT n z':=by cases AP<;>exact ⟨_,_,rfl⟩
       obtain ⟨iT,z',rfl⟩:=hy;rw [Kr];simp [Builtin.len_,RD,Qa w hT.Df,Result.andThen,goInt]
     . rename_i n e Zd;cases h;have:=hT.ar Zd;subst this;refine ⟨_, .flat _ rfl,fun w=>key _ w ?_⟩;rw [Kr];simp [Builtin.len_,RD,Qa w hT.Df,Result.andThen,goInt]
     . rename_i sx Zd;cases h;have:=hT.str Zd;subst this;refine ⟨_, .flat _ rfl,fun w=>key _ w ?_⟩;have:y= .string sx:=Yb AP rfl
       subst this;rw [Kr];simp [Builtin.len_,RD,Qa w hT.Df,Result.andThen,goInt]
     . cases h
   . cases h
 . rename_i x l ty hl M3;have WK:=We ht hl;obtain ⟨y,l',vv,AP,_⟩:=WK.qa;rw [Gc]at M3;have Kr:xs.map a.eval=⟨y::l'⟩:=by apply Array.ext';simpa using vv
   have RD:ts[0]?=some ty:=by simpa using M3
   unfold cT at h
   split at h
   . rename_i i hi;obtain ⟨ii,d,hT⟩:=hE.is hi;have key:∀(r:Value) (w:World),(Builtin.cap_ ts tp (xs.map a.eval)).run E.P w= .ok r w->(execOp a.eval ⟨dst, .call ⟨.builtin .cap,xs,ts⟩,tp,pos,af,g⟩).run E.P w= .ok (.value r) w:=fun r w hr=>by
      simp [execOp,resolve,invoke,builtin,Result.andThen,hr]
     split at h
     . rename_i e Zd;cases h;have:=hT.sl Zd;subst this;refine ⟨_, .flat _ rfl,fun w=>key _ w ?_⟩;have:y= .slice none 0 0:=Yb AP rfl
       subst this;rw [Kr];simp [Builtin.cap_,RD,Qa w hT.Df,Result.andThen,goInt]
     . rename_i e bb oo Zd;have:=hT.sl Zd;subst this;cases h;refine ⟨_, .flat _ rfl,fun w=>key _ w ?_⟩;have hy:∃iT n',y= .slice iT n' 0:=by cases AP with
        |flat v h=>simp [ic]at h
        |Fw b o b' s n z c' h hz hc hn=>omega
        |QK a=>exact ⟨_,_,rfl⟩
       obtain ⟨iT,n',rfl⟩:=hy;rw [Kr];simp [Builtin.cap_,RD,Qa w hT.Df,Result.andThen,goInt]
     . rename_i e bb oo cc nn zz Zd;cases h;have:=hT.sl Zd;subst this;refine ⟨_, .flat _ rfl,fun w=>key _ w ?_⟩;have hy:∃iT n',y= .slice iT n' cc:=by cases AP with
        |flat v h=>simp [ic]at h
        |xP b o b' s n z c h hz hn=>exact ⟨_,_,rfl⟩
       obtain ⟨iT,n',rfl⟩:=hy;rw [Kr];simp [Builtin.cap_,RD,Qa w hT.Df,Result.andThen,goInt]
     . cases h
   . cases h
 . rename_i k m k' n hl;cases h;have WK:=We ht hl;obtain ⟨y,l',vv,AP,h2⟩:=WK.qa;obtain ⟨y2,l2,rfl,VW,h3⟩:=h2.qa;have:=h3.uc;subst this;rw [wc AP,wc VW]at vv;have Kr:xs.map a.eval=⟨[.int k m, .int k' n]⟩:=by apply Array.ext';simpa using vv
   refine ⟨_, .flat _ rfl,fun w=> ?_⟩;simp only [execOp,resolve,Kr];simp [invoke,builtin,Result.andThen,Builtin.min_,Builtin.min2,zy];by_cases hc:m<=n
   . first|(simp [hc];done)|(simp [hc];exact fun hh=>absurd hh (by omega))
   . first|(simp [hc];done)|(simp [hc];exact fun hh=>absurd hh (by omega))
 . rename_i k m k' n hl;cases h;have WK:=We ht hl;obtain ⟨y,l',vv,AP,h2⟩:=WK.qa;obtain ⟨y2,l2,rfl,VW,h3⟩:=h2.qa;have:=h3.uc;subst this;rw [wc AP,wc VW]at vv;have Kr:xs.map a.eval=⟨[.int k m, .int k' n]⟩:=by apply Array.ext';simpa using vv
   refine ⟨_, .flat _ rfl,fun w=> ?_⟩;simp only [execOp,resolve,Kr];simp [invoke,builtin,Result.andThen,Builtin.max_,Builtin.max2,zy];by_cases hc:n<=m
   . first|(simp [hc];done)|(simp [hc];exact fun hh=>absurd hh (by omega))
   . first|(simp [hc];done)|(simp [hc];exact fun hh=>absurd hh (by omega))
 . cases h
theorem nB(o:Oper)(hc:cls o.op= .still){v:Value}(h:Da E t o.op=some v):∃v',VR R v v'/\∀w,(execOp a.eval o).run E.P w= .ok (.value v') w:=by
 obtain ⟨dst,op,tp,pos,af,g⟩:=o;cases op with
 |move x=>exact OD hE ht h
 |assign x=>exact Hy hE ht h
 |pick c x y=>exact ND hE ht h
 |nilCheck x=>exact bI hE ht h
 |build ty ps=>exact lB hE ht h
 |field ty x i=>exact mB hE ht h
 |fieldAddr ty x i=>exact xq hE ht h
 |indexAddr ty x i=>exact jB hE ht h
 |binOp op ty x y yt=>exact cI hE ht h
 |unOp op ty x=>exact VK hE ht h
 |convert s d x=>exact PD hE ht h
 |sliceToArrayPointer ty x=>exact dI hE ht h
 |makeInterface ty x=>exact eI hE ht h
 |makeFunc f fs cs=>exact QD hE ht h
 |extract x i=>exact uv hE ht h
 |index ty x i=>exact gI hE ht h
 |call c=>exact hI hE ht h
 |_=>simp [cls]at hc
end
end Sk
end Go.Proofs.YtfnkmolffhfpoaaGreat
