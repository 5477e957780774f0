/- -/
import Derived.Test.YtfnkmolffhfpoaaGreatHp5
import Derived.Laws.AppendOwn
import Derived.Lib.AppendZeros
import Derived.Lib.SliceRun
set_option linter.unusedVariables false
set_option linter.unusedSimpArgs false
set_option linter.unusedSectionVars false
namespace Go.Proofs.YtfnkmolffhfpoaaGreat
namespace Sk
open Go.RowKit
variable[Interp]
theorem eaf{R:Mp}{v v':Value}(h:VR R v v')(h1:TN v=true):v'.oneCell'=true:=by
 cases h with
 |flat v h=>cases v<;>simp_all [Mc,Value.oneCell']
 |agg=>simp [TN]at h1
 |kI=>simp [TN]at h1
 |sym t s l c v' hd=>rcases JK (by rw [<-Qf];exact hd)with⟨k,m,rfl⟩|⟨b,rfl⟩<;>rfl
 |_=>rfl
theorem BC{R:Mp}:∀{l l':List Value},LR R l l'->Lm l=true->∀v∈l',v.oneCell'=true
 |[],l',h,_,v,hv=>by rw [h.ic]at hv;cases hv
 |x::xs,l',h,h1,v,hv=>by
  obtain ⟨y,q,rfl,k1,k2⟩:=h.ya;simp only [Lm]at h1;cases hx:TN x with
  |false=>rw [hx]at h1;cases h1
  |true=>
   rw [hx]at h1;rcases List.mem_cons.1 hv with e|e
   . subst e;exact eaf k1 hx
   . exact BC k2 h1 v e
theorem Tt:∀(l m:List Value),Lm l=true->Lm m=true->Lm (l++m)=true
 |[],m,_,h=>h
 |x::xs,m,h,k=>by
  simp only [Lm]at h;cases hx:TN x with
  |false=>rw [hx]at h;cases h
  |true=>rw [hx]at h;simp only [List.cons_append,Lm,hx];exact Tt xs m h k
theorem cF{l:List Value}(h:Lm l=true):∀n,Lm (Oi l n)=true
 |0=>rfl
 |n+1=>Tt _ _ h (cF h n)
def zR(B:Nat->Prop)(w0:World)(R:Mp)(σ:AH)(r:Result Next)(v:Value)(σ':AH):Prop:=
 ∃R' v' w',Ext R σ R' σ'/\VR R' v v'/\Qc B w0 R' σ' w'/\(r= .ok (.value v') w'\/(r= .ok .skip w'/\v'=undef))
section
variable{E:Env}(hE:Yb E){B:Nat->Prop}{w0:World}{R:Mp}{σ:AH}{w:World}(hS:Qc B w0 R σ w)
include hE hS
theorem wj{b r s:Nat}(hb:R b=some (r,s)){c:Row}{e:TypeId}{full:Bool}(hg:σ.get b=some (.cells c e full)){p:Nat}{l l':List Value}(hl:LR R l l')(h1:Lm l=true)(Po:p+l.length<=c.n):
  ∃w',(storeCells ⟨r,p,none⟩ l').run E.P w= .ok () w'/\Qc B w0 R (σ.put b (some (.cells (c.di p l) e full))) w':=by
 obtain ⟨_,c',hc,hs,hn,hf,hv⟩:=hS.obj b r s _ hb hg;have hlen:=hl.1
 have QK:p+l'.length<=c'.size:=by omega
 have hr:=run_storeCells_at E.P r p e l' 0 c' w hc (by simpa using QK) (BC hl h1);simp only [Nat.add_zero]at hr;refine ⟨_,hr,hS.yR hb (by rw [hg];simp) ?_ (fun k hk=>setRow_other w r k _ hk) (setRow_size _ _ _) rfl rfl rfl⟩;refine ⟨(c'.toList.take p++l'++c'.toList.drop (p+l'.length)).toArray,setRow_heap w r c' _ e (0,0) hc, ?_, ?_, ?_,fun i v hi=> ?_⟩
 . simp;omega
 . rw [(Al l c p).1];exact hn
 . rw [(Al l c p).1];exact hf
 . rw [mC]at hi;by_cases Bg:p<=i/\i<p+l.length
   . rw [if_pos Bg]at hi;obtain ⟨y,hy,hr⟩:=hl.get hi;refine ⟨by rw [(Al l c p).1];omega,y, ?_,hr⟩;simp only [List.getElem?_toArray];rw [List.append_assoc,List.getElem?_append_right (by simp;omega),List.getElem?_append_left (by simp;omega)];have:i -(c'.toList.take p).length=i -p:=by simp;omega
     rw [this];exact hy
   . rw [if_neg Bg]at hi;obtain ⟨HaF,v',hv',hr⟩:=hv i v hi;refine ⟨by rw [(Al l c p).1];exact HaF,v', ?_,hr⟩;simp only [List.getElem?_toArray];by_cases hip:i<p
     . rw [List.append_assoc,List.getElem?_append_left (by simp;have:=(Array.getElem?_eq_some_iff.1 hv').1;omega),List.getElem?_take,if_pos hip]
       simpa using hv'
     . rw [List.getElem?_append_right (by simp;omega),List.getElem?_drop];have:p+l'.length+(i -(c'.toList.take p++l').length)=i:=by simp;omega
       rw [this]
       simpa using hv'
theorem dF{ty:TypeId}{i:Ti}(hi:E.ty ty=some i){u v u' v' x:Value}{σ':AH}(hu:VR R u u')(hv:VR R v v')(h:eC σ i.size u v=some (x,σ')):
  ∃w',(Instr.storeAt ty u' v').run E.P w= .ok () w'/\x=undef/\Ext R σ R σ'/\Qc B w0 R σ' w':=by
 obtain ⟨ii,d,hT⟩:=hE.is hi;unfold eC at h
 split at h
 . rename_i b p;obtain ⟨r,s,hb,rfl⟩:=ji hu
   split at h
   . rename_i c e full hg
     split at h
     . rename_i c1 c2;rw [Va,Dc]at c1;have c1:=of_decide_eq_true c1;have hl:=tk hv;have mj:v'.cells.size=ii.size:=by rw [hT.size,<-c1,hl.1,yd];simp
       have Iq:v'.cells.toList=Ra v':=(yd v').symm
       have h0:=sj _ _ _ _ _ h;rw [Ec]at h0;cases h0;rcases zq _ _ _ _ _ h with Po|Qz
       . obtain ⟨w',k1,k2⟩:=wj hE hS hb hg hl c2 Po;refine ⟨w', ?_,rfl,Ext.put R σ hb _,k2⟩;simp [Instr.storeAt,Instr.sureAddr,storeVar,Result.andThen,Hd w hT.info,mj,Iq,k1]
       . have Zaj:Ra v'=[]:=by rw [Qz]at hl;exact hl.ic
         refine ⟨w, ?_,rfl,Ext.put R σ hb _, ?_⟩
         . have DaP:ii.size=0:=by rw [hT.size,<-c1,Qz];rfl
           simp [Instr.storeAt,Instr.sureAddr,storeVar,Result.andThen,Hd w hT.info,mj,Iq,Zaj,storeCells]
         . rw [Qz];exact hS.yR hb (by rw [hg];simp) (hS.obj b r s _ hb hg).2 (fun _ _=>rfl) rfl rfl rfl rfl
     . cases h
   . cases h
 . cases h
theorem Ut{x x':Value}{z m:Nat}{l:List Value}(hx:VR R x x')(hn:∀ad k c,x= .slice ad k c->m<=k)(hm:0<m)(h:rowOf σ x z m=some l):
  ∃(l':List Value) (ad:Addr) (k c:Nat),x'= .slice (some ad) k c/\m<=k/\k<=c/\LR R l l'/\Lm l=true/\l'.length=m*z/\∀(j:Nat) (v:Value),l'[j]?=some v->w.cell? (ad.add j)=some v:=by
 unfold rowOf at h
 split at h
 . rename_i ad k c;have hmk:=hn _ _ _ rfl
   split at h
   . rename_i c0 e full hg
     split at h
     . rename_i q hf
       split at h
       . rename_i h1;cases h;obtain ⟨b',s,c',hb,rfl,h2,_⟩:=Um hx (by omega);obtain ⟨l',k1,k2,k3⟩:=rI hE hS hb hg hf;exact ⟨l',_,_,_,rfl,hmk,h2,k1,h1,k2,k3⟩
       . cases h
     . cases h
   . cases h
 . cases h
theorem xj{z n e:Nat}{i:TypeInfo}{zv:Value}{l l':List Value}(hl:LR R l l')(hz:1<=z)(hlen:l'.length=n*z)(CY:zv.cells.size=z)(cap:Nat)(tw:n<=cap)(w1:World)(hw:w1.heap=w.heap)(q1:w1.os=w.os)(q2:w1.tape=w.tape)(q3:w1.output=w.output)(cs:Array Value)
  (Cs:cs=l'.toArray++Builtin.zeroCells zv.cells (cap -n)):∃R' w',w'=w1.alloc (.cells cs e)/\Ext R σ R' (σ.new (.cells (Row.nil.app l) e false))/\VR R' (.slice (some ⟨σ.next,0,none⟩) n z) (.slice (some ⟨w.heap.size,0,none⟩) n cap)/\Qc B w0 R' (σ.new (.cells (Row.nil.app l) e false)) w':=by
 have mj:cs.size=cap*z:=by
  rw [Cs];simp only [Array.size_append,size_zeroCells,List.size_toArray,hlen,CY];rw [<-Nat.add_mul];congr 1;omega
 refine ⟨R.set σ.next (w.heap.size,cs.size),_,rfl,Ext.new hS _ _, .Fz _ 0 _ _ n z cap (Mp.Jd R _ _) hz (by rw [mj];omega) tw, ?_⟩;have:=(hS.world hw q1 q2 q3).new (x:= .cells (Row.nil.app l) e false) (o:= .cells cs e) (s:=cs.size) ?_
 . rw [hw]at this;exact this
 . refine ⟨cs,rfl,rfl, ?_,fun h=>by simp at h,fun j v hv=> ?_⟩
   . rw [(Re l Row.nil).1,hl.1,hlen,mj];simp [Row.nil];exact Nat.mul_le_mul_right z tw
   . rw [uj l Row.nil rfl]at hv
     split at hv
     . have hv:l[j]?=some v:=by simpa [Row.nil]using hv
       obtain ⟨y,hy,hr⟩:=hl.get hv;refine ⟨by rw [(Re l Row.nil).1];have:=(List.getElem?_eq_some_iff.1 hv).1;simp [Row.nil];omega,y, ?_,hr⟩;rw [Cs,Array.getElem?_append_left (by simpa using(List.getElem?_eq_some_iff.1 hy).1)]
       simpa using hy
     . simp [Row.nil,rj,Tr.get_nil]at hv
omit hE hS in
theorem fF(l m:List Value):∀r:Row,(r.app l).app m=r.app (l++m):=by
 induction l with
 |nil=>intro r;rfl
 |cons x l ih=>intro r;simp only [Row.app,List.cons_append];exact ih _
omit hE hS in
theorem Yo{P:Program}{w w':World}{t ty e:TypeId}{i:TypeInfo}(ht:P.underlying t=some (.slice e))(hi:P.info? e=some i)(g o gF AR:Nat)
  (a:Addr)(m c:Nat)(news:List Value)(hl:news.length=m*i.size)(BR:∀j u,news[j]?=some u->w.cell? (a.add j)=some u)(Xg:gF+m<=AR)
  (KA:(storeCells ⟨g,o+gF*i.size,none⟩ news).run P w= .ok () w'):
  (Builtin.append_ #[t,t] ty #[.slice (some ⟨g,o,none⟩) gF AR, .slice (some a) m c]).run P w= .ok (.slice (some ⟨g,o,none⟩) (gF+m) AR) w':=by
 have hf:=run_firstCells_some (P:=P) w i.size m a m c news hl BR;simp [Builtin.append_,eb w ht,Result.andThen,Hd w hi,Builtin.lenOf,Xg,hf,Wm,KA]
theorem CC{t ty e:TypeId}{i ie:Ti}(hi:E.ty t=some i)(Le:i.ds= .sl e)(Im:E.ty e=some ie){z:Nat}(hz:ie.size=z)(Mi:1<=z){zv:Value}(hzv:ie.zero=some zv)(CY:(Ra zv).length=z)(BY:ie.bytes<=65536)
  {sv CR v:Value}{new:List Value}{σ':AH}{n:Nat}(hn:0<n)(hn2:n<=65537){xv':Value}(hsv:VR R sv CR){l':List Value}{ad:Addr}{kx cx:Nat}(hx:xv'= .slice (some ad) kx cx)(hkx:kx=n)(hl:LR R new l')(h1:Lm new=true)(PK:l'.length=n*z)
  (hc:∀(j:Nat) (v:Value),l'[j]?=some v->w.cell? (ad.add j)=some v)(h:Tv E σ e z sv new n=some (v,σ')):
  ∃R' v' w',Ext R σ R' σ'/\VR R' v v'/\Qc B w0 R' σ' w'/\(Builtin.append_ #[t,t] ty #[CR,xv']).run E.P w= .ok v' w':=by
 obtain ⟨ii,d,hT⟩:=hE.is hi;obtain ⟨ei,ed,sh⟩:=hE.is Im;have:=hT.sl Le;subst this;obtain ⟨iF,DY⟩:=sh.zero hzv;have oO:ei.size=z:=by rw [sh.size,hz]
 have DR:ei.bytes<=65536:=by rw [sh.eq]at BY;exact BY
 have DC:zv.cells.size=z:=by rw [<-CY,yd];simp
 subst hx;subst hkx;have uI:l'.length=kx*ei.size:=by rw [oO];exact PK
 have none_:∀(b:Nat),BA σ e kx z new=some (v,σ')->(CR= .slice none 0 0\/∃a0,CR= .slice (some a0) 0 0)->∃R' v' w',Ext R σ R' σ'/\VR R' v v'/\Qc B w0 R' σ' w'/\(Builtin.append_ #[t,t] ty #[CR, .slice (some ad) kx cx]).run E.P w= .ok v' w':=fun _ h hs=>by
  unfold BA at h;rw [tj,vj]at h;cases h;have h48:kx*ei.bytes<=281474976710656:=by
   have:kx*ei.bytes<=65537*65536:=Nat.mul_le_mul hn2 DR;omega
  have tw:∀o,kx<=grownCap w kx o e:=fun o=>Nat.le_add_right kx _
  rcases hs with rfl|⟨a0,rfl⟩
  . have hr:=run_append_nil (P:=E.P) w t ty e ei zv hT.zg sh.info iF ad kx cx l' uI hc hn (by omega) h48;obtain ⟨R',w',k1,k2,k3,k4⟩:=xj hE hS (i:=ei) (e:=e) hl Mi PK DC (grownCap w kx 0 e) (tw 0) w.drew rfl rfl rfl rfl _ rfl;exact ⟨R',_,w',k2,k3,k4,by rw [hr,k1]⟩
  . have Po:Builtin.nextslicecap (0+kx) 0*ei.bytes<=281474976710656:=by rw [Nat.zero_add,nextslicecap_zero hn];exact h48
    have hr:=run_append_grow (P:=E.P) w t ty e ei zv hT.zg sh.info iF a0 0 0 [] (by simp) (fun j v hj=>by simp at hj) ad kx cx l' uI hc (by omega) (by omega) Po;simp only [Nat.zero_add]at hr;obtain ⟨R',w',k1,k2,k3,k4⟩:=xj hE hS (i:=ei) (e:=e) hl Mi PK DC (grownCap w kx 0 e) (tw 0) w.drew rfl rfl rfl rfl _ rfl;refine ⟨R',_,w',k2,k3,k4, ?_⟩;rw [hr,k1];simp
 have inPlace:∀(b o:Nat) (sp:Option Nat) (l0 b' s cap:Nat) (c:Row) (e':TypeId) (full:Bool),R b=some (b',s)->σ.get b=some (.cells c e' full)->CR= .slice (some ⟨b',o,none⟩) l0 cap->l0+kx<=cap->
   VR R (.slice (some ⟨b,o,sp⟩) (l0+kx) z) (.slice (some ⟨b',o,none⟩) (l0+kx) cap)->jo σ b o c e' full l0 kx z sp new=some (v,σ')->
   ∃R' v' w',Ext R σ R' σ'/\VR R' v v'/\Qc B w0 R' σ' w'/\(Builtin.append_ #[t,t] ty #[CR, .slice (some ad) kx cx]).run E.P w= .ok v' w':=fun b o sp l0 b' s cap c e' full hb hg hs Xg hvr h=>by
  unfold jo at h;have h0:=sj _ _ _ _ _ h;rw [Ec]at h0;cases h0;have Jc:new≠[]:=fun q=>by
   rw [q]at hl;have:=hl.ic;rw [this]at PK;have:=Nat.mul_pos hn Mi;simp at PK;omega
  rcases zq _ _ _ _ _ h with Po|Qz
  . obtain ⟨w',k1,k2⟩:=wj hE hS hb hg hl h1 Po;refine ⟨R,_,w',Ext.put R σ hb _,hvr,k2, ?_⟩;rw [hs];refine Yo hT.zg sh.info b' o l0 cap ad kx cx l' uI hc Xg ?_
    rw [oO];exact k1
  . exact absurd Qz Jc
 have grown:∀(b o:Nat) (l0 b' s cap:Nat) (c:Row) (e':TypeId) (full:Bool),R b=some (b',s)->σ.get b=some (.cells c e' full)->CR= .slice (some ⟨b',o,none⟩) l0 cap->cap<l0+kx->l0<=1000000->
   ∀old,c.from o (l0*z)=some old->
   ∃R' v' w',Ext R σ R' (σ.new (.cells (Row.nil.app (old++new)) e false))/\VR R' (.slice (some ⟨σ.next,0,none⟩) (l0+kx) z) v'/\Qc B w0 R' (σ.new (.cells (Row.nil.app (old++new)) e false)) w'/\(Builtin.append_ #[t,t] ty #[CR, .slice (some ad) kx cx]).run E.P w= .ok v' w':=fun b o l0 b' s cap c e' full hb hg hs Sr Xo old hold=>by
  obtain ⟨aak,o1,o2,o3⟩:=rI hE hS hb hg hold;have bak:l0+kx<=1065537:=by omega
  have Po:Builtin.nextslicecap (l0+kx) cap*ei.bytes<=281474976710656:=by
   have:=nextslicecap_le Sr;have:Builtin.nextslicecap (l0+kx) cap*ei.bytes<=(2*1065537)*65536:=Nat.mul_le_mul (by omega) DR;omega
  have hr:=run_append_grow (P:=E.P) w t ty e ei zv hT.zg sh.info iF ⟨b',o,none⟩ l0 cap aak (by rw [oO];exact o2) o3 ad kx cx l' uI hc Sr (by omega) Po;have hlen:(aak++l').length=(l0+kx)*z:=by rw [List.length_append,o2,PK,Nat.add_mul]
  obtain ⟨R',w',k1,k2,k3,k4⟩:=xj hE hS (i:=ei) (e:=e) (LR.append o1 hl) Mi hlen DC (grownCap w (l0+kx) cap e) (Nat.le_add_right _ _) w.drew rfl rfl rfl rfl _ rfl;refine ⟨R',_,w',k2,k3,k4, ?_⟩;rw [hs,hr,k1]
  congr 3
  apply Array.ext';simp
 have ER:∀(b o:Nat) (l0 b' s cap:Nat) (c:Row) (e':TypeId) (full:Bool),R b=some (b',s)->σ.get b=some (.cells c e' full)->CR= .slice (some ⟨b',o,none⟩) l0 cap->cap<l0+kx->l0<=1000000->Yu σ e o c l0 kx z new=some (v,σ')->
   ∃R' v' w',Ext R σ R' σ'/\VR R' v v'/\Qc B w0 R' σ' w'/\(Builtin.append_ #[t,t] ty #[CR, .slice (some ad) kx cx]).run E.P w= .ok v' w':=fun b o l0 b' s cap c e' full hb hg hs Sr Xo h=>by
  unfold Yu at h
  split at h
  . cases h
  . rename_i old hold;rw [tj,tj,fF,vj]at h;cases h;exact grown b o l0 b' s cap c e' full hb hg hs Sr Xo old hold
 unfold Tv at h
 split at h
 . exact none_ 0 h (.inl (Ic hsv rfl))
 . rename_i b o sp l0 zz
   split at h
   . split at h
     . cases hsv with
       |flat v h=>simp [Mc]at h
       |Fz b o b' s n z c' h hz hc hn=>omega
       |XN a0=>exact none_ 0 h (.inr ⟨a0,rfl⟩)
     . cases h
   . rename_i zz
     split at h
     . rename_i c e' full hg
       split at h
       . rename_i d1 d2;rw [Va]at d1;rw [xd]at d2;have d1:=of_decide_eq_true d1;have d2:=of_decide_eq_true d2;subst d1
         split at h
         . --a slice baN end is open
           cases hsv with
           |flat v h=>simp [Mc]at h
           |Fz b o b' s n z c' hb hz Cs hnc=>
            obtain ⟨_,c0,XX,hs0,yC,hf0,FR⟩:=hS.obj b b' s _ hb hg
            split at h
            . rename_i q;rw [xd]at q;have q:=of_decide_eq_true q;have q:o+(l0+kx)*(zz+1)<=c.n:=q;have Xg:l0+kx<=c':=by
               have:(l0+kx)*(zz+1)<=c'*(zz+1):=by
                have:=Cs;simp only [Nat.succ_eq_add_one]at this;omega
               exact Nat.le_of_mul_le_mul_right this (by omega)
              exact inPlace b o none l0 b' s c' c e' full hb hg rfl Xg (.Fz b o b' s (l0+kx) _ c' hb hz Cs Xg) h
            . split at h
              . cases h
              . rename_i q;rw [Va]at q;have q:=of_decide_eq_true q;have q:o+l0*(zz+1)=c.n:=q
                split at h
                . --nothing behind it
                  have hsn:c.n=s:=hf0 rfl;have Iq:c'=l0:=by
                   have:c'*(zz+1)=l0*(zz+1):=by
                    have:=Cs;simp only [Nat.succ_eq_add_one]at this;omega
                   exact Nat.eq_of_mul_eq_mul_right (by omega) this
                  exact ER b o l0 b' s c' c e' _ hb hg rfl (by omega) d2 h
                . split at h
                  . have qe:Nat.beq e e'=true:=by assumption
                    rw [Va]at qe;have qe:=of_decide_eq_true qe;subst qe
                    split at h
                    . cases h
                    . rename_i hcd;rw [tj,Ec,vj]at h;cases h;have haf:c'*(zz+1)=s:=by simpa using Cs
                      have hln:l0*(zz+1)=c.n:=by simpa using q
                      have cak:new.length=kx*(zz+1):=by rw [hl.1,PK]
                      by_cases Xg:l0+kx<=c'
                      . --in place:the waE new name
                        have Po:l0*(zz+1)+l'.length<=c0.size:=by
                         rw [PK,hs0,<-haf,<-Nat.add_mul];exact Nat.mul_le_mul_right _ Xg
                        have KA:=run_storeCells_at E.P b' (l0*(zz+1)) e l' 0 c0 w XX (by simpa using Po) (BC hl h1);simp only [Nat.add_zero]at KA;have caf:=Yo (P:=E.P) hT.zg sh.info (ty:=ty) b' 0 l0 c' ad kx cx l' uI hc Xg (w':=w.setRow b' (c0.toList.take (l0*(zz+1))++l'++c0.toList.drop (l0*(zz+1)+l'.length)).toArray) (by rw [Nat.zero_add,oO];exact KA);refine ⟨R.set σ.next (b',s),_,_, ?_, .Fz _ 0 b' s (l0+kx) _ c' (Mp.Jd R _ _) (by omega) (by simpa using haf) Xg, ?_,caf⟩
                        . have e1:=Ext.put R σ hb none;have e2:Ext R (σ.put b none) (R.set σ.next (b',s)) ((σ.put b none).new (.cells (c.app new) e false)):=Ext.new (hS.kill b) _ _;exact e1.trans e2
                        . have hSk:=hS.kill b;have Jc:b≠σ.next:=by have:=hS.tC b _ hb;omega
                          have hle:R.le (R.set σ.next (b',s)):=Mp.xC (hS.yo (Nat.le_refl _));have hB:B b':=(hS.obj b b' s _ hb hg).1
                          have KaF:b'<w.heap.size:=hS.lt b b' s hb;have qi:=setRow_heap w b' c0 (c0.toList.take (l0*(zz+1))++l'++c0.toList.drop (l0*(zz+1)+l'.length)).toArray e (0,0) XX
                          have GR:∀c2 s2,R c2=some (b',s2)->(σ.put b none).get c2=none:=fun c2 s2 e2=>by
                           rw [Bb];by_cases xR:c2=b
                           . rw [if_pos xR]
                           . rw [if_neg xR];rcases hS.inj c2 b b' s2 s e2 hb xR with k|k
                             . exact k
                             . rw [hg]at k;cases k
                          refine ⟨fun c2 y e2=> ?_,fun c2 r2 s2 e2=> ?_,fun c2 r2 s2 y e2 g2=> ?_,fun b1 b2 r2 s1 s2 e1 e2 Rz=> ?_, ?_,hS.base, ?_⟩
                          . by_cases QK:c2=σ.next
                            . subst QK;simp
                            . rw [Mp.Cf QK]at e2;have:=hS.tC c2 y e2;simp;omega
                          . rw [setRow_size];by_cases QK:c2=σ.next
                            . subst QK;rw [Mp.Jd]at e2;cases e2;exact KaF
                            . rw [Mp.Cf QK]at e2;exact hS.lt c2 r2 s2 e2
                          . rw [Zc]at g2;by_cases QK:c2=σ.next
                            . subst QK;rw [Mp.Jd]at e2;cases e2;simp at g2;subst g2;refine ⟨hB, ?_⟩;rw [qi];refine ⟨_,rfl, ?_, ?_,fun q=>(by cases q),fun j u hj=> ?_⟩
                              . simp;omega
                              . rw [(Re new c).1,cak,<-hln,<-haf,<-Nat.add_mul];exact Nat.mul_le_mul_right _ Xg
                              . rw [uj new c hcd]at hj;by_cases Bg:c.n<=j/\j<c.n+new.length
                                . rw [if_pos Bg]at hj;obtain ⟨y2,hy2,EC⟩:=hl.get hj;refine ⟨by rw [(Re new c).1];omega,y2, ?_,EC.mono hle⟩;simp only [List.getElem?_toArray];rw [List.append_assoc,List.getElem?_append_right (by simp;omega),List.getElem?_append_left (by simp;have:=hl.1;omega)];have:j -(c0.toList.take (l0*(zz+1))).length=j -c.n:=by simp;omega
                                  rw [this];exact hy2
                                . rw [if_neg Bg]at hj;obtain ⟨hjn,u',hu1,AY⟩:=FR j u hj;refine ⟨by rw [(Re new c).1];omega,u', ?_,AY.mono hle⟩;simp only [List.getElem?_toArray];rw [List.append_assoc,List.getElem?_append_left (by simp;omega),List.getElem?_take,if_pos (by omega)]
                                  simpa using hu1
                            . rw [Mp.Cf QK]at e2;rw [if_neg (by simpa using QK)]at g2;have EC:r2≠b':=fun q=>by subst q;rw [GR c2 s2 e2]at g2;cases g2
                              obtain ⟨k1,k2⟩:=hSk.obj c2 r2 s2 y e2 g2;exact ⟨k1,by rw [setRow_other w b' r2 _ EC];exact k2.mono hle⟩
                          . rw [Zc,Zc];by_cases Jm:b1=σ.next
                            . subst Jm;rw [Mp.Jd]at e1;cases e1;rw [Mp.Cf (Ne.symm Rz)]at e2;right;rw [if_neg (by simpa using Ne.symm Rz)];exact GR b2 s2 e2
                            . rw [Mp.Cf Jm]at e1;rw [if_neg (by simpa using Jm)];by_cases Uj:b2=σ.next
                              . subst Uj;rw [Mp.Jd]at e2;cases e2;left;exact GR b1 s1 e1
                              . rw [Mp.Cf Uj]at e2;rw [if_neg (by simpa using Uj)];exact hSk.inj b1 b2 r2 s1 s2 e1 e2 Rz
                          . exact ⟨hS.below.os,hS.below.tape,hS.below.output,by rw [setRow_size];exact hS.below.size,fun k hk ht=>by rw [setRow_other w b' k _ (fun e=>by subst e;exact ht hB)];exact hS.below.block k hk ht⟩
                          . obtain ⟨O,hO⟩:=hS.MK;refine ⟨O,fun c2 r2 s2 e i1 i2=> ?_⟩;rw [Zc]at i2;have QK:c2≠σ.next:=fun k=>by
                             subst k;rw [if_pos (by simp)]at i2;cases i2
                            rw [if_neg (by simpa using QK),Bb]at i2;have xR:c2≠b:=fun k=>by
                             subst k;rw [if_pos rfl]at i2;cases i2
                            rw [if_neg xR]at i2;rw [Mp.Cf QK]at i1;obtain ⟨⟨g,k1,k2⟩,k3,k4⟩:=hO c2 r2 s2 e i1 i2;have hr:¬O c2 b':=(k4 b b' s _ (Ne.symm xR) hb hg).1
                            refine ⟨⟨g,k1,Interp.gh_keep _ _ _ _ _ k2 (by rw [setRow_size];exact Nat.le_refl _) fun k hk=>setRow_other w b' k _ fun q=>by subst q;exact hr hk⟩,k3,fun b2 r3 s3 o2 Rz i3 i4=> ?_⟩;rw [Zc]at i4;by_cases YX:b2=σ.next
                            . subst YX;rw [Mp.Jd]at i3;cases i3;rw [if_pos (by simp)]at i4;cases i4;exact ⟨hr,fun e2 he=>by cases he⟩
                            . rw [if_neg (by simpa using YX),Bb]at i4;rw [Mp.Cf YX]at i3;by_cases YE:b2=b
                              . rw [if_pos YE]at i4;cases i4
                              . rw [if_neg YE]at i4;exact k4 b2 r3 s3 o2 Rz i3 i4
                      . --gaj;the old one is not looked at again
                        have bak:l0+kx<=1065537:=by omega
                        have Po:Builtin.nextslicecap (l0+kx) c'*ei.bytes<=281474976710656:=by
                         have:=nextslicecap_le (need:=l0+kx) (old:=c') (by omega);have:Builtin.nextslicecap (l0+kx) c'*ei.bytes<=(2*1065537)*65536:=Nat.mul_le_mul (by omega) DR;omega
                        have Q3:(c0.toList.take (l0*(zz+1))).length=l0*(zz+1):=by simp;omega
                        have hr:=run_append_grow (P:=E.P) w t ty e ei zv hT.zg sh.info iF ⟨b',0,none⟩ l0 c' (c0.toList.take (l0*(zz+1))) (by rw [oO];exact Q3) (fun j u hj=>by
                         rw [Wm,Nat.zero_add];rw [List.getElem?_take]at hj
                         split at hj
                         . simp [World.cell?,XX];simpa using hj
                         . cases hj) ad kx cx l' uI hc (by omega) (by omega) Po
                        obtain ⟨cap,tw⟩:∃cap,cap=grownCap w (l0+kx) c' e:=⟨_,rfl⟩;have S3:l0+kx<=cap:=by rw [tw];exact Nat.le_add_right _ _
                        rw [<-tw]at hr;obtain ⟨cs,EY⟩:∃cs,cs=(c0.toList.take (l0*(zz+1))).toArray++l'.toArray++Builtin.zeroCells zv.cells (cap -(l0+kx)):=⟨_,rfl⟩
                        rw [<-EY]at hr;have mj:cs.size=cap*(zz+1):=by
                         rw [EY];simp only [Array.size_append,size_zeroCells,List.size_toArray,Q3,PK,DC];rw [<-Nat.add_mul,<-Nat.add_mul];congr 1;omega
                        refine ⟨R.set σ.next (w.heap.size,cs.size),_,_, ?_, .Fz _ 0 _ _ (l0+kx) _ cap (Mp.Jd R _ _) (by omega) (by rw [mj];rfl) S3, ?_,hr⟩
                        . have e1:=Ext.put R σ hb none;have e2:Ext R (σ.put b none) (R.set σ.next (w.heap.size,cs.size)) ((σ.put b none).new (.cells (c.app new) e false)):=Ext.new (hS.kill b) _ _;exact e1.trans e2
                        . refine ((hS.kill b).world (w':=w.drew) rfl rfl rfl rfl).new (x:= .cells (c.app new) e false) (o:= .cells cs e) (s:=cs.size) ⟨cs,rfl,rfl, ?_,fun q=>(by cases q),fun j u hj=> ?_⟩
                          . rw [(Re new c).1,cak,<-hln,mj,<-Nat.add_mul];exact Nat.mul_le_mul_right _ S3
                          . rw [uj new c hcd]at hj;have RK:new.length=l'.length:=hl.1
                            by_cases Bg:c.n<=j/\j<c.n+new.length
                            . rw [if_pos Bg]at hj;obtain ⟨y2,hy2,EC⟩:=hl.get hj;refine ⟨by rw [(Re new c).1];omega,y2, ?_,EC⟩;rw [EY,Array.getElem?_append_left (by simp;omega),Array.getElem?_append_right (by simp;omega)];have:j -(c0.toList.take (l0*(zz+1))).toArray.size=j -c.n:=by simp;omega
                              rw [this];simpa using hy2
                            . rw [if_neg Bg]at hj;obtain ⟨hjn,u',hu1,AY⟩:=FR j u hj;refine ⟨by rw [(Re new c).1];omega,u', ?_,AY⟩;rw [EY,Array.getElem?_append_left (by simp;omega),Array.getElem?_append_left (by simp;omega)];simp only [List.getElem?_toArray];rw [List.getElem?_take,if_pos (by omega)]
                              simpa using hu1
                  . cases h
         . rename_i k;cases hsv with
           |flat v h=>simp [Mc]at h
           |MQ b o b' s n z cc hb hz hnc=>
            split at h
            . rename_i q;rw [xd]at q;have q:=of_decide_eq_true q;have q:l0+kx<=k:=q;exact inPlace b o (some (k+2)) l0 b' s k c e' full hb hg rfl q (.MQ b o b' s (l0+kx) _ k hb hz q) h
            . rename_i q;rw [xd]at q;have q:=of_decide_eq_false q;have q:¬(l0+kx<=k):=q;exact ER b o l0 b' s k c e' full hb hg rfl (by omega) d2 h
         . cases h
       . cases h
     . cases h
 . cases h
end
end Sk
end Go.Proofs.YtfnkmolffhfpoaaGreat
namespace Go.Proofs.YtfnkmolffhfpoaaGreat
namespace Sk
open Go.RowKit
variable[Interp]
section
variable{E:Env}(hE:Yb E){B:Nat->Prop}{w0:World}{R:Mp}{σ:AH}{w:World}(hS:Qc B w0 R σ w)
include hE hS
omit hE hS in
theorem vI{ts:List TypeId}{p:TypeId×Ti}(h:dI E ts=some p):∃t r i,ts=t::r/\E.ty t=some i/\i.ds= .sl p.1/\E.ty p.1=some p.2:=by
 unfold dI at h
 split at h
 . rename_i t r
   split at h
   . rename_i i hi
     split at h
     . rename_i e Le
       split at h
       . rename_i ie Im;cases h;exact ⟨t,r,i,rfl,hi,Le,Im⟩
       . cases h
     . cases h
   . cases h
 . cases h
omit hE hS in
theorem Lu{P:Program}{w:World}{t ty e:TypeId}{i:TypeInfo}(ht:P.underlying t=some (.slice e))(hi:P.info? e=some i)(base a:Option Addr)(l c cx:Nat)(hlc:l<=c):
  (Builtin.append_ #[t,t] ty #[.slice base l c, .slice a 0 cx]).run P w= .ok (.slice base l c) w:=by
 have hl:∀(x:Addr),(loadCells x 0).run P w= .ok #[] w:=fun x=>by simpa using run_loadCells_list (P:=P) w x [] (by simp)
 cases base<;>cases a<;>simp [Builtin.append_,eb w ht,Result.andThen,Hd w hi,Builtin.lenOf,hlc,Builtin.firstCells,hl,storeCells]
theorem pO{ty:TypeId}{ts:Array TypeId}{s x s' x' v:Value}{σ':AH}(hs:VR R s s')(hx:VR R x x')(h:iR E σ ts.toList s x=some (v,σ')):
  ∃R' v' w',Ext R σ R' σ'/\VR R' v v'/\Qc B w0 R' σ' w'/\(Builtin.append_ ts ty #[s',x']).run E.P w= .ok v' w':=by
 unfold iR at h
 split at h
 . rename_i t t' wY;have NaF:ts=#[t,t']:=by apply Array.ext';simpa using wY
   subst NaF
   split at h
   . rename_i p hp;obtain ⟨t0,r0,i,PQ,hi,Le,Im⟩:=vI hp;cases PQ;obtain ⟨e,ie⟩:=p;simp only at Le Im h;obtain ⟨ii,d,hT⟩:=hE.is hi;obtain ⟨ei,ed,sh⟩:=hE.is Im;have hd:=hT.sl Le;subst hd
     split at h
     . rename_i z zv hz hzv
       split at h
       . rename_i c1 c2;rw [Va,Dc]at c1;rw [xd]at c2;have c1:=of_decide_eq_true c1;have c2:=of_decide_eq_true c2
         split at h
         . rename_i htt;rw [Va]at htt;have htt:=of_decide_eq_true htt;subst htt
           split at h
           . rename_i xa n xc
             split at h
             . split at h
               . rename_i sa sl sc;cases h;have e2:∃a c,x'= .slice a 0 c:=by cases hx<;>exact ⟨_,_,rfl⟩
                 obtain ⟨a,cx,rfl⟩:=e2;have e1:∃a c,s'= .slice a sl c/\sl<=c:=by
                  cases hs with
                  |flat v h=>exact ⟨sa,sc,rfl,by cases sa<;>cases sl<;>cases sc<;>simp_all [Mc]⟩
                  |Fz b o b' s n z c' h hz hc hn=>exact ⟨_,_,rfl,hn⟩
                  |MQ b o b' s n z c h hz hn=>exact ⟨_,_,rfl,hn⟩
                  |dI a c'=>exact ⟨_,_,rfl,Nat.zero_le _⟩
                  |XN a=>exact ⟨_,_,rfl,Nat.le_refl _⟩
                 obtain ⟨a1,c0,rfl,hle⟩:=e1;exact ⟨R,_,w,Ext.refl R σ,hs,hS,Lu hT.zg sh.info a1 a sl c0 cx hle⟩
               . cases h
             . rename_i n
               split at h
               . rename_i l qi hn;rw [xd]at hn;have hn:=of_decide_eq_true hn;obtain ⟨l',ad,k,c,rfl,q1,q2,q3,q4,q5,q6⟩:=Ut hE hS hx (fun ad k c e=>by cases e;exact Nat.le_refl _) (Nat.succ_pos n) qi;have hk:k=n+1:=by
                  cases hx with
                  |flat v h=>simp [Mc]at h
                  |Fz b o b' s n z c' h hz hc hn=>rfl
                  |MQ b o b' s n z c h hz hn=>rfl
                 exact CC hE hS hi Le Im hz (by omega) hzv c1 c2 (Nat.succ_pos n) (by omega) hs rfl hk q3 q4 q5 q6 h
               . cases h
           . cases h
         . rename_i htt
           split at h
           . rename_i i' hi';obtain ⟨ii',d',hT'⟩:=hE.is hi'
             split at h
             . rename_i kx n OQ;obtain ⟨kk,rfl⟩:∃kk,_=TypeDesc.int kk:=⟨_,hT'.it OQ⟩
               split at h
               . rename_i hn;rw [xd]at hn;have hn:=of_decide_eq_true hn;obtain ⟨iF,DY⟩:=sh.zero hzv;have:=Ic hs rfl;subst this;have:=qc hx;subst this;have DC:zv.cells.size=z+1:=by rw [<-c1,yd];simp
                 have oO:ei.size=z+1:=by rw [sh.size,hz]
                 have DR:ei.bytes<=65536:=by rw [sh.eq]at c2;exact c2
                 have h48:(n+1)*ei.bytes<=281474976710656:=by
                  have:(n+1)*ei.bytes<=65537*65536:=Nat.mul_le_mul (by omega) DR;omega
                 have hr:=Lib.run_append_nil_zeros (P:=E.P) w t t' ty e ei zv kx kk hT.zg hT'.zg sh.info iF (n+1) (by omega) (by omega) (by omega) h48;unfold BA at h;rw [tj,vj]at h;cases h;have hlen:(Oi (Ra zv) (n+1)).length=(n+1)*(z+1):=by rw [(Il _ _).1,c1]
                 have hzz:(Builtin.zeroCells zv.cells (n+1))=(Oi (Ra zv) (n+1)).toArray:=by
                  apply Array.ext';have:=Kh (n:=n+1) c1;rw [<-this];simp [Builtin.zeroCells,DC]
                 rw [hzz]at hr;obtain ⟨R',w',k1,k2,k3,k4⟩:=xj hE hS (i:=ei) (e:=e) (wk (R:=R) DY (n+1)) (by omega) hlen DC (grownCap w (n+1) 0 e) (Nat.le_add_right _ _) w.drew rfl rfl rfl rfl _ rfl;refine ⟨R',_,w',k2,k3,k4, ?_⟩;rw [k1];exact hr
               . cases h
             . cases h
           . cases h
       . cases h
     . cases h
   . cases h
 . cases h
omit hS in
theorem FC{ty t e:TypeId}{ts:Array TypeId}{ei:TypeInfo}(h0:ts[0]?=some t)(ht:E.P.underlying t=some (.slice e))(hi:E.P.info? e=some ei)(d:Addr)(dn dc:Nat)(a:Addr)(sn sc:Nat)(cs:List Value)(hl:cs.length=Nat.min sn dn*ei.size)
  (hc:∀(j:Nat) (v:Value),cs[j]?=some v->w.cell? (a.add j)=some v){w':World}(KA:(storeCells d cs).run E.P w= .ok () w'):
  (Builtin.copy_ ts ty #[.slice (some d) dn dc, .slice (some a) sn sc]).run E.P w= .ok (.int .i64 (Nat.min sn dn:Nat)) w':=by
 have hf:=run_firstCells_some (P:=E.P) w ei.size (Nat.min sn dn) a sn sc cs hl hc;simp [Builtin.copy_,h0,eb w ht,Result.andThen,Hd w hi,Builtin.lenOf,hf,KA,goInt]
theorem wI{ty:TypeId}{ts:Array TypeId}{d s d' s' v:Value}{σ':AH}(hd:VR R d d')(hs:VR R s s')(h:eI E σ ts.toList d s=some (v,σ')):
  ∃R' v' w',Ext R σ R' σ'/\VR R' v v'/\Qc B w0 R' σ' w'/\(Builtin.copy_ ts ty #[d',s']).run E.P w= .ok v' w':=by
 unfold eI at h
 split at h
 . rename_i p da dn dz sa sn sz hp;obtain ⟨t0,r0,i,PQ,hi,Le,Im⟩:=vI hp;obtain ⟨e,ie⟩:=p;simp only at Le Im h;obtain ⟨ii,dd,hT⟩:=hE.is hi;obtain ⟨ei,ed,sh⟩:=hE.is Im;have hdd:=hT.sl Le;subst hdd;have h0:ts[0]?=some t0:=by
    have:=congrArg (fun l=>l[0]?) PQ
    simpa using this
   have e1:∃a c,d'= .slice a dn c:=by cases hd<;>exact ⟨_,_,rfl⟩
   have e2:∃a c,s'= .slice a sn c:=by cases hs<;>exact ⟨_,_,rfl⟩
   split at h
   . rename_i Sz;cases h;obtain ⟨a1,c1,rfl⟩:=e1;obtain ⟨a2,c2,rfl⟩:=e2;refine ⟨R,_,w,Ext.refl R σ, .flat _ rfl,hS, ?_⟩;have hl:∀(x:Addr),(loadCells x 0).run E.P w= .ok #[] w:=fun x=>by simpa using run_loadCells_list (P:=E.P) w x [] (by simp)
     have Sz:Nat.min sn dn=0:=Sz;cases a1<;>cases a2<;>simp [Builtin.copy_,h0,eb w hT.zg,Result.andThen,Hd w sh.info,Builtin.lenOf,Sz,Builtin.firstCells,hl,storeCells,goInt]
   . rename_i n Sz;have Sz:Nat.min sn dn=n+1:=Sz
     split at h
     . rename_i l a qi
       split at h
       . rename_i c e' full z hg hz;obtain ⟨l',ad,k,cx,rfl,q1,q2,q3,q4,q5,q6⟩:=Ut hE hS hs (fun ad k c e=>by cases e;have:=Nat.min_le_left sn dn;have:min sn dn=n+1:=Sz;omega) (Nat.succ_pos n) qi;obtain ⟨a2,c2,e2⟩:=e2;cases e2;have T3:0<dn:=by have:min sn dn=n+1:=Sz;have:=Nat.min_le_right sn dn;omega
         obtain ⟨b',s0,c',hb,rfl,JR,NQ⟩:=Um hd T3;have h2:=sj _ _ _ _ _ h;rw [Ec]at h2;cases h2;rcases zq _ _ _ _ _ h with Po|Qz
         . obtain ⟨w',k1,k2⟩:=wj hE hS hb hg q3 q4 Po;refine ⟨R,_,w',Ext.put R σ hb _, .flat _ rfl,k2, ?_⟩;have mj:ei.size=z+1:=by rw [sh.size,hz]
           have:=FC hE (ty:=ty) h0 hT.zg sh.info ⟨b',a.off,none⟩ dn c' ad sn cx l' (by rw [Sz,mj];rw [q5,hz]) q6 k1;rw [Sz]at this;exact this
         . rw [Qz]at q3;have:=q3.ic;rw [this,hz]at q5;have:=Nat.mul_pos (Nat.succ_pos n) (Nat.succ_pos z);simp at q5
       . cases h
     . cases h
 . cases h
theorem jF{ty:TypeId}{ts:Array TypeId}{d d' v:Value}{σ':AH}(hd:VR R d d')(h:fC E σ ts.toList d=some (v,σ')):
  ∃R' v' w',Ext R σ R' σ'/\VR R' v v'/\Qc B w0 R' σ' w'/\(Builtin.clear_ ts ty #[d']).run E.P w= .ok v' w':=by
 unfold fC at h
 split at h
 . rename_i p a n dz hp;obtain ⟨t0,r0,i,PQ,hi,Le,Im⟩:=vI hp;obtain ⟨e,ie⟩:=p;simp only at Le Im h;obtain ⟨ii,dd,hT⟩:=hE.is hi;obtain ⟨ei,ed,sh⟩:=hE.is Im;have hdd:=hT.sl Le;subst hdd;have h0:ts[0]?=some t0:=by
    have:=congrArg (fun l=>l[0]?) PQ
    simpa using this
   split at h
   . rename_i zv c e' full hzv hg
     split at h
     . rename_i z c1 c2 hz;rw [Va,Dc,hz]at c1;have c1:=of_decide_eq_true c1;obtain ⟨iF,DY⟩:=sh.zero hzv;obtain ⟨b',s0,c',hb,rfl,JR,NQ⟩:=Um hd (Nat.succ_pos n);have h2:=sj _ _ _ _ _ h;rw [Ec]at h2;cases h2;have DC:zv.cells.size=z+1:=by rw [yd]at c1;simpa using c1
       have hzz:(Builtin.zeroCells zv.cells (n+1)).toList=Oi (Ra zv) (n+1):=by
        have:=Kh (n:=n+1) c1;rw [<-this];simp [Builtin.zeroCells,DC]
       rcases zq _ _ _ _ _ h with Po|Qz
       . obtain ⟨w',k1,k2⟩:=wj hE hS hb hg (wk (R:=R) DY (n+1)) (cF c2 _) Po;refine ⟨R,undef,w',Ext.put R σ hb _,Ge R,k2, ?_⟩;simp [Builtin.clear_,h0,eb w hT.zg,Result.andThen,Bq w sh.info iF,hzz,k1,undef]
       . have:=congrArg List.length Qz;rw [(Il _ _).1,c1]at this;have:=Nat.mul_pos (Nat.succ_pos n) (Nat.succ_pos z);simp at*
     . cases h
   . cases h
 . cases h
end
end Sk
end Go.Proofs.YtfnkmolffhfpoaaGreat
namespace Go.Proofs.YtfnkmolffhfpoaaGreat
namespace Sk
open Go.RowKit
variable[Interp]
theorem LA{R:Mp}{k v:Value}{kd:IntKind}:∀(es:List (Value×Value)) (Gl:List MapEntry) (r:List (Value×Value)),es.length=Gl.length->
  (∀(i:Nat) (p:Value×Value) (e:MapEntry),es[i]?=some p->Gl[i]?=some e->VR R p.1 e.key/\VR R p.2 e.val)->jR k v es=some r->∀i:Nat,
  (Instr.findNow (.int kd) k Gl i=some none/\r=es++[(k,v)])\/
  ∃j e,Instr.findNow (.int kd) k Gl i=some (some (i+j,e.val))/\Gl[j]?=some e/\e.key=k/\r=es.set j (k,v)/\∃q n,k= .int q n
 |[],Gl,r,hl,hp,h,i=>by
  have:Gl=[]:=by simpa using hl.symm
  subst this;simp [jR]at h;subst h;exact .inl ⟨by simp [Instr.findNow],rfl⟩
 |p::es,[],r,hl,hp,h,i=>by simp at hl
 |p::es,e::Gl,r,hl,hp,h,i=>by
  obtain ⟨h1,h2⟩:=hp 0 p e rfl rfl;simp only [jR]at h
  split at h
  . rename_i hs;cases h;obtain ⟨q,n,m,rfl,he,hb⟩:=Hl hs;rw [he]at h1;have hk:=qc h1;have NK:n=m:=of_decide_eq_true hb.symm;subst NK;exact .inr ⟨0,e,by simp [Instr.findNow,hk,Instr.sameNow],rfl,hk,rfl,q,n,rfl⟩
  . rename_i hs;obtain ⟨q,n,m,rfl,he,hb⟩:=Hl hs;rw [he]at h1;have hk:=qc h1;have NK:¬n=m:=of_decide_eq_false hb.symm;have e2:Instr.findNow (.int kd) (.int q n) (e::Gl) i=Instr.findNow (.int kd) (.int q n) Gl (i+1):=by
     have:(n==m)=false:=by simpa using NK
     simp [Instr.findNow,hk,Instr.sameNow,this]
    split at h
    . rename_i r2 EC;cases h;rcases LA (kd:=kd) es Gl r2 (by simpa using hl) (fun i p e a b=>hp (i+1) p e (by simpa using a) (by simpa using b)) EC (i+1)with⟨k1,k2⟩|⟨j,ee,k1,k2,k3,k4,k5⟩
      . exact .inl ⟨by rw [e2];exact k1,by rw [k2];rfl⟩
      . exact .inr ⟨j+1,ee,by rw [e2,k1];congr 3;omega,by simpa using k2,k3,by rw [k4];rfl,k5⟩
    . cases h
  . cases h
section
variable{E:Env}(hE:Yb E){B:Nat->Prop}{w0:World}{R:Mp}{σ:AH}{w:World}(hS:Qc B w0 R σ w)
include hE hS
theorem MA{ty:TypeId}{m k v m' k' v' x:Value}{σ':AH}(hm:VR R m m')(hk:VR R k k')(hv:VR R v v')(h:kR E σ ty m k v=some (x,σ')):
  ∃w',(Instr.mapUpdate ty m' k' v').run E.P w= .ok () w'/\x=undef/\Ext R σ R σ'/\Qc B w0 R σ' w':=by
 unfold kR at h
 split at h
 . rename_i i r hi;obtain ⟨ii,d,hT⟩:=hE.is hi
   split at h
   . rename_i kt et es Le hik hg;have:=hT.mp Le;subst this
     split at h
     . rename_i ik hkt;obtain ⟨ki,kd,yY⟩:=hE.is hkt
       split at h
       . rename_i OQ;obtain ⟨kk,rfl⟩:∃kk,_=TypeDesc.int kk:=⟨_,yY.it OQ⟩;have M3:∃q n,k= .int q n:=by cases k<;>simp [isI]at hik;exact ⟨_,_,rfl⟩
         obtain ⟨q,n,rfl⟩:=M3;have:=qc hk;subst this;have hr:∃r' s,m'= .map (some r')/\R r=some (r',s):=by
          cases hm with
          |flat v h=>simp [Mc]at h
          |map r r' s h=>exact ⟨r',s,rfl,h⟩
         obtain ⟨r',s,rfl,hr⟩:=hr;obtain ⟨_,Gl,cl,h1,h2,h3⟩:=hS.obj r r' s _ hr hg;rw [Li,jk]at h
         split at h
         . rename_i es2 hes;rw [Ec]at h;cases h;have jg:=aF (P:=E.P) (w:=w) (q:=q) (n:=n) yY.zg false 9999;have Vj:(getObj r').run E.P w= .ok (.map Gl cl) w:=by simp [getObj,Sem.run,h1]
           have eak:∀o,(setObj r' o).run E.P w= .ok () {w with heap:=w.heap.setIfInBounds r' o}:=fun o=>by simp [setObj,Sem.run,h1]
           have Db:r'<w.heap.size:=(Array.getElem?_eq_some_iff.1 h1).1
           have fin:∀(es3:Array MapEntry) (cl3:Nat),es2.length=es3.size->(∀(i:Nat) (p:Value×Value) (e:MapEntry),es2[i]?=some p->es3[i]?=some e->VR R p.1 e.key/\VR R p.2 e.val)->
             Qc B w0 R (σ.put r (some (.map es2))) {w with heap:=w.heap.setIfInBounds r' (.map es3 cl3)}:=fun es3 cl3 k1 k2=>by
            refine hS.yR hr (by rw [hg];simp) ?_ (fun k hk=>by simp [Ne.symm hk]) (by simp) rfl rfl rfl
            exact ⟨es3,cl3,by simp [Db],k1,k2⟩
           rcases LA (kd:=kk) es Gl.toList es2 (by simpa using h2) (fun i p e a b=>h3 i p e a (by simpa using b)) hes 0 with⟨k1,k2⟩|⟨j,e,k1,k2,k3,k4,k5⟩
           . have zY:=Jq (P:=E.P) (w:=w) yY.zg k1;refine ⟨{w with heap:=w.heap.setIfInBounds r' (.map (Gl.push {key:= .int q n,val:=v',born:=cl}) (cl+1))}, ?_,rfl,Ext.put R σ hr _,fin _ _ ?_ ?_⟩
             . simp [Instr.mapUpdate,eb w hT.zg,Result.andThen,Vj,jg,zY,eak]
             . rw [k2];simp [h2]
             . intro i p e hp he;rw [k2]at hp;by_cases hi:i<es.length
               . rw [List.getElem?_append_left hi]at hp;rw [Array.getElem?_push,if_neg (by omega)]at he;exact h3 i p e hp he
               . have QQ:i=es.length:=by
                  have:=(List.getElem?_eq_some_iff.1 hp).1
                  simp at this;omega
                 subst QQ;simp at hp;rw [h2]at he;simp at he;subst hp;subst he;exact ⟨.flat _ rfl,hv⟩
           . have zY:=Jq (P:=E.P) (w:=w) yY.zg k1;have hj:Gl[j]?=some e:=by simpa using k2
             have FY:Instr.sameBits 10000 (.int q n) (.int q n)=true:=by simp [Instr.sameBits]
             refine ⟨{w with heap:=w.heap.setIfInBounds r' (.map (Gl.modify j fun e=>{e with key:= .int q n,val:=v'}) cl)}, ?_,rfl,Ext.put R σ hr _,fin _ _ ?_ ?_⟩
             . simp [Instr.mapUpdate,eb w hT.zg,Result.andThen,Vj,jg,zY,eak,hj,k3,Instr.keyThatStays,FY]
             . rw [k4];simp [h2]
             . intro i p e2 hp he;rw [k4]at hp;rw [Array.getElem?_modify]at he;by_cases Vm:j=i
               . subst Vm;have hjl:j<es.length:=by have:=(Array.getElem?_eq_some_iff.1 hj).1;omega
                 rw [List.getElem?_set_self hjl]at hp;rw [if_pos rfl,hj]at he;simp at he;cases hp;subst he;exact ⟨.flat _ rfl,hv⟩
               . rw [List.getElem?_set_ne Vm]at hp;rw [if_neg Vm]at he;exact h3 i p e2 hp he
         . cases h
       . cases h
     . cases h
   . cases h
 . cases h
theorem Tz{t:Tm}{a:Act}(ht:TR R t a.tmps)(go:Task->Option lj)(o:Oper)(hb:∀c,o.op= .call c->∃b,c.callee= .builtin b){v:Value}{σ':AH}(h:bk E go t σ o.op=some (v,σ')):
  zR B w0 R σ ((execOp a.eval o).run E.P w) v σ':=by
 obtain ⟨dst,op,tp,pos,af,g⟩:=o;cases op with
 |store ty x y=>
  simp only [bk]at h
  split at h
  . rename_i u v0 i hu hv hi;obtain ⟨w',k1,k2,k3,k4⟩:=dF hE hS hi (Qa ht hu) (Qa ht hv) h;exact ⟨R,undef,w',k3,by rw [k2];exact Ge R,k4, .inr ⟨by simp [execOp,Result.andThen,k1],rfl⟩⟩
  . cases h
 |mapUpdate ty m k x=>
  simp only [bk]at h
  split at h
  . rename_i u k0 v0 hu hk hv;obtain ⟨w',k1,k2,k3,k4⟩:=MA hE hS (Qa ht hu) (Qa ht hk) (Qa ht hv) h;exact ⟨R,undef,w',k3,by rw [k2];exact Ge R,k4, .inr ⟨by simp [execOp,Result.andThen,k1],rfl⟩⟩
  . cases h
 |insert ty m k x=>
  simp only [bk]at h
  split at h
  . rename_i u k0 v0 hu hk hv;obtain ⟨w',k1,k2,k3,k4⟩:=MA hE hS (Qa ht hu) (Qa ht hk) (Qa ht hv) h;exact ⟨R,undef,w',k3,by rw [k2];exact Ge R,k4, .inr ⟨by simp [execOp,Result.andThen,k1],rfl⟩⟩
  . cases h
 |call c=>
  obtain ⟨b,hc⟩:=hb c rfl;obtain ⟨ce,xs,ts⟩:=c;simp only at hc;subst hc;simp only [bk,Uv]at h
  split at h
  . cases h
  . rename_i args NA;have hl:=Yf ht NA
    split at h
    . rename_i s x;obtain ⟨y1,l1,e1,hs,GY⟩:=hl.ya;obtain ⟨y2,l2,rfl,hx,RK⟩:=GY.ya;have:=RK.ic;subst this;have Oz:xs.map a.eval=#[y1,y2]:=by apply Array.ext';simpa using e1
      obtain ⟨R',v',w',k1,k2,k3,k4⟩:=pO hE hS (ty:=tp) hs hx h;exact ⟨R',v',w',k1,k2,k3, .inl (by simp [execOp,resolve,invoke,builtin,Result.andThen,Oz,k4])⟩
    . rename_i d s;obtain ⟨y1,l1,e1,hs,GY⟩:=hl.ya;obtain ⟨y2,l2,rfl,hx,RK⟩:=GY.ya;have:=RK.ic;subst this;have Oz:xs.map a.eval=#[y1,y2]:=by apply Array.ext';simpa using e1
      obtain ⟨R',v',w',k1,k2,k3,k4⟩:=wI hE hS (ty:=tp) hs hx h;exact ⟨R',v',w',k1,k2,k3, .inl (by simp [execOp,resolve,invoke,builtin,Result.andThen,Oz,k4])⟩
    . rename_i d;obtain ⟨y1,l1,e1,hs,GY⟩:=hl.ya;have:=GY.ic;subst this;have Oz:xs.map a.eval=#[y1]:=by apply Array.ext';simpa using e1
      obtain ⟨R',v',w',k1,k2,k3,k4⟩:=jF hE hS (ty:=tp) hs h;exact ⟨R',v',w',k1,k2,k3, .inl (by simp [execOp,resolve,invoke,builtin,Result.andThen,Oz,k4])⟩
    . cases h
 |_=>simp [bk]at h
end
end Sk
end Go.Proofs.YtfnkmolffhfpoaaGreat
