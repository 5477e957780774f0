/- -/
import Derived.Test.YtfnkmolffhfpoaaGreatHb9
import Derived.Laws.AppendOwn
import Derived.Lib.AppendZeros
import Derived.Lib.SliceRun
set_option linter.unusedVariables false
set_option linter.unusedSimpArgs false
set_option linter.unusedSectionVars false
namespace Go.Proofs.YtfnkmolffhfpoaaGreat
namespace Sk
open Go.RowKit
variable[Interp]
theorem aX{R:Mp}{v v':Value}(h:VR R v v')(h1:UH v=true):v'.oneCell'=true:=by
 cases h with
 |flat v h=>cases v<;>simp_all [ic,Value.oneCell']
 |agg=>simp [UH]at h1
 |ZH=>simp [UH]at h1
 |sym t s l c v' hd=>rcases bG (by rw [<-Qe];exact hd)with⟨k,m,rfl⟩|⟨b,rfl⟩<;>rfl
 |_=>rfl
theorem Ny{R:Mp}:∀{l l':List Value},LR R l l'->pk l=true->∀v∈l',v.oneCell'=true
 |[],l',h,_,v,hv=>by rw [h.uc]at hv;cases hv
 |x::xs,l',h,h1,v,hv=>by
  obtain ⟨y,q,rfl,k1,k2⟩:=h.qa;simp only [pk]at h1;cases hx:UH x with
  |false=>rw [hx]at h1;cases h1
  |true=>
   rw [hx]at h1;rcases List.mem_cons.1 hv with e|e
   . subst e;exact aX k1 hx
   . exact Ny k2 h1 v e
theorem aq:∀(l m:List Value),pk l=true->pk m=true->pk (l++m)=true
 |[],m,_,h=>h
 |x::xs,m,h,k=>by
  simp only [pk]at h;cases hx:UH x with
  |false=>rw [hx]at h;cases h
  |true=>rw [hx]at h;simp only [List.cons_append,pk,hx];exact aq xs m h k
theorem tB{l:List Value}(h:pk l=true):∀n,pk (qh l n)=true
 |0=>rfl
 |n+1=>aq _ _ h (tB h n)
def cL(B:Nat->Prop)(w0:World)(R:Mp)(σ:AH)(r:Result Next)(v:Value)(σ':AH):Prop:=
 ∃R' v' w',Ext R σ R' σ'/\VR R' v v'/\Ic B w0 R' σ' w'/\(r= .ok (.value v') w'\/(r= .ok .skip w'/\v'=undef))
section
variable{E:Env}(hE:Pb E){B:Nat->Prop}{w0:World}{R:Mp}{σ:AH}{w:World}(hS:Ic B w0 R σ w)
include hE hS
theorem Vh{b r s:Nat}(hb:R b=some (r,s)){c:Row}{e:TypeId}{full:Bool}(hg:σ.get b=some (.cells c e full)){p:Nat}{l l':List Value}(hl:LR R l l')(h1:pk l=true)(Jl:p+l.length<=c.n):
  ∃w',(storeCells ⟨r,p,none⟩ l').run E.P w= .ok () w'/\Ic B w0 R (σ.put b (some (.cells (c.Qg p l) e full))) w':=by
 obtain ⟨_,c',hc,hs,hn,hf,hv⟩:=hS.obj b r s _ hb hg;have hlen:=hl.1
 have gG:p+l'.length<=c'.size:=by omega
 have hr:=run_storeCells_at E.P r p e l' 0 c' w hc (by simpa using gG) (Ny hl h1);simp only [Nat.add_zero]at hr;refine ⟨_,hr,hS.aL hb (by rw [hg];simp) ?_ (fun k hk=>setRow_other w r k _ hk) (setRow_size _ _ _) rfl rfl rfl⟩;refine ⟨(c'.toList.take p++l'++c'.toList.drop (p+l'.length)).toArray,setRow_heap w r c' _ e (0,0) hc, ?_, ?_, ?_,fun i v hi=> ?_⟩
 . simp;omega
 . rw [(tj l c p).1];exact hn
 . rw [(tj l c p).1];exact hf
 . rw [Ay]at hi;by_cases Cf:p<=i/\i<p+l.length
   . rw [if_pos Cf]at hi;obtain ⟨y,hy,hr⟩:=hl.get hi;refine ⟨by rw [(tj l c p).1];omega,y, ?_,hr⟩;simp only [List.getElem?_toArray];rw [List.append_assoc,List.getElem?_append_right (by simp;omega),List.getElem?_append_left (by simp;omega)];have:i -(c'.toList.take p).length=i -p:=by simp;omega
     rw [this];exact hy
   . rw [if_neg Cf]at hi;obtain ⟨Nam,v',EK,hr⟩:=hv i v hi;refine ⟨by rw [(tj l c p).1];exact Nam,v', ?_,hr⟩;simp only [List.getElem?_toArray];by_cases hip:i<p
     . rw [List.append_assoc,List.getElem?_append_left (by simp;have:=(Array.getElem?_eq_some_iff.1 EK).1;omega),List.getElem?_take,if_pos hip]
       simpa using EK
     . rw [List.getElem?_append_right (by simp;omega),List.getElem?_drop];have:p+l'.length+(i -(c'.toList.take p++l').length)=i:=by simp;omega
       rw [this]
       simpa using EK
theorem uB{ty:TypeId}{i:Ti}(hi:E.ty ty=some i){u v u' v' x:Value}{σ':AH}(hu:VR R u u')(hv:VR R v v')(h:oy σ i.size u v=some (x,σ')):
  ∃w',(Instr.storeAt ty u' v').run E.P w= .ok () w'/\x=undef/\Ext R σ R σ'/\Ic B w0 R σ' w':=by
 obtain ⟨ii,d,hT⟩:=hE.is hi;unfold oy at h
 split at h
 . rename_i b p;obtain ⟨r,s,hb,rfl⟩:=wg hu
   split at h
   . rename_i c e full hg
     split at h
     . rename_i c1 c2;rw [Ja,Pc]at c1;have c1:=of_decide_eq_true c1;have hl:=Ii hv;have Xg:v'.cells.size=ii.size:=by rw [hT.size,<-c1,hl.1,Lc];simp
       have Wn:v'.cells.toList=Ca v':=(Lc v').symm
       have h0:=Ph _ _ _ _ _ h;rw [Wb]at h0;cases h0;rcases On _ _ _ _ _ h with Jl|Av
       . obtain ⟨w',k1,k2⟩:=Vh hE hS hb hg hl c2 Jl;refine ⟨w', ?_,rfl,Ext.put R σ hb _,k2⟩;simp [Instr.storeAt,Instr.sureAddr,storeVar,Result.andThen,Vc w hT.info,Xg,Wn,k1]
       . have Q3:Ca v'=[]:=by rw [Av]at hl;exact hl.uc
         refine ⟨w, ?_,rfl,Ext.put R σ hb _, ?_⟩
         . have way:ii.size=0:=by rw [hT.size,<-c1,Av];rfl
           simp [Instr.storeAt,Instr.sureAddr,storeVar,Result.andThen,Vc w hT.info,Xg,Wn,Q3,storeCells]
         . rw [Av];exact hS.aL hb (by rw [hg];simp) (hS.obj b r s _ hb hg).2 (fun _ _=>rfl) rfl rfl rfl rfl
     . cases h
   . cases h
 . cases h
theorem bq{x x':Value}{z m:Nat}{l:List Value}(hx:VR R x x')(hn:∀ad k c,x= .slice ad k c->m<=k)(hm:0<m)(h:rowOf σ x z m=some l):
  ∃(l':List Value) (ad:Addr) (k c:Nat),x'= .slice (some ad) k c/\m<=k/\k<=c/\LR R l l'/\pk l=true/\l'.length=m*z/\∀(j:Nat) (v:Value),l'[j]?=some v->w.cell? (ad.add j)=some v:=by
 unfold rowOf at h
 split at h
 . rename_i ad k c;have hmk:=hn _ _ _ rfl
   split at h
   . rename_i c0 e full hg
     split at h
     . rename_i q hf
       split at h
       . rename_i h1;cases h;obtain ⟨b',s,c',hb,rfl,h2,_⟩:=Hi hx (by omega);obtain ⟨l',k1,k2,k3⟩:=SD hE hS hb hg hf;exact ⟨l',_,_,_,rfl,hmk,h2,k1,h1,k2,k3⟩
       . cases h
     . cases h
   . cases h
 . cases h
theorem Wh{z n e:Nat}{i:TypeInfo}{zv:Value}{l l':List Value}(hl:LR R l l')(hz:1<=z)(hlen:l'.length=n*z)(SP:zv.cells.size=z)(cap:Nat)(Mr:n<=cap)(w1:World)(hw:w1.heap=w.heap)(q1:w1.os=w.os)(q2:w1.tape=w.tape)(q3:w1.output=w.output)(cs:Array Value)
  (mK:cs=l'.toArray++Builtin.zeroCells zv.cells (cap -n)):∃R' w',w'=w1.alloc (.cells cs e)/\Ext R σ R' (σ.new (.cells (Row.nil.app l) e false))/\VR R' (.slice (some ⟨σ.next,0,none⟩) n z) (.slice (some ⟨w.heap.size,0,none⟩) n cap)/\Ic B w0 R' (σ.new (.cells (Row.nil.app l) e false)) w':=by
 have Xg:cs.size=cap*z:=by
  rw [mK];simp only [Array.size_append,size_zeroCells,List.size_toArray,hlen,SP];rw [<-Nat.add_mul];congr 1;omega
 refine ⟨R.set σ.next (w.heap.size,cs.size),_,rfl,Ext.new hS _ _, .Fw _ 0 _ _ n z cap (Mp.Wc R _ _) hz (by rw [Xg];omega) Mr, ?_⟩;have:=(hS.world hw q1 q2 q3).new (x:= .cells (Row.nil.app l) e false) (o:= .cells cs e) (s:=cs.size) ?_
 . rw [hw]at this;exact this
 . refine ⟨cs,rfl,rfl, ?_,fun h=>by simp at h,fun j v hv=> ?_⟩
   . rw [(re l Row.nil).1,hl.1,hlen,Xg];simp [Row.nil];exact Nat.mul_le_mul_right z Mr
   . rw [Rh l Row.nil rfl]at hv
     split at hv
     . have hv:l[j]?=some v:=by simpa [Row.nil]using hv
       obtain ⟨y,hy,hr⟩:=hl.get hv;refine ⟨by rw [(re l Row.nil).1];have:=(List.getElem?_eq_some_iff.1 hv).1;simp [Row.nil];omega,y, ?_,hr⟩;rw [mK,Array.getElem?_append_left (by simpa using(List.getElem?_eq_some_iff.1 hy).1)]
       simpa using hy
     . simp [Row.nil,Oh,Tr.get_nil]at hv
omit hE hS in
theorem vB(l m:List Value):∀r:Row,(r.app l).app m=r.app (l++m):=by
 induction l with
 |nil=>intro r;rfl
 |cons x l ih=>intro r;simp only [Row.app,List.cons_append];exact ih _
omit hE hS in
theorem Wl{P:Program}{w w':World}{t ty e:TypeId}{i:TypeInfo}(ht:P.underlying t=some (.slice e))(hi:P.info? e=some i)(g o oQ bX:Nat)
  (a:Addr)(m c:Nat)(news:List Value)(hl:news.length=m*i.size)(dL:∀j u,news[j]?=some u->w.cell? (a.add j)=some u)(Uf:oQ+m<=bX)
  (CD:(storeCells ⟨g,o+oQ*i.size,none⟩ news).run P w= .ok () w'):
  (Builtin.append_ #[t,t] ty #[.slice (some ⟨g,o,none⟩) oQ bX, .slice (some a) m c]).run P w= .ok (.slice (some ⟨g,o,none⟩) (oQ+m) bX) w':=by
 have hf:=run_firstCells_some (P:=P) w i.size m a m c news hl dL;simp [Builtin.append_,Qa w ht,Result.andThen,Vc w hi,Builtin.lenOf,Uf,hf,zk,CD]
theorem Oy{t ty e:TypeId}{i ie:Ti}(hi:E.ty t=some i)(Zd:i.ds= .sl e)(Zj:E.ty e=some ie){z:Nat}(hz:ie.size=z)(Kh:1<=z){zv:Value}(O1:ie.zero=some zv)(SP:(Ca zv).length=z)(RP:ie.bytes<=65536)
  {sv eL v:Value}{new:List Value}{σ':AH}{n:Nat}(hn:0<n)(hn2:n<=65537){xv':Value}(hsv:VR R sv eL){l':List Value}{ad:Addr}{kx cx:Nat}(hx:xv'= .slice (some ad) kx cx)(hkx:kx=n)(hl:LR R new l')(h1:pk new=true)(fG:l'.length=n*z)
  (hc:∀(j:Nat) (v:Value),l'[j]?=some v->w.cell? (ad.add j)=some v)(h:zr E σ e z sv new n=some (v,σ')):
  ∃R' v' w',Ext R σ R' σ'/\VR R' v v'/\Ic B w0 R' σ' w'/\(Builtin.append_ #[t,t] ty #[eL,xv']).run E.P w= .ok v' w':=by
 obtain ⟨ii,d,hT⟩:=hE.is hi;obtain ⟨ei,ed,lg⟩:=hE.is Zj;have:=hT.sl Zd;subst this;obtain ⟨wB,pQ⟩:=lg.zero O1;have oI:ei.size=z:=by rw [lg.size,hz]
 have fL:ei.bytes<=65536:=by rw [lg.eq]at RP;exact RP
 have Py:zv.cells.size=z:=by rw [<-SP,Lc];simp
 subst hx;subst hkx;have VD:l'.length=kx*ei.size:=by rw [oI];exact fG
 have none_:∀(b:Nat),Cw σ e kx z new=some (v,σ')->(eL= .slice none 0 0\/∃a0,eL= .slice (some a0) 0 0)->∃R' v' w',Ext R σ R' σ'/\VR R' v v'/\Ic B w0 R' σ' w'/\(Builtin.append_ #[t,t] ty #[eL, .slice (some ad) kx cx]).run E.P w= .ok v' w':=fun _ h hs=>by
  unfold Cw at h;rw [Qh,Uh]at h;cases h;have h48:kx*ei.bytes<=281474976710656:=by
   have:kx*ei.bytes<=65537*65536:=Nat.mul_le_mul hn2 fL;omega
  have Mr:∀o,kx<=grownCap w kx o e:=fun o=>Nat.le_add_right kx _
  rcases hs with rfl|⟨a0,rfl⟩
  . have hr:=run_append_nil (P:=E.P) w t ty e ei zv hT.Df lg.info wB ad kx cx l' VD hc hn (by omega) h48;obtain ⟨R',w',k1,k2,k3,k4⟩:=Wh hE hS (i:=ei) (e:=e) hl Kh fG Py (grownCap w kx 0 e) (Mr 0) w.drew rfl rfl rfl rfl _ rfl;exact ⟨R',_,w',k2,k3,k4,by rw [hr,k1]⟩
  . have Jl:Builtin.nextslicecap (0+kx) 0*ei.bytes<=281474976710656:=by rw [Nat.zero_add,nextslicecap_zero hn];exact h48
    have hr:=run_append_grow (P:=E.P) w t ty e ei zv hT.Df lg.info wB a0 0 0 [] (by simp) (fun j v hj=>by simp at hj) ad kx cx l' VD hc (by omega) (by omega) Jl;simp only [Nat.zero_add]at hr;obtain ⟨R',w',k1,k2,k3,k4⟩:=Wh hE hS (i:=ei) (e:=e) hl Kh fG Py (grownCap w kx 0 e) (Mr 0) w.drew rfl rfl rfl rfl _ rfl;refine ⟨R',_,w',k2,k3,k4, ?_⟩;rw [hr,k1];simp
 have inPlace:∀(b o:Nat) (sp:Option Nat) (l0 b' s cap:Nat) (c:Row) (e':TypeId) (full:Bool),R b=some (b',s)->σ.get b=some (.cells c e' full)->eL= .slice (some ⟨b',o,none⟩) l0 cap->l0+kx<=cap->
   VR R (.slice (some ⟨b,o,sp⟩) (l0+kx) z) (.slice (some ⟨b',o,none⟩) (l0+kx) cap)->al σ b o c e' full l0 kx z sp new=some (v,σ')->
   ∃R' v' w',Ext R σ R' σ'/\VR R' v v'/\Ic B w0 R' σ' w'/\(Builtin.append_ #[t,t] ty #[eL, .slice (some ad) kx cx]).run E.P w= .ok v' w':=fun b o sp l0 b' s cap c e' full hb hg hs Uf hvr h=>by
  unfold al at h;have h0:=Ph _ _ _ _ _ h;rw [Wb]at h0;cases h0;have Jc:new≠[]:=fun q=>by
   rw [q]at hl;have:=hl.uc;rw [this]at fG;have:=Nat.mul_pos hn Kh;simp at fG;omega
  rcases On _ _ _ _ _ h with Jl|Av
  . obtain ⟨w',k1,k2⟩:=Vh hE hS hb hg hl h1 Jl;refine ⟨R,_,w',Ext.put R σ hb _,hvr,k2, ?_⟩;rw [hs];refine Wl hT.Df lg.info b' o l0 cap ad kx cx l' VD hc Uf ?_
    rw [oI];exact k1
  . exact absurd Av Jc
 have grown:∀(b o:Nat) (l0 b' s cap:Nat) (c:Row) (e':TypeId) (full:Bool),R b=some (b',s)->σ.get b=some (.cells c e' full)->eL= .slice (some ⟨b',o,none⟩) l0 cap->cap<l0+kx->l0<=1000000->
   ∀old,c.from o (l0*z)=some old->
   ∃R' v' w',Ext R σ R' (σ.new (.cells (Row.nil.app (old++new)) e false))/\VR R' (.slice (some ⟨σ.next,0,none⟩) (l0+kx) z) v'/\Ic B w0 R' (σ.new (.cells (Row.nil.app (old++new)) e false)) w'/\(Builtin.append_ #[t,t] ty #[eL, .slice (some ad) kx cx]).run E.P w= .ok v' w':=fun b o l0 b' s cap c e' full hb hg hs CA Vl old hold=>by
  obtain ⟨S3,o1,o2,o3⟩:=SD hE hS hb hg hold;have T3:l0+kx<=1065537:=by omega
  have Jl:Builtin.nextslicecap (l0+kx) cap*ei.bytes<=281474976710656:=by
   have:=nextslicecap_le CA;have:Builtin.nextslicecap (l0+kx) cap*ei.bytes<=(2*1065537)*65536:=Nat.mul_le_mul (by omega) fL;omega
  have hr:=run_append_grow (P:=E.P) w t ty e ei zv hT.Df lg.info wB ⟨b',o,none⟩ l0 cap S3 (by rw [oI];exact o2) o3 ad kx cx l' VD hc CA (by omega) Jl;have hlen:(S3++l').length=(l0+kx)*z:=by rw [List.length_append,o2,fG,Nat.add_mul]
  obtain ⟨R',w',k1,k2,k3,k4⟩:=Wh hE hS (i:=ei) (e:=e) (LR.append o1 hl) Kh hlen Py (grownCap w (l0+kx) cap e) (Nat.le_add_right _ _) w.drew rfl rfl rfl rfl _ rfl;refine ⟨R',_,w',k2,k3,k4, ?_⟩;rw [hs,hr,k1]
  congr 3
  apply Array.ext';simp
 have gL:∀(b o:Nat) (l0 b' s cap:Nat) (c:Row) (e':TypeId) (full:Bool),R b=some (b',s)->σ.get b=some (.cells c e' full)->eL= .slice (some ⟨b',o,none⟩) l0 cap->cap<l0+kx->l0<=1000000->Iq σ e o c l0 kx z new=some (v,σ')->
   ∃R' v' w',Ext R σ R' σ'/\VR R' v v'/\Ic B w0 R' σ' w'/\(Builtin.append_ #[t,t] ty #[eL, .slice (some ad) kx cx]).run E.P w= .ok v' w':=fun b o l0 b' s cap c e' full hb hg hs CA Vl h=>by
  unfold Iq at h
  split at h
  . cases h
  . rename_i old hold;rw [Qh,Qh,vB,Uh]at h;cases h;exact grown b o l0 b' s cap c e' full hb hg hs CA Vl old hold
 unfold zr at h
 split at h
 . exact none_ 0 h (.inl (Yb hsv rfl))
 . rename_i b o sp l0 zz
   split at h
   . split at h
     . cases hsv with
       |flat v h=>simp [ic]at h
       |Fw b o b' s n z c' h hz hc hn=>omega
       |QK a0=>exact none_ 0 h (.inr ⟨a0,rfl⟩)
     . cases h
   . rename_i zz
     split at h
     . rename_i c e' full hg
       split at h
       . rename_i d1 d2;rw [Ja]at d1;rw [jd]at d2;have d1:=of_decide_eq_true d1;have d2:=of_decide_eq_true d2;subst d1
         split at h
         . --a slice Qav end is open
           cases hsv with
           |flat v h=>simp [ic]at h
           |Fw b o b' s n z c' hb hz mK hnc=>
            obtain ⟨_,c0,mT,hs0,sB,hf0,nT⟩:=hS.obj b b' s _ hb hg
            split at h
            . rename_i q;rw [jd]at q;have q:=of_decide_eq_true q;have q:o+(l0+kx)*(zz+1)<=c.n:=q;have Uf:l0+kx<=c':=by
               have:(l0+kx)*(zz+1)<=c'*(zz+1):=by
                have:=mK;simp only [Nat.succ_eq_add_one]at this;omega
               exact Nat.le_of_mul_le_mul_right this (by omega)
              exact inPlace b o none l0 b' s c' c e' full hb hg rfl Uf (.Fw b o b' s (l0+kx) _ c' hb hz mK Uf) h
            . split at h
              . cases h
              . rename_i q;rw [Ja]at q;have q:=of_decide_eq_true q;have q:o+l0*(zz+1)=c.n:=q
                split at h
                . --nothing behind it
                  have hsn:c.n=s:=hf0 rfl;have Wn:c'=l0:=by
                   have:c'*(zz+1)=l0*(zz+1):=by
                    have:=mK;simp only [Nat.succ_eq_add_one]at this;omega
                   exact Nat.eq_of_mul_eq_mul_right (by omega) this
                  exact gL b o l0 b' s c' c e' _ hb hg rfl (by omega) d2 h
                . split at h
                  . have qe:Nat.beq e e'=true:=by assumption
                    rw [Ja]at qe;have qe:=of_decide_eq_true qe;subst qe
                    split at h
                    . cases h
                    . rename_i hcd;rw [Qh,Wb,Uh]at h;cases h;have cX:c'*(zz+1)=s:=by simpa using mK
                      have hln:l0*(zz+1)=c.n:=by simpa using q
                      have U3:new.length=kx*(zz+1):=by rw [hl.1,fG]
                      by_cases Uf:l0+kx<=c'
                      . --in place:the xal new name
                        have Jl:l0*(zz+1)+l'.length<=c0.size:=by
                         rw [fG,hs0,<-cX,<-Nat.add_mul];exact Nat.mul_le_mul_right _ Uf
                        have CD:=run_storeCells_at E.P b' (l0*(zz+1)) e l' 0 c0 w mT (by simpa using Jl) (Ny hl h1);simp only [Nat.add_zero]at CD;have bL:=Wl (P:=E.P) hT.Df lg.info (ty:=ty) b' 0 l0 c' ad kx cx l' VD hc Uf (w':=w.setRow b' (c0.toList.take (l0*(zz+1))++l'++c0.toList.drop (l0*(zz+1)+l'.length)).toArray) (by rw [Nat.zero_add,oI];exact CD);refine ⟨R.set σ.next (b',s),_,_, ?_, .Fw _ 0 b' s (l0+kx) _ c' (Mp.Wc R _ _) (by omega) (by simpa using cX) Uf, ?_,bL⟩
                        . have e1:=Ext.put R σ hb none;have e2:Ext R (σ.put b none) (R.set σ.next (b',s)) ((σ.put b none).new (.cells (c.app new) e false)):=Ext.new (hS.kill b) _ _;exact e1.trans e2
                        . have hSk:=hS.kill b;have Jc:b≠σ.next:=by have:=hS.tD b _ hb;omega
                          have hle:R.le (R.set σ.next (b',s)):=Mp.Ly (hS.vl (Nat.le_refl _));have hB:B b':=(hS.obj b b' s _ hb hg).1
                          have Pam:b'<w.heap.size:=hS.lt b b' s hb;have Cj:=setRow_heap w b' c0 (c0.toList.take (l0*(zz+1))++l'++c0.toList.drop (l0*(zz+1)+l'.length)).toArray e (0,0) mT
                          have iL:∀c2 s2,R c2=some (b',s2)->(σ.put b none).get c2=none:=fun c2 s2 e2=>by
                           rw [ib];by_cases ZK:c2=b
                           . rw [if_pos ZK]
                           . rw [if_neg ZK];rcases hS.inj c2 b b' s2 s e2 hb ZK with k|k
                             . exact k
                             . rw [hg]at k;cases k
                          refine ⟨fun c2 y e2=> ?_,fun c2 r2 s2 e2=> ?_,fun c2 r2 s2 y e2 g2=> ?_,fun b1 b2 r2 s1 s2 e1 e2 Qy=> ?_, ?_,hS.base, ?_⟩
                          . by_cases gG:c2=σ.next
                            . subst gG;simp
                            . rw [Mp.xe gG]at e2;have:=hS.tD c2 y e2;simp;omega
                          . rw [setRow_size];by_cases gG:c2=σ.next
                            . subst gG;rw [Mp.Wc]at e2;cases e2;exact Pam
                            . rw [Mp.xe gG]at e2;exact hS.lt c2 r2 s2 e2
                          . rw [yc]at g2;by_cases gG:c2=σ.next
                            . subst gG;rw [Mp.Wc]at e2;cases e2;simp at g2;subst g2;refine ⟨hB, ?_⟩;rw [Cj];refine ⟨_,rfl, ?_, ?_,fun q=>(by cases q),fun j u hj=> ?_⟩
                              . simp;omega
                              . rw [(re new c).1,U3,<-hln,<-cX,<-Nat.add_mul];exact Nat.mul_le_mul_right _ Uf
                              . rw [Rh new c hcd]at hj;by_cases Cf:c.n<=j/\j<c.n+new.length
                                . rw [if_pos Cf]at hj;obtain ⟨y2,hy2,Zx⟩:=hl.get hj;refine ⟨by rw [(re new c).1];omega,y2, ?_,Zx.mono hle⟩;simp only [List.getElem?_toArray];rw [List.append_assoc,List.getElem?_append_right (by simp;omega),List.getElem?_append_left (by simp;have:=hl.1;omega)];have:j -(c0.toList.take (l0*(zz+1))).length=j -c.n:=by simp;omega
                                  rw [this];exact hy2
                                . rw [if_neg Cf]at hj;obtain ⟨M1,u',hu1,nQ⟩:=nT j u hj;refine ⟨by rw [(re new c).1];omega,u', ?_,nQ.mono hle⟩;simp only [List.getElem?_toArray];rw [List.append_assoc,List.getElem?_append_left (by simp;omega),List.getElem?_take,if_pos (by omega)]
                                  simpa using hu1
                            . rw [Mp.xe gG]at e2;rw [if_neg (by simpa using gG)]at g2;have Zx:r2≠b':=fun q=>by subst q;rw [iL c2 s2 e2]at g2;cases g2
                              obtain ⟨k1,k2⟩:=hSk.obj c2 r2 s2 y e2 g2;exact ⟨k1,by rw [setRow_other w b' r2 _ Zx];exact k2.mono hle⟩
                          . rw [yc,yc];by_cases Bv:b1=σ.next
                            . subst Bv;rw [Mp.Wc]at e1;cases e1;rw [Mp.xe (Ne.symm Qy)]at e2;right;rw [if_neg (by simpa using Ne.symm Qy)];exact iL b2 s2 e2
                            . rw [Mp.xe Bv]at e1;rw [if_neg (by simpa using Bv)];by_cases Ih:b2=σ.next
                              . subst Ih;rw [Mp.Wc]at e2;cases e2;left;exact iL b1 s1 e1
                              . rw [Mp.xe Ih]at e2;rw [if_neg (by simpa using Ih)];exact hSk.inj b1 b2 r2 s1 s2 e1 e2 Qy
                          . exact ⟨hS.below.os,hS.below.tape,hS.below.output,by rw [setRow_size];exact hS.below.size,fun k hk ht=>by rw [setRow_other w b' k _ (fun e=>by subst e;exact ht hB)];exact hS.below.block k hk ht⟩
                          . obtain ⟨O,hO⟩:=hS.lK;refine ⟨O,fun c2 r2 s2 e i1 i2=> ?_⟩;rw [yc]at i2;have gG:c2≠σ.next:=fun k=>by
                             subst k;rw [if_pos (by simp)]at i2;cases i2
                            rw [if_neg (by simpa using gG),ib]at i2;have ZK:c2≠b:=fun k=>by
                             subst k;rw [if_pos rfl]at i2;cases i2
                            rw [if_neg ZK]at i2;rw [Mp.xe gG]at i1;obtain ⟨⟨g,k1,k2⟩,k3,k4⟩:=hO c2 r2 s2 e i1 i2;have hr:¬O c2 b':=(k4 b b' s _ (Ne.symm ZK) hb hg).1
                            refine ⟨⟨g,k1,Interp.gh_keep _ _ _ _ _ k2 (by rw [setRow_size];exact Nat.le_refl _) fun k hk=>setRow_other w b' k _ fun q=>by subst q;exact hr hk⟩,k3,fun b2 r3 s3 o2 Qy i3 i4=> ?_⟩;rw [yc]at i4;by_cases P1:b2=σ.next
                            . subst P1;rw [Mp.Wc]at i3;cases i3;rw [if_pos (by simp)]at i4;cases i4;exact ⟨hr,fun e2 he=>by cases he⟩
                            . rw [if_neg (by simpa using P1),ib]at i4;rw [Mp.xe P1]at i3;by_cases oB:b2=b
                              . rw [if_pos oB]at i4;cases i4
                              . rw [if_neg oB]at i4;exact k4 b2 r3 s3 o2 Qy i3 i4
                      . --Q1;the old one is not looked at again
                        have T3:l0+kx<=1065537:=by omega
                        have Jl:Builtin.nextslicecap (l0+kx) c'*ei.bytes<=281474976710656:=by
                         have:=nextslicecap_le (need:=l0+kx) (old:=c') (by omega);have:Builtin.nextslicecap (l0+kx) c'*ei.bytes<=(2*1065537)*65536:=Nat.mul_le_mul (by omega) fL;omega
                        have oT:(c0.toList.take (l0*(zz+1))).length=l0*(zz+1):=by simp;omega
                        have hr:=run_append_grow (P:=E.P) w t ty e ei zv hT.Df lg.info wB ⟨b',0,none⟩ l0 c' (c0.toList.take (l0*(zz+1))) (by rw [oI];exact oT) (fun j u hj=>by
                         rw [zk,Nat.zero_add];rw [List.getElem?_take]at hj
                         split at hj
                         . simp [World.cell?,mT];simpa using hj
                         . cases hj) ad kx cx l' VD hc (by omega) (by omega) Jl
                        obtain ⟨cap,Mr⟩:∃cap,cap=grownCap w (l0+kx) c' e:=⟨_,rfl⟩;have pT:l0+kx<=cap:=by rw [Mr];exact Nat.le_add_right _ _
                        rw [<-Mr]at hr;obtain ⟨cs,qQ⟩:∃cs,cs=(c0.toList.take (l0*(zz+1))).toArray++l'.toArray++Builtin.zeroCells zv.cells (cap -(l0+kx)):=⟨_,rfl⟩
                        rw [<-qQ]at hr;have Xg:cs.size=cap*(zz+1):=by
                         rw [qQ];simp only [Array.size_append,size_zeroCells,List.size_toArray,oT,fG,Py];rw [<-Nat.add_mul,<-Nat.add_mul];congr 1;omega
                        refine ⟨R.set σ.next (w.heap.size,cs.size),_,_, ?_, .Fw _ 0 _ _ (l0+kx) _ cap (Mp.Wc R _ _) (by omega) (by rw [Xg];rfl) pT, ?_,hr⟩
                        . have e1:=Ext.put R σ hb none;have e2:Ext R (σ.put b none) (R.set σ.next (w.heap.size,cs.size)) ((σ.put b none).new (.cells (c.app new) e false)):=Ext.new (hS.kill b) _ _;exact e1.trans e2
                        . refine ((hS.kill b).world (w':=w.drew) rfl rfl rfl rfl).new (x:= .cells (c.app new) e false) (o:= .cells cs e) (s:=cs.size) ⟨cs,rfl,rfl, ?_,fun q=>(by cases q),fun j u hj=> ?_⟩
                          . rw [(re new c).1,U3,<-hln,Xg,<-Nat.add_mul];exact Nat.mul_le_mul_right _ pT
                          . rw [Rh new c hcd]at hj;have iG:new.length=l'.length:=hl.1
                            by_cases Cf:c.n<=j/\j<c.n+new.length
                            . rw [if_pos Cf]at hj;obtain ⟨y2,hy2,Zx⟩:=hl.get hj;refine ⟨by rw [(re new c).1];omega,y2, ?_,Zx⟩;rw [qQ,Array.getElem?_append_left (by simp;omega),Array.getElem?_append_right (by simp;omega)];have:j -(c0.toList.take (l0*(zz+1))).toArray.size=j -c.n:=by simp;omega
                              rw [this];simpa using hy2
                            . rw [if_neg Cf]at hj;obtain ⟨M1,u',hu1,nQ⟩:=nT j u hj;refine ⟨by rw [(re new c).1];omega,u', ?_,nQ⟩;rw [qQ,Array.getElem?_append_left (by simp;omega),Array.getElem?_append_left (by simp;omega)];simp only [List.getElem?_toArray];rw [List.getElem?_take,if_pos (by omega)]
                              simpa using hu1
                  . cases h
         . rename_i k;cases hsv with
           |flat v h=>simp [ic]at h
           |xP b o b' s n z cc hb hz hnc=>
            split at h
            . rename_i q;rw [jd]at q;have q:=of_decide_eq_true q;have q:l0+kx<=k:=q;exact inPlace b o (some (k+2)) l0 b' s k c e' full hb hg rfl q (.xP b o b' s (l0+kx) _ k hb hz q) h
            . rename_i q;rw [jd]at q;have q:=of_decide_eq_false q;have q:¬(l0+kx<=k):=q;exact gL b o l0 b' s k c e' full hb hg rfl (by omega) d2 h
         . cases h
       . cases h
     . cases h
 . cases h
end
end Sk
end Go.Proofs.YtfnkmolffhfpoaaGreat
namespace Go.Proofs.YtfnkmolffhfpoaaGreat
namespace Sk
open Go.RowKit
variable[Interp]
section
variable{E:Env}(hE:Pb E){B:Nat->Prop}{w0:World}{R:Mp}{σ:AH}{w:World}(hS:Ic B w0 R σ w)
include hE hS
omit hE hS in
theorem WD{ts:List TypeId}{p:TypeId×Ti}(h:WH E ts=some p):∃t r i,ts=t::r/\E.ty t=some i/\i.ds= .sl p.1/\E.ty p.1=some p.2:=by
 unfold WH at h
 split at h
 . rename_i t r
   split at h
   . rename_i i hi
     split at h
     . rename_i e Zd
       split at h
       . rename_i ie Zj;cases h;exact ⟨t,r,i,rfl,hi,Zd,Zj⟩
       . cases h
     . cases h
   . cases h
 . cases h
omit hE hS in
theorem yq{P:Program}{w:World}{t ty e:TypeId}{i:TypeInfo}(ht:P.underlying t=some (.slice e))(hi:P.info? e=some i)(base a:Option Addr)(l c cx:Nat)(hlc:l<=c):
  (Builtin.append_ #[t,t] ty #[.slice base l c, .slice a 0 cx]).run P w= .ok (.slice base l c) w:=by
 have hl:∀(x:Addr),(loadCells x 0).run P w= .ok #[] w:=fun x=>by simpa using run_loadCells_list (P:=P) w x [] (by simp)
 cases base<;>cases a<;>simp [Builtin.append_,Qa w ht,Result.andThen,Vc w hi,Builtin.lenOf,hlc,Builtin.firstCells,hl,storeCells]
theorem pI{ty:TypeId}{ts:Array TypeId}{s x s' x' v:Value}{σ':AH}(hs:VR R s s')(hx:VR R x x')(h:JK E σ ts.toList s x=some (v,σ')):
  ∃R' v' w',Ext R σ R' σ'/\VR R' v v'/\Ic B w0 R' σ' w'/\(Builtin.append_ ts ty #[s',x']).run E.P w= .ok v' w':=by
 unfold JK at h
 split at h
 . rename_i t t' jQ;have Sam:ts=#[t,t']:=by apply Array.ext';simpa using jQ
   subst Sam
   split at h
   . rename_i p hp;obtain ⟨t0,r0,i,nK,hi,Zd,Zj⟩:=WD hp;cases nK;obtain ⟨e,ie⟩:=p;simp only at Zd Zj h;obtain ⟨ii,d,hT⟩:=hE.is hi;obtain ⟨ei,ed,lg⟩:=hE.is Zj;have hd:=hT.sl Zd;subst hd
     split at h
     . rename_i z zv hz O1
       split at h
       . rename_i c1 c2;rw [Ja,Pc]at c1;rw [jd]at c2;have c1:=of_decide_eq_true c1;have c2:=of_decide_eq_true c2
         split at h
         . rename_i V3;rw [Ja]at V3;have V3:=of_decide_eq_true V3;subst V3
           split at h
           . rename_i xa n xc
             split at h
             . split at h
               . rename_i sa sl sc;cases h;have e2:∃a c,x'= .slice a 0 c:=by cases hx<;>exact ⟨_,_,rfl⟩
                 obtain ⟨a,cx,rfl⟩:=e2;have e1:∃a c,s'= .slice a sl c/\sl<=c:=by
                  cases hs with
                  |flat v h=>exact ⟨sa,sc,rfl,by cases sa<;>cases sl<;>cases sc<;>simp_all [ic]⟩
                  |Fw b o b' s n z c' h hz hc hn=>exact ⟨_,_,rfl,hn⟩
                  |xP b o b' s n z c h hz hn=>exact ⟨_,_,rfl,hn⟩
                  |WH a c'=>exact ⟨_,_,rfl,Nat.zero_le _⟩
                  |QK a=>exact ⟨_,_,rfl,Nat.le_refl _⟩
                 obtain ⟨a1,c0,rfl,hle⟩:=e1;exact ⟨R,_,w,Ext.refl R σ,hs,hS,yq hT.Df lg.info a1 a sl c0 cx hle⟩
               . cases h
             . rename_i n
               split at h
               . rename_i l Cj hn;rw [jd]at hn;have hn:=of_decide_eq_true hn;obtain ⟨l',ad,k,c,rfl,q1,q2,q3,q4,q5,q6⟩:=bq hE hS hx (fun ad k c e=>by cases e;exact Nat.le_refl _) (Nat.succ_pos n) Cj;have hk:k=n+1:=by
                  cases hx with
                  |flat v h=>simp [ic]at h
                  |Fw b o b' s n z c' h hz hc hn=>rfl
                  |xP b o b' s n z c h hz hn=>rfl
                 exact Oy hE hS hi Zd Zj hz (by omega) O1 c1 c2 (Nat.succ_pos n) (by omega) hs rfl hk q3 q4 q5 q6 h
               . cases h
           . cases h
         . rename_i V3
           split at h
           . rename_i i' hi';obtain ⟨ii',d',hT'⟩:=hE.is hi'
             split at h
             . rename_i kx n BP;obtain ⟨kk,rfl⟩:∃kk,_=TypeDesc.int kk:=⟨_,hT'.it BP⟩
               split at h
               . rename_i hn;rw [jd]at hn;have hn:=of_decide_eq_true hn;obtain ⟨wB,pQ⟩:=lg.zero O1;have:=Yb hs rfl;subst this;have:=wc hx;subst this;have Py:zv.cells.size=z+1:=by rw [<-c1,Lc];simp
                 have oI:ei.size=z+1:=by rw [lg.size,hz]
                 have fL:ei.bytes<=65536:=by rw [lg.eq]at c2;exact c2
                 have h48:(n+1)*ei.bytes<=281474976710656:=by
                  have:(n+1)*ei.bytes<=65537*65536:=Nat.mul_le_mul (by omega) fL;omega
                 have hr:=Lib.run_append_nil_zeros (P:=E.P) w t t' ty e ei zv kx kk hT.Df hT'.Df lg.info wB (n+1) (by omega) (by omega) (by omega) h48;unfold Cw at h;rw [Qh,Uh]at h;cases h;have hlen:(qh (Ca zv) (n+1)).length=(n+1)*(z+1):=by rw [(Bj _ _).1,c1]
                 have hzz:(Builtin.zeroCells zv.cells (n+1))=(qh (Ca zv) (n+1)).toArray:=by
                  apply Array.ext';have:=Fg (n:=n+1) c1;rw [<-this];simp [Builtin.zeroCells,Py]
                 rw [hzz]at hr;obtain ⟨R',w',k1,k2,k3,k4⟩:=Wh hE hS (i:=ei) (e:=e) (Mi (R:=R) pQ (n+1)) (by omega) hlen Py (grownCap w (n+1) 0 e) (Nat.le_add_right _ _) w.drew rfl rfl rfl rfl _ rfl;refine ⟨R',_,w',k2,k3,k4, ?_⟩;rw [k1];exact hr
               . cases h
             . cases h
           . cases h
       . cases h
     . cases h
   . cases h
 . cases h
omit hS in
theorem Ry{ty t e:TypeId}{ts:Array TypeId}{ei:TypeInfo}(h0:ts[0]?=some t)(ht:E.P.underlying t=some (.slice e))(hi:E.P.info? e=some ei)(d:Addr)(dn dc:Nat)(a:Addr)(sn sc:Nat)(cs:List Value)(hl:cs.length=Nat.min sn dn*ei.size)
  (hc:∀(j:Nat) (v:Value),cs[j]?=some v->w.cell? (a.add j)=some v){w':World}(CD:(storeCells d cs).run E.P w= .ok () w'):
  (Builtin.copy_ ts ty #[.slice (some d) dn dc, .slice (some a) sn sc]).run E.P w= .ok (.int .i64 (Nat.min sn dn:Nat)) w':=by
 have hf:=run_firstCells_some (P:=E.P) w ei.size (Nat.min sn dn) a sn sc cs hl hc;simp [Builtin.copy_,h0,Qa w ht,Result.andThen,Vc w hi,Builtin.lenOf,hf,CD,goInt]
theorem XD{ty:TypeId}{ts:Array TypeId}{d s d' s' v:Value}{σ':AH}(hd:VR R d d')(hs:VR R s s')(h:ID E σ ts.toList d s=some (v,σ')):
  ∃R' v' w',Ext R σ R' σ'/\VR R' v v'/\Ic B w0 R' σ' w'/\(Builtin.copy_ ts ty #[d',s']).run E.P w= .ok v' w':=by
 unfold ID at h
 split at h
 . rename_i p da dn dz sa sn sz hp;obtain ⟨t0,r0,i,nK,hi,Zd,Zj⟩:=WD hp;obtain ⟨e,ie⟩:=p;simp only at Zd Zj h;obtain ⟨ii,dd,hT⟩:=hE.is hi;obtain ⟨ei,ed,lg⟩:=hE.is Zj;have hdd:=hT.sl Zd;subst hdd;have h0:ts[0]?=some t0:=by
    have:=congrArg (fun l=>l[0]?) nK
    simpa using this
   have e1:∃a c,d'= .slice a dn c:=by cases hd<;>exact ⟨_,_,rfl⟩
   have e2:∃a c,s'= .slice a sn c:=by cases hs<;>exact ⟨_,_,rfl⟩
   split at h
   . rename_i Cv;cases h;obtain ⟨a1,c1,rfl⟩:=e1;obtain ⟨a2,c2,rfl⟩:=e2;refine ⟨R,_,w,Ext.refl R σ, .flat _ rfl,hS, ?_⟩;have hl:∀(x:Addr),(loadCells x 0).run E.P w= .ok #[] w:=fun x=>by simpa using run_loadCells_list (P:=E.P) w x [] (by simp)
     have Cv:Nat.min sn dn=0:=Cv;cases a1<;>cases a2<;>simp [Builtin.copy_,h0,Qa w hT.Df,Result.andThen,Vc w lg.info,Builtin.lenOf,Cv,Builtin.firstCells,hl,storeCells,goInt]
   . rename_i n Cv;have Cv:Nat.min sn dn=n+1:=Cv
     split at h
     . rename_i l a Cj
       split at h
       . rename_i c e' full z hg hz;obtain ⟨l',ad,k,cx,rfl,q1,q2,q3,q4,q5,q6⟩:=bq hE hS hs (fun ad k c e=>by cases e;have:=Nat.min_le_left sn dn;have:min sn dn=n+1:=Cv;omega) (Nat.succ_pos n) Cj;obtain ⟨a2,c2,e2⟩:=e2;cases e2;have qT:0<dn:=by have:min sn dn=n+1:=Cv;have:=Nat.min_le_right sn dn;omega
         obtain ⟨b',s0,c',hb,rfl,jL,kK⟩:=Hi hd qT;have h2:=Ph _ _ _ _ _ h;rw [Wb]at h2;cases h2;rcases On _ _ _ _ _ h with Jl|Av
         . obtain ⟨w',k1,k2⟩:=Vh hE hS hb hg q3 q4 Jl;refine ⟨R,_,w',Ext.put R σ hb _, .flat _ rfl,k2, ?_⟩;have Xg:ei.size=z+1:=by rw [lg.size,hz]
           have:=Ry hE (ty:=ty) h0 hT.Df lg.info ⟨b',a.off,none⟩ dn c' ad sn cx l' (by rw [Cv,Xg];rw [q5,hz]) q6 k1;rw [Cv]at this;exact this
         . rw [Av]at q3;have:=q3.uc;rw [this,hz]at q5;have:=Nat.mul_pos (Nat.succ_pos n) (Nat.succ_pos z);simp at q5
       . cases h
     . cases h
 . cases h
theorem xB{ty:TypeId}{ts:Array TypeId}{d d' v:Value}{σ':AH}(hd:VR R d d')(h:py E σ ts.toList d=some (v,σ')):
  ∃R' v' w',Ext R σ R' σ'/\VR R' v v'/\Ic B w0 R' σ' w'/\(Builtin.clear_ ts ty #[d']).run E.P w= .ok v' w':=by
 unfold py at h
 split at h
 . rename_i p a n dz hp;obtain ⟨t0,r0,i,nK,hi,Zd,Zj⟩:=WD hp;obtain ⟨e,ie⟩:=p;simp only at Zd Zj h;obtain ⟨ii,dd,hT⟩:=hE.is hi;obtain ⟨ei,ed,lg⟩:=hE.is Zj;have hdd:=hT.sl Zd;subst hdd;have h0:ts[0]?=some t0:=by
    have:=congrArg (fun l=>l[0]?) nK
    simpa using this
   split at h
   . rename_i zv c e' full O1 hg
     split at h
     . rename_i z c1 c2 hz;rw [Ja,Pc,hz]at c1;have c1:=of_decide_eq_true c1;obtain ⟨wB,pQ⟩:=lg.zero O1;obtain ⟨b',s0,c',hb,rfl,jL,kK⟩:=Hi hd (Nat.succ_pos n);have h2:=Ph _ _ _ _ _ h;rw [Wb]at h2;cases h2;have Py:zv.cells.size=z+1:=by rw [Lc]at c1;simpa using c1
       have hzz:(Builtin.zeroCells zv.cells (n+1)).toList=qh (Ca zv) (n+1):=by
        have:=Fg (n:=n+1) c1;rw [<-this];simp [Builtin.zeroCells,Py]
       rcases On _ _ _ _ _ h with Jl|Av
       . obtain ⟨w',k1,k2⟩:=Vh hE hS hb hg (Mi (R:=R) pQ (n+1)) (tB c2 _) Jl;refine ⟨R,undef,w',Ext.put R σ hb _,Vd R,k2, ?_⟩;simp [Builtin.clear_,h0,Qa w hT.Df,Result.andThen,Qn w lg.info wB,hzz,k1,undef]
       . have:=congrArg List.length Av;rw [(Bj _ _).1,c1]at this;have:=Nat.mul_pos (Nat.succ_pos n) (Nat.succ_pos z);simp at*
     . cases h
   . cases h
 . cases h
end
end Sk
end Go.Proofs.YtfnkmolffhfpoaaGreat
