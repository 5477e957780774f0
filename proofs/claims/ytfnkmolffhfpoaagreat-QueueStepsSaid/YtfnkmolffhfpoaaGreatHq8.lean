/- -/
import Derived.Test.YtfnkmolffhfpoaaGreatHq7
import Derived.Laws.AppendOwn
import Derived.Lib.AppendZeros
import Derived.Lib.SliceRun
set_option linter.unusedVariables false
set_option linter.unusedSimpArgs false
set_option linter.unusedSectionVars false
namespace Go.Proofs.YtfnkmolffhfpoaaGreat
namespace Sk
open Go.RowKit
variable[Interp]
theorem U6{R:Mp}{v v':Value}(h:VR R v v')(h1:IL v=true):v'.oneCell'=true:=by
 cases h with
 |flat v h=>cases v<;>simp_all [yc,Value.oneCell']
 |agg=>simp [IL]at h1
 |LG=>simp [IL]at h1
 |sym t s l c v' hd=>rcases jJ (by rw [<-Df];exact hd)with⟨k,m,rfl⟩|⟨b,rfl⟩<;>rfl
 |_=>rfl
theorem xB{R:Mp}:∀{l l':List Value},LR R l l'->Im l=true->∀v∈l',v.oneCell'=true
 |[],l',h,_,v,hv=>by rw [h.Fc]at hv;cases hv
 |x::xs,l',h,h1,v,hv=>by
  obtain ⟨y,q,rfl,k1,k2⟩:=h.Ea;simp only [Im]at h1;cases hx:IL x with
  |false=>rw [hx]at h1;cases h1
  |true=>
   rw [hx]at h1;rcases List.mem_cons.1 hv with e|e
   . subst e;exact U6 k1 hx
   . exact xB k2 h1 v e
theorem xt:∀(l m:List Value),Im l=true->Im m=true->Im (l++m)=true
 |[],m,_,h=>h
 |x::xs,m,h,k=>by
  simp only [Im]at h;cases hx:IL x with
  |false=>rw [hx]at h;cases h
  |true=>rw [hx]at h;simp only [List.cons_append,Im,hx];exact xt xs m h k
theorem LD{l:List Value}(h:Im l=true):∀n,Im (mi l n)=true
 |0=>rfl
 |n+1=>xt _ _ h (LD h n)
def SO(B:Nat->Prop)(w0:World)(R:Mp)(σ:AH)(r:Result Next)(v:Value)(σ':AH):Prop:=
 ∃R' v' w',Ext R σ R' σ'/\VR R' v v'/\Vc B w0 R' σ' w'/\(r= .ok (.value v') w'\/(r= .ok .skip w'/\v'=undef))
section
variable{E:Env}(hE:Rb E){B:Nat->Prop}{w0:World}{R:Mp}{σ:AH}{w:World}(hS:Vc B w0 R σ w)
include hE hS
theorem Wi{b r s:Nat}(hb:R b=some (r,s)){c:Row}{e:TypeId}{full:Bool}(hg:σ.get b=some (.cells c e full)){p:Nat}{l l':List Value}(hl:LR R l l')(h1:Im l=true)(Ao:p+l.length<=c.n):
  ∃w',(storeCells ⟨r,p,none⟩ l').run E.P w= .ok () w'/\Vc B w0 R (σ.put b (some (.cells (c.Dh p l) e full))) w':=by
 obtain ⟨_,c',hc,hs,hn,hf,hv⟩:=hS.obj b r s _ hb hg;have hlen:=hl.1
 have pJ:p+l'.length<=c'.size:=by omega
 have hr:=run_storeCells_at E.P r p e l' 0 c' w hc (by simpa using pJ) (xB hl h1);simp only [Nat.add_zero]at hr;refine ⟨_,hr,hS.RO hb (by rw [hg];simp) ?_ (fun k hk=>setRow_other w r k _ hk) (setRow_size _ _ _) rfl rfl rfl⟩;refine ⟨(c'.toList.take p++l'++c'.toList.drop (p+l'.length)).toArray,setRow_heap w r c' _ e (0,0) hc, ?_, ?_, ?_,fun i v hi=> ?_⟩
 . simp;omega
 . rw [(tl l c p).1];exact hn
 . rw [(tl l c p).1];exact hf
 . rw [mB]at hi;by_cases ag:p<=i/\i<p+l.length
   . rw [if_pos ag]at hi;obtain ⟨y,hy,hr⟩:=hl.get hi;refine ⟨by rw [(tl l c p).1];omega,y, ?_,hr⟩;simp only [List.getElem?_toArray];rw [List.append_assoc,List.getElem?_append_right (by simp;omega),List.getElem?_append_left (by simp;omega)];have:i -(c'.toList.take p).length=i -p:=by simp;omega
     rw [this];exact hy
   . rw [if_neg ag]at hi;obtain ⟨bau,v',V6,hr⟩:=hv i v hi;refine ⟨by rw [(tl l c p).1];exact bau,v', ?_,hr⟩;simp only [List.getElem?_toArray];by_cases hip:i<p
     . rw [List.append_assoc,List.getElem?_append_left (by simp;have:=(Array.getElem?_eq_some_iff.1 V6).1;omega),List.getElem?_take,if_pos hip]
       simpa using V6
     . rw [List.getElem?_append_right (by simp;omega),List.getElem?_drop];have:p+l'.length+(i -(c'.toList.take p++l').length)=i:=by simp;omega
       rw [this]
       simpa using V6
theorem MD{ty:TypeId}{i:Ti}(hi:E.ty ty=some i){u v u' v' x:Value}{σ':AH}(hu:VR R u u')(hv:VR R v v')(h:dB σ i.size u v=some (x,σ')):
  ∃w',(Instr.storeAt ty u' v').run E.P w= .ok () w'/\x=undef/\Ext R σ R σ'/\Vc B w0 R σ' w':=by
 obtain ⟨ii,d,hT⟩:=hE.is hi;unfold dB at h
 split at h
 . rename_i b p;obtain ⟨r,s,hb,rfl⟩:=Wg hu
   split at h
   . rename_i c e full hg
     split at h
     . rename_i c1 c2;rw [Na,cd]at c1;have c1:=of_decide_eq_true c1;have hl:=Ek hv;have Vh:v'.cells.size=ii.size:=by rw [hT.size,<-c1,hl.1,Xc];simp
       have Aq:v'.cells.toList=Ja v':=(Xc v').symm
       have h0:=Ri _ _ _ _ _ h;rw [ic]at h0;cases h0;rcases qq _ _ _ _ _ h with Ao|zy
       . obtain ⟨w',k1,k2⟩:=Wi hE hS hb hg hl c2 Ao;refine ⟨w', ?_,rfl,Ext.put R σ hb _,k2⟩;simp [Instr.storeAt,Instr.sureAddr,storeVar,Result.andThen,od w hT.info,Vh,Aq,k1]
       . have ead:Ja v'=[]:=by rw [zy]at hl;exact hl.Fc
         refine ⟨w, ?_,rfl,Ext.put R σ hb _, ?_⟩
         . have qaF:ii.size=0:=by rw [hT.size,<-c1,zy];rfl
           simp [Instr.storeAt,Instr.sureAddr,storeVar,Result.andThen,od w hT.info,Vh,Aq,ead,storeCells]
         . rw [zy];exact hS.RO hb (by rw [hg];simp) (hS.obj b r s _ hb hg).2 (fun _ _=>rfl) rfl rfl rfl rfl
     . cases h
   . cases h
 . cases h
theorem zt{x x':Value}{z m:Nat}{l:List Value}(hx:VR R x x')(hn:∀ad k c,x= .slice ad k c->m<=k)(hm:0<m)(h:rowOf σ x z m=some l):
  ∃(l':List Value) (ad:Addr) (k c:Nat),x'= .slice (some ad) k c/\m<=k/\k<=c/\LR R l l'/\Im l=true/\l'.length=m*z/\∀(j:Nat) (v:Value),l'[j]?=some v->w.cell? (ad.add j)=some v:=by
 unfold rowOf at h
 split at h
 . rename_i ad k c;have hmk:=hn _ _ _ rfl
   split at h
   . rename_i c0 e full hg
     split at h
     . rename_i q hf
       split at h
       . rename_i h1;cases h;obtain ⟨b',s,c',hb,rfl,h2,_⟩:=Qm hx (by omega);obtain ⟨l',k1,k2,k3⟩:=TG hE hS hb hg hf;exact ⟨l',_,_,_,rfl,hmk,h2,k1,h1,k2,k3⟩
       . cases h
     . cases h
   . cases h
 . cases h
theorem Xi{z n e:Nat}{i:TypeInfo}{zv:Value}{l l':List Value}(hl:LR R l l')(hz:1<=z)(hlen:l'.length=n*z)(SU:zv.cells.size=z)(cap:Nat)(Dv:n<=cap)(w1:World)(hw:w1.heap=w.heap)(q1:w1.os=w.os)(q2:w1.tape=w.tape)(q3:w1.output=w.output)(cs:Array Value)
  (Ev:cs=l'.toArray++Builtin.zeroCells zv.cells (cap -n)):∃R' w',w'=w1.alloc (.cells cs e)/\Ext R σ R' (σ.new (.cells (Row.nil.app l) e false))/\VR R' (.slice (some ⟨σ.next,0,none⟩) n z) (.slice (some ⟨w.heap.size,0,none⟩) n cap)/\Vc B w0 R' (σ.new (.cells (Row.nil.app l) e false)) w':=by
 have Vh:cs.size=cap*z:=by
  rw [Ev];simp only [Array.size_append,size_zeroCells,List.size_toArray,hlen,SU];rw [<-Nat.add_mul];congr 1;omega
 refine ⟨R.set σ.next (w.heap.size,cs.size),_,rfl,Ext.new hS _ _, .ly _ 0 _ _ n z cap (Mp.pd R _ _) hz (by rw [Vh];omega) Dv, ?_⟩;have:=(hS.world hw q1 q2 q3).new (x:= .cells (Row.nil.app l) e false) (o:= .cells cs e) (s:=cs.size) ?_
 . rw [hw]at this;exact this
 . refine ⟨cs,rfl,rfl, ?_,fun h=>by simp at h,fun j v hv=> ?_⟩
   . rw [(De l Row.nil).1,hl.1,hlen,Vh];simp [Row.nil];exact Nat.mul_le_mul_right z Dv
   . rw [Ui l Row.nil rfl]at hv
     split at hv
     . have hv:l[j]?=some v:=by simpa [Row.nil]using hv
       obtain ⟨y,hy,hr⟩:=hl.get hv;refine ⟨by rw [(De l Row.nil).1];have:=(List.getElem?_eq_some_iff.1 hv).1;simp [Row.nil];omega,y, ?_,hr⟩;rw [Ev,Array.getElem?_append_left (by simpa using(List.getElem?_eq_some_iff.1 hy).1)]
       simpa using hy
     . simp [Row.nil,Qi,Tr.get_nil]at hv
omit hE hS in
theorem ND(l m:List Value):∀r:Row,(r.app l).app m=r.app (l++m):=by
 induction l with
 |nil=>intro r;rfl
 |cons x l ih=>intro r;simp only [Row.app,List.cons_append];exact ih _
omit hE hS in
theorem Po{P:Program}{w w':World}{t ty e:TypeId}{i:TypeInfo}(ht:P.underlying t=some (.slice e))(hi:P.info? e=some i)(g o OD TO:Nat)
  (a:Addr)(m c:Nat)(news:List Value)(hl:news.length=m*i.size)(UO:∀j u,news[j]?=some u->w.cell? (a.add j)=some u)(vg:OD+m<=TO)
  (bo:(storeCells ⟨g,o+OD*i.size,none⟩ news).run P w= .ok () w'):
  (Builtin.append_ #[t,t] ty #[.slice (some ⟨g,o,none⟩) OD TO, .slice (some a) m c]).run P w= .ok (.slice (some ⟨g,o,none⟩) (OD+m) TO) w':=by
 have hf:=run_firstCells_some (P:=P) w i.size m a m c news hl UO;simp [Builtin.append_,Sa w ht,Result.andThen,od w hi,Builtin.lenOf,vg,hf,Sm,bo]
theorem yB{t ty e:TypeId}{i ie:Ti}(hi:E.ty t=some i)(ye:i.ds= .sl e)(Gm:E.ty e=some ie){z:Nat}(hz:ie.size=z)(Kh:1<=z){zv:Value}(hzv:ie.zero=some zv)(SU:(Ja zv).length=z)(RU:ie.bytes<=65536)
  {sv VO v:Value}{new:List Value}{σ':AH}{n:Nat}(hn:0<n)(W6:n<=65537){xv':Value}(hsv:VR R sv VO){l':List Value}{ad:Addr}{kx cx:Nat}(hx:xv'= .slice (some ad) kx cx)(hkx:kx=n)(hl:LR R new l')(h1:Im new=true)(oJ:l'.length=n*z)
  (hc:∀(j:Nat) (v:Value),l'[j]?=some v->w.cell? (ad.add j)=some v)(h:gv E σ e z sv new n=some (v,σ')):
  ∃R' v' w',Ext R σ R' σ'/\VR R' v v'/\Vc B w0 R' σ' w'/\(Builtin.append_ #[t,t] ty #[VO,xv']).run E.P w= .ok v' w':=by
 obtain ⟨ii,d,hT⟩:=hE.is hi;obtain ⟨ei,ed,Og⟩:=hE.is Gm;have:=hT.sl ye;subst this;obtain ⟨PD,TU⟩:=Og.zero hzv;have aM:ei.size=z:=by rw [Og.size,hz]
 have WO:ei.bytes<=65536:=by rw [Og.eq]at RU;exact RU
 have zB:zv.cells.size=z:=by rw [<-SU,Xc];simp
 subst hx;subst hkx;have WG:l'.length=kx*ei.size:=by rw [aM];exact oJ
 have none_:∀(b:Nat),mz σ e kx z new=some (v,σ')->(VO= .slice none 0 0\/∃a0,VO= .slice (some a0) 0 0)->∃R' v' w',Ext R σ R' σ'/\VR R' v v'/\Vc B w0 R' σ' w'/\(Builtin.append_ #[t,t] ty #[VO, .slice (some ad) kx cx]).run E.P w= .ok v' w':=fun _ h hs=>by
  unfold mz at h;rw [Si,Vi]at h;cases h;have h48:kx*ei.bytes<=281474976710656:=by
   have:kx*ei.bytes<=65537*65536:=Nat.mul_le_mul W6 WO;omega
  have Dv:∀o,kx<=grownCap w kx o e:=fun o=>Nat.le_add_right kx _
  rcases hs with rfl|⟨a0,rfl⟩
  . have hr:=run_append_nil (P:=E.P) w t ty e ei zv hT.Sf Og.info PD ad kx cx l' WG hc hn (by omega) h48;obtain ⟨R',w',k1,k2,k3,k4⟩:=Xi hE hS (i:=ei) (e:=e) hl Kh oJ zB (grownCap w kx 0 e) (Dv 0) w.drew rfl rfl rfl rfl _ rfl;exact ⟨R',_,w',k2,k3,k4,by rw [hr,k1]⟩
  . have Ao:Builtin.nextslicecap (0+kx) 0*ei.bytes<=281474976710656:=by rw [Nat.zero_add,nextslicecap_zero hn];exact h48
    have hr:=run_append_grow (P:=E.P) w t ty e ei zv hT.Sf Og.info PD a0 0 0 [] (by simp) (fun j v hj=>by simp at hj) ad kx cx l' WG hc (by omega) (by omega) Ao;simp only [Nat.zero_add]at hr;obtain ⟨R',w',k1,k2,k3,k4⟩:=Xi hE hS (i:=ei) (e:=e) hl Kh oJ zB (grownCap w kx 0 e) (Dv 0) w.drew rfl rfl rfl rfl _ rfl;refine ⟨R',_,w',k2,k3,k4, ?_⟩;rw [hr,k1];simp
 have inPlace:∀(b o:Nat) (sp:Option Nat) (l0 b' s cap:Nat) (c:Row) (e':TypeId) (full:Bool),R b=some (b',s)->σ.get b=some (.cells c e' full)->VO= .slice (some ⟨b',o,none⟩) l0 cap->l0+kx<=cap->
   VR R (.slice (some ⟨b,o,sp⟩) (l0+kx) z) (.slice (some ⟨b',o,none⟩) (l0+kx) cap)->Tn σ b o c e' full l0 kx z sp new=some (v,σ')->
   ∃R' v' w',Ext R σ R' σ'/\VR R' v v'/\Vc B w0 R' σ' w'/\(Builtin.append_ #[t,t] ty #[VO, .slice (some ad) kx cx]).run E.P w= .ok v' w':=fun b o sp l0 b' s cap c e' full hb hg hs vg hvr h=>by
  unfold Tn at h;have h0:=Ri _ _ _ _ _ h;rw [ic]at h0;cases h0;have bc:new≠[]:=fun q=>by
   rw [q]at hl;have:=hl.Fc;rw [this]at oJ;have:=Nat.mul_pos hn Kh;simp at oJ;omega
  rcases qq _ _ _ _ _ h with Ao|zy
  . obtain ⟨w',k1,k2⟩:=Wi hE hS hb hg hl h1 Ao;refine ⟨R,_,w',Ext.put R σ hb _,hvr,k2, ?_⟩;rw [hs];refine Po hT.Sf Og.info b' o l0 cap ad kx cx l' WG hc vg ?_
    rw [aM];exact k1
  . exact absurd zy bc
 have grown:∀(b o:Nat) (l0 b' s cap:Nat) (c:Row) (e':TypeId) (full:Bool),R b=some (b',s)->σ.get b=some (.cells c e' full)->VO= .slice (some ⟨b',o,none⟩) l0 cap->cap<l0+kx->l0<=1000000->
   ∀old,c.from o (l0*z)=some old->
   ∃R' v' w',Ext R σ R' (σ.new (.cells (Row.nil.app (old++new)) e false))/\VR R' (.slice (some ⟨σ.next,0,none⟩) (l0+kx) z) v'/\Vc B w0 R' (σ.new (.cells (Row.nil.app (old++new)) e false)) w'/\(Builtin.append_ #[t,t] ty #[VO, .slice (some ad) kx cx]).run E.P w= .ok v' w':=fun b o l0 b' s cap c e' full hb hg hs Hr Oo old hold=>by
  obtain ⟨fad,o1,o2,o3⟩:=TG hE hS hb hg hold;have gad:l0+kx<=1065537:=by omega
  have Ao:Builtin.nextslicecap (l0+kx) cap*ei.bytes<=281474976710656:=by
   have:=nextslicecap_le Hr;have:Builtin.nextslicecap (l0+kx) cap*ei.bytes<=(2*1065537)*65536:=Nat.mul_le_mul (by omega) WO;omega
  have hr:=run_append_grow (P:=E.P) w t ty e ei zv hT.Sf Og.info PD ⟨b',o,none⟩ l0 cap fad (by rw [aM];exact o2) o3 ad kx cx l' WG hc Hr (by omega) Ao;have hlen:(fad++l').length=(l0+kx)*z:=by rw [List.length_append,o2,oJ,Nat.add_mul]
  obtain ⟨R',w',k1,k2,k3,k4⟩:=Xi hE hS (i:=ei) (e:=e) (LR.append o1 hl) Kh hlen zB (grownCap w (l0+kx) cap e) (Nat.le_add_right _ _) w.drew rfl rfl rfl rfl _ rfl;refine ⟨R',_,w',k2,k3,k4, ?_⟩;rw [hs,hr,k1]
  congr 3
  apply Array.ext';simp
 have XO:∀(b o:Nat) (l0 b' s cap:Nat) (c:Row) (e':TypeId) (full:Bool),R b=some (b',s)->σ.get b=some (.cells c e' full)->VO= .slice (some ⟨b',o,none⟩) l0 cap->cap<l0+kx->l0<=1000000->Au σ e o c l0 kx z new=some (v,σ')->
   ∃R' v' w',Ext R σ R' σ'/\VR R' v v'/\Vc B w0 R' σ' w'/\(Builtin.append_ #[t,t] ty #[VO, .slice (some ad) kx cx]).run E.P w= .ok v' w':=fun b o l0 b' s cap c e' full hb hg hs Hr Oo h=>by
  unfold Au at h
  split at h
  . cases h
  . rename_i old hold;rw [Si,Si,ND,Vi]at h;cases h;exact grown b o l0 b' s cap c e' full hb hg hs Hr Oo old hold
 unfold gv at h
 split at h
 . exact none_ 0 h (.inl (mc hsv rfl))
 . rename_i b o sp l0 zz
   split at h
   . split at h
     . cases hsv with
       |flat v h=>simp [yc]at h
       |ly b o b' s n z c' h hz hc hn=>omega
       |ML a0=>exact none_ 0 h (.inr ⟨a0,rfl⟩)
     . cases h
   . rename_i zz
     split at h
     . rename_i c e' full hg
       split at h
       . rename_i d1 d2;rw [Na]at d1;rw [yd]at d2;have d1:=of_decide_eq_true d1;have d2:=of_decide_eq_true d2;subst d1
         split at h
         . --a slice OaC end is open
           cases hsv with
           |flat v h=>simp [yc]at h
           |ly b o b' s n z c' hb hz Ev hnc=>
            obtain ⟨_,c0,mU,hs0,KD,hf0,YO⟩:=hS.obj b b' s _ hb hg
            split at h
            . rename_i q;rw [yd]at q;have q:=of_decide_eq_true q;have q:o+(l0+kx)*(zz+1)<=c.n:=q;have vg:l0+kx<=c':=by
               have:(l0+kx)*(zz+1)<=c'*(zz+1):=by
                have:=Ev;simp only [Nat.succ_eq_add_one]at this;omega
               exact Nat.le_of_mul_le_mul_right this (by omega)
              exact inPlace b o none l0 b' s c' c e' full hb hg rfl vg (.ly b o b' s (l0+kx) _ c' hb hz Ev vg) h
            . split at h
              . cases h
              . rename_i q;rw [Na]at q;have q:=of_decide_eq_true q;have q:o+l0*(zz+1)=c.n:=q
                split at h
                . --nothing behind it
                  have hsn:c.n=s:=hf0 rfl;have Aq:c'=l0:=by
                   have:c'*(zz+1)=l0*(zz+1):=by
                    have:=Ev;simp only [Nat.succ_eq_add_one]at this;omega
                   exact Nat.eq_of_mul_eq_mul_right (by omega) this
                  exact XO b o l0 b' s c' c e' _ hb hg rfl (by omega) d2 h
                . split at h
                  . have qe:Nat.beq e e'=true:=by assumption
                    rw [Na]at qe;have qe:=of_decide_eq_true qe;subst qe
                    split at h
                    . cases h
                    . rename_i hcd;rw [Si,ic,Vi]at h;cases h;have X6:c'*(zz+1)=s:=by simpa using Ev
                      have hln:l0*(zz+1)=c.n:=by simpa using q
                      have had:new.length=kx*(zz+1):=by rw [hl.1,oJ]
                      by_cases vg:l0+kx<=c'
                      . --in place:the Eas new name
                        have Ao:l0*(zz+1)+l'.length<=c0.size:=by
                         rw [oJ,hs0,<-X6,<-Nat.add_mul];exact Nat.mul_le_mul_right _ vg
                        have bo:=run_storeCells_at E.P b' (l0*(zz+1)) e l' 0 c0 w mU (by simpa using Ao) (xB hl h1);simp only [Nat.add_zero]at bo;have T6:=Po (P:=E.P) hT.Sf Og.info (ty:=ty) b' 0 l0 c' ad kx cx l' WG hc vg (w':=w.setRow b' (c0.toList.take (l0*(zz+1))++l'++c0.toList.drop (l0*(zz+1)+l'.length)).toArray) (by rw [Nat.zero_add,aM];exact bo);refine ⟨R.set σ.next (b',s),_,_, ?_, .ly _ 0 b' s (l0+kx) _ c' (Mp.pd R _ _) (by omega) (by simpa using X6) vg, ?_,T6⟩
                        . have e1:=Ext.put R σ hb none;have e2:Ext R (σ.put b none) (R.set σ.next (b',s)) ((σ.put b none).new (.cells (c.app new) e false)):=Ext.new (hS.kill b) _ _;exact e1.trans e2
                        . have hSk:=hS.kill b;have bc:b≠σ.next:=by have:=hS.DD b _ hb;omega
                          have hle:R.le (R.set σ.next (b',s)):=Mp.vB (hS.ao (Nat.le_refl _));have hB:B b':=(hS.obj b b' s _ hb hg).1
                          have dau:b'<w.heap.size:=hS.lt b b' s hb;have Mi:=setRow_heap w b' c0 (c0.toList.take (l0*(zz+1))++l'++c0.toList.drop (l0*(zz+1)+l'.length)).toArray e (0,0) mU
                          have ZO:∀c2 s2,R c2=some (b',s2)->(σ.put b none).get c2=none:=fun c2 s2 e2=>by
                           rw [tb];by_cases QO:c2=b
                           . rw [if_pos QO]
                           . rw [if_neg QO];rcases hS.inj c2 b b' s2 s e2 hb QO with k|k
                             . exact k
                             . rw [hg]at k;cases k
                          refine ⟨fun c2 y e2=> ?_,fun c2 r2 s2 e2=> ?_,fun c2 r2 s2 y e2 g2=> ?_,fun b1 b2 r2 s1 s2 e1 e2 Fq=> ?_, ?_,hS.base, ?_⟩
                          . by_cases pJ:c2=σ.next
                            . subst pJ;simp
                            . rw [Mp.Re pJ]at e2;have:=hS.DD c2 y e2;simp;omega
                          . rw [setRow_size];by_cases pJ:c2=σ.next
                            . subst pJ;rw [Mp.pd]at e2;cases e2;exact dau
                            . rw [Mp.Re pJ]at e2;exact hS.lt c2 r2 s2 e2
                          . rw [Gc]at g2;by_cases pJ:c2=σ.next
                            . subst pJ;rw [Mp.pd]at e2;cases e2;simp at g2;subst g2;refine ⟨hB, ?_⟩;rw [Mi];refine ⟨_,rfl, ?_, ?_,fun q=>(by cases q),fun j u hj=> ?_⟩
                              . simp;omega
                              . rw [(De new c).1,had,<-hln,<-X6,<-Nat.add_mul];exact Nat.mul_le_mul_right _ vg
                              . rw [Ui new c hcd]at hj;by_cases ag:c.n<=j/\j<c.n+new.length
                                . rw [if_pos ag]at hj;obtain ⟨y2,hy2,Ay⟩:=hl.get hj;refine ⟨by rw [(De new c).1];omega,y2, ?_,Ay.mono hle⟩;simp only [List.getElem?_toArray];rw [List.append_assoc,List.getElem?_append_right (by simp;omega),List.getElem?_append_left (by simp;have:=hl.1;omega)];have:j -(c0.toList.take (l0*(zz+1))).length=j -c.n:=by simp;omega
                                  rw [this];exact hy2
                                . rw [if_neg ag]at hj;obtain ⟨hjn,u',hu1,QU⟩:=YO j u hj;refine ⟨by rw [(De new c).1];omega,u', ?_,QU.mono hle⟩;simp only [List.getElem?_toArray];rw [List.append_assoc,List.getElem?_append_left (by simp;omega),List.getElem?_take,if_pos (by omega)]
                                  simpa using hu1
                            . rw [Mp.Re pJ]at e2;rw [if_neg (by simpa using pJ)]at g2;have Ay:r2≠b':=fun q=>by subst q;rw [ZO c2 s2 e2]at g2;cases g2
                              obtain ⟨k1,k2⟩:=hSk.obj c2 r2 s2 y e2 g2;exact ⟨k1,by rw [setRow_other w b' r2 _ Ay];exact k2.mono hle⟩
                          . rw [Gc,Gc];by_cases Fv:b1=σ.next
                            . subst Fv;rw [Mp.pd]at e1;cases e1;rw [Mp.Re (Ne.symm Fq)]at e2;right;rw [if_neg (by simpa using Ne.symm Fq)];exact ZO b2 s2 e2
                            . rw [Mp.Re Fv]at e1;rw [if_neg (by simpa using Fv)];by_cases Zp:b2=σ.next
                              . subst Zp;rw [Mp.pd]at e2;cases e2;left;exact ZO b1 s1 e1
                              . rw [Mp.Re Zp]at e2;rw [if_neg (by simpa using Zp)];exact hSk.inj b1 b2 r2 s1 s2 e1 e2 Fq
                          . exact ⟨hS.below.os,hS.below.tape,hS.below.output,by rw [setRow_size];exact hS.below.size,fun k hk ht=>by rw [setRow_other w b' k _ (fun e=>by subst e;exact ht hB)];exact hS.below.block k hk ht⟩
                          . obtain ⟨O,hO⟩:=hS.kO;refine ⟨O,fun c2 r2 s2 e i1 i2=> ?_⟩;rw [Gc]at i2;have pJ:c2≠σ.next:=fun k=>by
                             subst k;rw [if_pos (by simp)]at i2;cases i2
                            rw [if_neg (by simpa using pJ),tb]at i2;have QO:c2≠b:=fun k=>by
                             subst k;rw [if_pos rfl]at i2;cases i2
                            rw [if_neg QO]at i2;rw [Mp.Re pJ]at i1;obtain ⟨⟨g,k1,k2⟩,k3,k4⟩:=hO c2 r2 s2 e i1 i2;have hr:¬O c2 b':=(k4 b b' s _ (Ne.symm QO) hb hg).1
                            refine ⟨⟨g,k1,Interp.gh_keep _ _ _ _ _ k2 (by rw [setRow_size];exact Nat.le_refl _) fun k hk=>setRow_other w b' k _ fun q=>by subst q;exact hr hk⟩,k3,fun b2 r3 s3 o2 Fq i3 i4=> ?_⟩;rw [Gc]at i4;by_cases nU:b2=σ.next
                            . subst nU;rw [Mp.pd]at i3;cases i3;rw [if_pos (by simp)]at i4;cases i4;exact ⟨hr,fun e2 he=>by cases he⟩
                            . rw [if_neg (by simpa using nU),tb]at i4;rw [Mp.Re nU]at i3;by_cases ED:b2=b
                              . rw [if_pos ED]at i4;cases i4
                              . rw [if_neg ED]at i4;exact k4 b2 r3 s3 o2 Fq i3 i4
                      . --iac;the old one is not looked at again
                        have gad:l0+kx<=1065537:=by omega
                        have Ao:Builtin.nextslicecap (l0+kx) c'*ei.bytes<=281474976710656:=by
                         have:=nextslicecap_le (need:=l0+kx) (old:=c') (by omega);have:Builtin.nextslicecap (l0+kx) c'*ei.bytes<=(2*1065537)*65536:=Nat.mul_le_mul (by omega) WO;omega
                        have mX:(c0.toList.take (l0*(zz+1))).length=l0*(zz+1):=by simp;omega
                        have hr:=run_append_grow (P:=E.P) w t ty e ei zv hT.Sf Og.info PD ⟨b',0,none⟩ l0 c' (c0.toList.take (l0*(zz+1))) (by rw [aM];exact mX) (fun j u hj=>by
                         rw [Sm,Nat.zero_add];rw [List.getElem?_take]at hj
                         split at hj
                         . simp [World.cell?,mU];simpa using hj
                         . cases hj) ad kx cx l' WG hc (by omega) (by omega) Ao
                        obtain ⟨cap,Dv⟩:∃cap,cap=grownCap w (l0+kx) c' e:=⟨_,rfl⟩;have nX:l0+kx<=cap:=by rw [Dv];exact Nat.le_add_right _ _
                        rw [<-Dv]at hr;obtain ⟨cs,UU⟩:∃cs,cs=(c0.toList.take (l0*(zz+1))).toArray++l'.toArray++Builtin.zeroCells zv.cells (cap -(l0+kx)):=⟨_,rfl⟩
                        rw [<-UU]at hr;have Vh:cs.size=cap*(zz+1):=by
                         rw [UU];simp only [Array.size_append,size_zeroCells,List.size_toArray,mX,oJ,zB];rw [<-Nat.add_mul,<-Nat.add_mul];congr 1;omega
                        refine ⟨R.set σ.next (w.heap.size,cs.size),_,_, ?_, .ly _ 0 _ _ (l0+kx) _ cap (Mp.pd R _ _) (by omega) (by rw [Vh];rfl) nX, ?_,hr⟩
                        . have e1:=Ext.put R σ hb none;have e2:Ext R (σ.put b none) (R.set σ.next (w.heap.size,cs.size)) ((σ.put b none).new (.cells (c.app new) e false)):=Ext.new (hS.kill b) _ _;exact e1.trans e2
                        . refine ((hS.kill b).world (w':=w.drew) rfl rfl rfl rfl).new (x:= .cells (c.app new) e false) (o:= .cells cs e) (s:=cs.size) ⟨cs,rfl,rfl, ?_,fun q=>(by cases q),fun j u hj=> ?_⟩
                          . rw [(De new c).1,had,<-hln,Vh,<-Nat.add_mul];exact Nat.mul_le_mul_right _ nX
                          . rw [Ui new c hcd]at hj;have zG:new.length=l'.length:=hl.1
                            by_cases ag:c.n<=j/\j<c.n+new.length
                            . rw [if_pos ag]at hj;obtain ⟨y2,hy2,Ay⟩:=hl.get hj;refine ⟨by rw [(De new c).1];omega,y2, ?_,Ay⟩;rw [UU,Array.getElem?_append_left (by simp;omega),Array.getElem?_append_right (by simp;omega)];have:j -(c0.toList.take (l0*(zz+1))).toArray.size=j -c.n:=by simp;omega
                              rw [this];simpa using hy2
                            . rw [if_neg ag]at hj;obtain ⟨hjn,u',hu1,QU⟩:=YO j u hj;refine ⟨by rw [(De new c).1];omega,u', ?_,QU⟩;rw [UU,Array.getElem?_append_left (by simp;omega),Array.getElem?_append_left (by simp;omega)];simp only [List.getElem?_toArray];rw [List.getElem?_take,if_pos (by omega)]
                              simpa using hu1
                  . cases h
         . rename_i k;cases hsv with
           |flat v h=>simp [yc]at h
           |iO b o b' s n z cc hb hz hnc=>
            split at h
            . rename_i q;rw [yd]at q;have q:=of_decide_eq_true q;have q:l0+kx<=k:=q;exact inPlace b o (some (k+2)) l0 b' s k c e' full hb hg rfl q (.iO b o b' s (l0+kx) _ k hb hz q) h
            . rename_i q;rw [yd]at q;have q:=of_decide_eq_false q;have q:¬(l0+kx<=k):=q;exact XO b o l0 b' s k c e' full hb hg rfl (by omega) d2 h
         . cases h
       . cases h
     . cases h
 . cases h
end
end Sk
end Go.Proofs.YtfnkmolffhfpoaaGreat
namespace Go.Proofs.YtfnkmolffhfpoaaGreat
namespace Sk
open Go.RowKit
variable[Interp]
section
variable{E:Env}(hE:Rb E){B:Nat->Prop}{w0:World}{R:Mp}{σ:AH}{w:World}(hS:Vc B w0 R σ w)
include hE hS
omit hE hS in
theorem XG{ts:List TypeId}{p:TypeId×Ti}(h:FG E ts=some p):∃t r i,ts=t::r/\E.ty t=some i/\i.ds= .sl p.1/\E.ty p.1=some p.2:=by
 unfold FG at h
 split at h
 . rename_i t r
   split at h
   . rename_i i hi
     split at h
     . rename_i e ye
       split at h
       . rename_i ie Gm;cases h;exact ⟨t,r,i,rfl,hi,ye,Gm⟩
       . cases h
     . cases h
   . cases h
 . cases h
omit hE hS in
theorem iu{P:Program}{w:World}{t ty e:TypeId}{i:TypeInfo}(ht:P.underlying t=some (.slice e))(hi:P.info? e=some i)(base a:Option Addr)(l c cx:Nat)(hlc:l<=c):
  (Builtin.append_ #[t,t] ty #[.slice base l c, .slice a 0 cx]).run P w= .ok (.slice base l c) w:=by
 have hl:∀(x:Addr),(loadCells x 0).run P w= .ok #[] w:=fun x=>by simpa using run_loadCells_list (P:=P) w x [] (by simp)
 cases base<;>cases a<;>simp [Builtin.append_,Sa w ht,Result.andThen,od w hi,Builtin.lenOf,hlc,Builtin.firstCells,hl,storeCells]
theorem bM{ty:TypeId}{ts:Array TypeId}{s x s' x' v:Value}{σ':AH}(hs:VR R s s')(hx:VR R x x')(h:zO E σ ts.toList s x=some (v,σ')):
  ∃R' v' w',Ext R σ R' σ'/\VR R' v v'/\Vc B w0 R' σ' w'/\(Builtin.append_ ts ty #[s',x']).run E.P w= .ok v' w':=by
 unfold zO at h
 split at h
 . rename_i t t' MU;have fau:ts=#[t,t']:=by apply Array.ext';simpa using MU
   subst fau
   split at h
   . rename_i p hp;obtain ⟨t0,r0,i,lO,hi,ye,Gm⟩:=XG hp;cases lO;obtain ⟨e,ie⟩:=p;simp only at ye Gm h;obtain ⟨ii,d,hT⟩:=hE.is hi;obtain ⟨ei,ed,Og⟩:=hE.is Gm;have hd:=hT.sl ye;subst hd
     split at h
     . rename_i z zv hz hzv
       split at h
       . rename_i c1 c2;rw [Na,cd]at c1;rw [yd]at c2;have c1:=of_decide_eq_true c1;have c2:=of_decide_eq_true c2
         split at h
         . rename_i htt;rw [Na]at htt;have htt:=of_decide_eq_true htt;subst htt
           split at h
           . rename_i xa n xc
             split at h
             . split at h
               . rename_i sa sl sc;cases h;have e2:∃a c,x'= .slice a 0 c:=by cases hx<;>exact ⟨_,_,rfl⟩
                 obtain ⟨a,cx,rfl⟩:=e2;have e1:∃a c,s'= .slice a sl c/\sl<=c:=by
                  cases hs with
                  |flat v h=>exact ⟨sa,sc,rfl,by cases sa<;>cases sl<;>cases sc<;>simp_all [yc]⟩
                  |ly b o b' s n z c' h hz hc hn=>exact ⟨_,_,rfl,hn⟩
                  |iO b o b' s n z c h hz hn=>exact ⟨_,_,rfl,hn⟩
                  |FG a c'=>exact ⟨_,_,rfl,Nat.zero_le _⟩
                  |ML a=>exact ⟨_,_,rfl,Nat.le_refl _⟩
                 obtain ⟨a1,c0,rfl,hle⟩:=e1;exact ⟨R,_,w,Ext.refl R σ,hs,hS,iu hT.Sf Og.info a1 a sl c0 cx hle⟩
               . cases h
             . rename_i n
               split at h
               . rename_i l Mi hn;rw [yd]at hn;have hn:=of_decide_eq_true hn;obtain ⟨l',ad,k,c,rfl,q1,q2,q3,q4,q5,q6⟩:=zt hE hS hx (fun ad k c e=>by cases e;exact Nat.le_refl _) (Nat.succ_pos n) Mi;have hk:k=n+1:=by
                  cases hx with
                  |flat v h=>simp [yc]at h
                  |ly b o b' s n z c' h hz hc hn=>rfl
                  |iO b o b' s n z c h hz hn=>rfl
                 exact yB hE hS hi ye Gm hz (by omega) hzv c1 c2 (Nat.succ_pos n) (by omega) hs rfl hk q3 q4 q5 q6 h
               . cases h
           . cases h
         . rename_i htt
           split at h
           . rename_i i' hi';obtain ⟨ii',d',hT'⟩:=hE.is hi'
             split at h
             . rename_i kx n PO;obtain ⟨kk,rfl⟩:∃kk,_=TypeDesc.int kk:=⟨_,hT'.it PO⟩
               split at h
               . rename_i hn;rw [yd]at hn;have hn:=of_decide_eq_true hn;obtain ⟨PD,TU⟩:=Og.zero hzv;have:=mc hs rfl;subst this;have:=Wc hx;subst this;have zB:zv.cells.size=z+1:=by rw [<-c1,Xc];simp
                 have aM:ei.size=z+1:=by rw [Og.size,hz]
                 have WO:ei.bytes<=65536:=by rw [Og.eq]at c2;exact c2
                 have h48:(n+1)*ei.bytes<=281474976710656:=by
                  have:(n+1)*ei.bytes<=65537*65536:=Nat.mul_le_mul (by omega) WO;omega
                 have hr:=Lib.run_append_nil_zeros (P:=E.P) w t t' ty e ei zv kx kk hT.Sf hT'.Sf Og.info PD (n+1) (by omega) (by omega) (by omega) h48;unfold mz at h;rw [Si,Vi]at h;cases h;have hlen:(mi (Ja zv) (n+1)).length=(n+1)*(z+1):=by rw [(Fl _ _).1,c1]
                 have hzz:(Builtin.zeroCells zv.cells (n+1))=(mi (Ja zv) (n+1)).toArray:=by
                  apply Array.ext';have:=nh (n:=n+1) c1;rw [<-this];simp [Builtin.zeroCells,zB]
                 rw [hzz]at hr;obtain ⟨R',w',k1,k2,k3,k4⟩:=Xi hE hS (i:=ei) (e:=e) (Hk (R:=R) TU (n+1)) (by omega) hlen zB (grownCap w (n+1) 0 e) (Nat.le_add_right _ _) w.drew rfl rfl rfl rfl _ rfl;refine ⟨R',_,w',k2,k3,k4, ?_⟩;rw [k1];exact hr
               . cases h
             . cases h
           . cases h
       . cases h
     . cases h
   . cases h
 . cases h
omit hS in
theorem AB{ty t e:TypeId}{ts:Array TypeId}{ei:TypeInfo}(h0:ts[0]?=some t)(ht:E.P.underlying t=some (.slice e))(hi:E.P.info? e=some ei)(d:Addr)(dn dc:Nat)(a:Addr)(sn sc:Nat)(cs:List Value)(hl:cs.length=Nat.min sn dn*ei.size)
  (hc:∀(j:Nat) (v:Value),cs[j]?=some v->w.cell? (a.add j)=some v){w':World}(bo:(storeCells d cs).run E.P w= .ok () w'):
  (Builtin.copy_ ts ty #[.slice (some d) dn dc, .slice (some a) sn sc]).run E.P w= .ok (.int .i64 (Nat.min sn dn:Nat)) w':=by
 have hf:=run_firstCells_some (P:=E.P) w ei.size (Nat.min sn dn) a sn sc cs hl hc;simp [Builtin.copy_,h0,Sa w ht,Result.andThen,od w hi,Builtin.lenOf,hf,bo,goInt]
theorem YG{ty:TypeId}{ts:Array TypeId}{d s d' s' v:Value}{σ':AH}(hd:VR R d d')(hs:VR R s s')(h:GG E σ ts.toList d s=some (v,σ')):
  ∃R' v' w',Ext R σ R' σ'/\VR R' v v'/\Vc B w0 R' σ' w'/\(Builtin.copy_ ts ty #[d',s']).run E.P w= .ok v' w':=by
 unfold GG at h
 split at h
 . rename_i p da dn dz sa sn sz hp;obtain ⟨t0,r0,i,lO,hi,ye,Gm⟩:=XG hp;obtain ⟨e,ie⟩:=p;simp only at ye Gm h;obtain ⟨ii,dd,hT⟩:=hE.is hi;obtain ⟨ei,ed,Og⟩:=hE.is Gm;have hdd:=hT.sl ye;subst hdd;have h0:ts[0]?=some t0:=by
    have:=congrArg (fun l=>l[0]?) lO
    simpa using this
   have e1:∃a c,d'= .slice a dn c:=by cases hd<;>exact ⟨_,_,rfl⟩
   have e2:∃a c,s'= .slice a sn c:=by cases hs<;>exact ⟨_,_,rfl⟩
   split at h
   . rename_i By;cases h;obtain ⟨a1,c1,rfl⟩:=e1;obtain ⟨a2,c2,rfl⟩:=e2;refine ⟨R,_,w,Ext.refl R σ, .flat _ rfl,hS, ?_⟩;have hl:∀(x:Addr),(loadCells x 0).run E.P w= .ok #[] w:=fun x=>by simpa using run_loadCells_list (P:=E.P) w x [] (by simp)
     have By:Nat.min sn dn=0:=By;cases a1<;>cases a2<;>simp [Builtin.copy_,h0,Sa w hT.Sf,Result.andThen,od w Og.info,Builtin.lenOf,By,Builtin.firstCells,hl,storeCells,goInt]
   . rename_i n By;have By:Nat.min sn dn=n+1:=By
     split at h
     . rename_i l a Mi
       split at h
       . rename_i c e' full z hg hz;obtain ⟨l',ad,k,cx,rfl,q1,q2,q3,q4,q5,q6⟩:=zt hE hS hs (fun ad k c e=>by cases e;have:=Nat.min_le_left sn dn;have:min sn dn=n+1:=By;omega) (Nat.succ_pos n) Mi;obtain ⟨a2,c2,e2⟩:=e2;cases e2;have oX:0<dn:=by have:min sn dn=n+1:=By;have:=Nat.min_le_right sn dn;omega
         obtain ⟨b',s0,c',hb,rfl,aP,jO⟩:=Qm hd oX;have h2:=Ri _ _ _ _ _ h;rw [ic]at h2;cases h2;rcases qq _ _ _ _ _ h with Ao|zy
         . obtain ⟨w',k1,k2⟩:=Wi hE hS hb hg q3 q4 Ao;refine ⟨R,_,w',Ext.put R σ hb _, .flat _ rfl,k2, ?_⟩;have Vh:ei.size=z+1:=by rw [Og.size,hz]
           have:=AB hE (ty:=ty) h0 hT.Sf Og.info ⟨b',a.off,none⟩ dn c' ad sn cx l' (by rw [By,Vh];rw [q5,hz]) q6 k1;rw [By]at this;exact this
         . rw [zy]at q3;have:=q3.Fc;rw [this,hz]at q5;have:=Nat.mul_pos (Nat.succ_pos n) (Nat.succ_pos z);simp at q5
       . cases h
     . cases h
 . cases h
theorem QD{ty:TypeId}{ts:Array TypeId}{d d' v:Value}{σ':AH}(hd:VR R d d')(h:eB E σ ts.toList d=some (v,σ')):
  ∃R' v' w',Ext R σ R' σ'/\VR R' v v'/\Vc B w0 R' σ' w'/\(Builtin.clear_ ts ty #[d']).run E.P w= .ok v' w':=by
 unfold eB at h
 split at h
 . rename_i p a n dz hp;obtain ⟨t0,r0,i,lO,hi,ye,Gm⟩:=XG hp;obtain ⟨e,ie⟩:=p;simp only at ye Gm h;obtain ⟨ii,dd,hT⟩:=hE.is hi;obtain ⟨ei,ed,Og⟩:=hE.is Gm;have hdd:=hT.sl ye;subst hdd;have h0:ts[0]?=some t0:=by
    have:=congrArg (fun l=>l[0]?) lO
    simpa using this
   split at h
   . rename_i zv c e' full hzv hg
     split at h
     . rename_i z c1 c2 hz;rw [Na,cd,hz]at c1;have c1:=of_decide_eq_true c1;obtain ⟨PD,TU⟩:=Og.zero hzv;obtain ⟨b',s0,c',hb,rfl,aP,jO⟩:=Qm hd (Nat.succ_pos n);have h2:=Ri _ _ _ _ _ h;rw [ic]at h2;cases h2;have zB:zv.cells.size=z+1:=by rw [Xc]at c1;simpa using c1
       have hzz:(Builtin.zeroCells zv.cells (n+1)).toList=mi (Ja zv) (n+1):=by
        have:=nh (n:=n+1) c1;rw [<-this];simp [Builtin.zeroCells,zB]
       rcases qq _ _ _ _ _ h with Ao|zy
       . obtain ⟨w',k1,k2⟩:=Wi hE hS hb hg (Hk (R:=R) TU (n+1)) (LD c2 _) Ao;refine ⟨R,undef,w',Ext.put R σ hb _,me R,k2, ?_⟩;simp [Builtin.clear_,h0,Sa w hT.Sf,Result.andThen,tq w Og.info PD,hzz,k1,undef]
       . have:=congrArg List.length zy;rw [(Fl _ _).1,c1]at this;have:=Nat.mul_pos (Nat.succ_pos n) (Nat.succ_pos z);simp at*
     . cases h
   . cases h
 . cases h
end
end Sk
end Go.Proofs.YtfnkmolffhfpoaaGreat
