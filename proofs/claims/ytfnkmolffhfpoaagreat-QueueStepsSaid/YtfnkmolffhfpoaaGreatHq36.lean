/- -/
import Derived.Test.YtfnkmolffhfpoaaGreatHq35
import Derived.Test.YtfnkmolffhfpoaaGreatHq29
import Derived.Test.YtfnkmolffhfpoaaGreatHq34
set_option linter.unusedVariables false
set_option linter.unusedSimpArgs false
set_option linter.unusedSectionVars false
namespace Go.Proofs.YtfnkmolffhfpoaaGreat
namespace Sk
open Go.RowKit
structure NG(γ:Nat->Gh)(A:Rv)(c:Nc):Prop where
 g0:γ 0= .mem A
 g1:γ 1= .lay c
 Ho:sk c
section
variable{ρ:Nat->Int}{γ:Nat->Gh}{A:Rv}{c:Nc}
theorem Cx(h:NG γ A c): @den (Th.at ρ γ) (vr 9 0)= .g (.mem A):=by
 have e: @den (Th.at ρ γ) (vr 9 0)= .g (.mem (γ 0).A):=rfl
 rw [e,h.g0];rfl
theorem Ex(h:NG γ A c): @den (Th.at ρ γ) (vr 11 1)= .g (.lay c):=by
 have e: @den (Th.at ρ γ) (vr 11 1)= .g (.lay (Ho (γ 1).C)):=rfl
 have e2:(γ 1).C=c:=by rw [h.g1];rfl
 rw [e,e2,wQ h.Ho]
theorem Wp(z:Int)(h0:-1000000000<=z)(h1:z<=1000000000):IntKind.i64.wrap z=z:=by simp [IntKind.wrap,IntKind.bits,IntKind.signed];omega
theorem Us(x y:Value){k k':IntKind}{a b:Int}(hx: @den (Th.at ρ γ) x= .v (.int k a))(hy: @den (Th.at ρ γ) y= .v (.int k' b))(h:a<b): @den (Th.at ρ γ) (sy 280 [x,y])= @den (Th.at ρ γ) tt:=by
 letI:Interp:=Th.at ρ γ
 have e:den (sy 280 [x,y])=ni 280 [den x,den y]:=rfl;rw [e,hx,hy]
 show Qc.v (fk 8 (if a<b then 1 else 0))=Qc.v (.bool true)
 rw [if_pos h];rfl
theorem Daa(h:NG γ A c)(h0:0<=A.ck)(h1:A.ck<=2000000): @den (Th.at ρ γ) (sy rM [vr 9 0])= .v (.int .i64 A.ck):=by
 letI:Interp:=Th.at ρ γ
 have e:den (sy rM [vr 9 0])=ni rM [den (vr 9 0)]:=rfl;rw [e,Cx h]
 show Qc.v (Value.int .i64 (IntKind.i64.wrap A.ck))=_
 rw [Wp _ (by omega) (by omega)]
theorem Eaa(h:NG γ A c)(h0:0<=A.wm)(h1:A.wm<=2000000): @den (Th.at ρ γ) (sy tWm [vr 9 0])= .v (.int .i64 A.wm):=by
 letI:Interp:=Th.at ρ γ
 have e:den (sy tWm [vr 9 0])=ni tWm [den (vr 9 0)]:=rfl;rw [e,Cx h]
 show Qc.v (Value.int .i64 (IntKind.i64.wrap A.wm))=_
 rw [Wp _ (by omega) (by omega)]
theorem JC(h:NG γ A c)(i:Nat):∃z, @den (Th.at ρ γ) (sy Yh [vr 11 1,Fb (.ofNat i)])= .v (.int .i64 z)/\0<z:=by
 letI:Interp:=Th.at ρ γ
 have e:den (sy Yh [vr 11 1,Fb (.ofNat i)])=ni Yh [den (vr 11 1), .v (.int .i64 (.ofNat i))]:=rfl;rw [e,Ex h];refine ⟨_,rfl, ?_⟩
 show 0<IntKind.i64.wrap (Ci c (.ofNat i))
 have h2:=h.Ho;unfold Ci;have:=h2.RM;have:=h2.th;have:=h2.kQ;have:=h2.sl;have:=h2.uU;have:=h2.lo;have:=h2.lQ;have:=h2.bu
 split
 . rw [Wp _ (by omega) (by omega)];omega
 . split
   . rw [Wp _ (by omega) (by omega)];omega
   . split
     . rw [Wp _ (by omega) (by omega)];omega
     . rw [Wp _ (by omega) (by omega)];omega
theorem zR(h:NG γ A c)(c0:0<=A.ck)(c1:A.ck<999000)(w0:0<=A.wm)(w1:A.wm<999000):∀p,p∈ku-> @den (Th.at ρ γ) p.1= @den (Th.at ρ γ) p.2:=by
 letI:Interp:=Th.at ρ γ
 have hl:∀n:Int,den (Fb n)= .v (.int .i64 n):=fun n=>rfl
 intro p hp;simp only [ku,List.mem_cons,List.not_mem_nil,or_false]at hp;rcases hp with rfl|rfl|rfl|rfl|rfl|rfl
 . exact Us _ _ (Daa h c0 (by omega)) (hl _) c1
 . exact Us _ _ (Eaa h w0 (by omega)) (hl _) w1
 . obtain ⟨z,e,hz⟩:= @JC ρ γ A c h 0;exact Us _ _ (hl _) e hz
 . obtain ⟨z,e,hz⟩:= @JC ρ γ A c h 1;exact Us _ _ (hl _) e hz
 . obtain ⟨z,e,hz⟩:= @JC ρ γ A c h 2;exact Us _ _ (hl _) e hz
 . obtain ⟨z,e,hz⟩:= @JC ρ γ A c h 3;exact Us _ _ (hl _) e hz
theorem IF{F1:List (Value×Value)}:∀{F2:List (Value×Value)} {p:Value×Value},p∈lu F1 F2->p∈F1\/p∈F2
 |[],p,h=> .inl h
 |q::qs,p,h=>by
  simp only [lu]at h;rcases List.mem_cons.1 h with e|e
  . exact .inr (List.mem_cons.2 (.inl e))
  . exact (IF e).imp id fun k=>List.mem_cons.2 (.inr k)
theorem Su(A:Rv)(x:Acc)(nw:Int)(pu:Bool):(A.Me x nw pu).np=A.np:=by
 unfold Rv.Me Rv.note Rv.put
 split
 . split<;>(first|rfl|(split<;>rfl))
 . rfl
theorem rA(A:Rv)(t a:Int):(A.Fa t a).np=A.np:=by unfold Rv.Fa;split<;>rfl
theorem sA(A:Rv)(t:Int):(A.Ha t).np=A.np:=by unfold Rv.Ha;split<;>rfl
theorem Faa{l:List Value}(h:Ue l=2):∃a b,l=[a,b]:=by
 rw [cd]at h
 match l,h with
 |[a,b],_=>exact ⟨a,b,rfl⟩
theorem uay{l:List Value}(h:Ue l=3):∃a b c,l=[a,b,c]:=by
 rw [cd]at h
 match l,h with
 |[a,b,c],_=>exact ⟨a,b,c,rfl⟩
theorem vay{l:List Value}(h:Ue l=4):∃a b c d,l=[a,b,c,d]:=by
 rw [cd]at h
 match l,h with
 |[a,b,c,d],_=>exact ⟨a,b,c,d,rfl⟩
theorem way{l:List Value}(h:Ue l=1):∃a,l=[a]:=by
 rw [cd]at h
 match l,h with
 |[a],_=>exact ⟨a,rfl⟩
theorem wK:∀(d:Nat) (e:Value) (n:Nat) (r:Value),deep d e=some (n,r)->vW d e=true->∃A A0, @den (Th.at ρ γ) e= .g (Gh.mem A)/\ @den (Th.at ρ γ) r= .g (Gh.mem A0)/\A.np=A0.np
 |0,e,n,r,h,_=>by simp [deep]at h
 |d+1,e,n,r,h,ha=>by
  letI:Interp:=Th.at ρ γ
  simp only [deep]at h
  split at h
  . rename_i t s l c
    split at h
    . rename_i ht;rw [Na]at ht;have ht:=of_decide_eq_true ht;subst ht;cases h;obtain ⟨A,hA⟩:=Mu (ρ:=ρ) (γ:=γ) (e:= .func (.methodOf 9 s) ⟨l⟩ c) rfl;exact ⟨A,A,hA,hA,rfl⟩
    . rename_i h9
      split at h
      . rename_i x l ht
        split at h
        . rename_i m r' hx;cases h;simp only [vW]at ha;rw [h9]at ha;simp only at ha
          split at ha
          . rename_i har;obtain ⟨Ax,A0,h2,h3,h4⟩:=wK d x m r hx ha;unfold arity at har;simp only [rl,Aa,Bool.or_eq_true,Bool.and_eq_true,Na,decide_eq_true_eq]at har;rcases har with⟨rfl,hl⟩|⟨rfl,hl⟩|⟨rfl,hl⟩|⟨rfl,hl⟩|⟨rfl,hl⟩
            . obtain ⟨a,b,rfl⟩:=Faa hl;have e: @den (Th.at ρ γ) (.func (.methodOf 25 s) ⟨[x,a,b]⟩ c)=(Qc.g (Gh.mem (Em 1 [@den (Th.at ρ γ) x, @den (Th.at ρ γ) a, @den (Th.at ρ γ) b]).A):Qc Gh):=rfl;rw [h2]at e;exact ⟨_,A0,e,h3,(Su Ax _ _ _).trans h4⟩
            . obtain ⟨a,b,c2,rfl⟩:=uay hl;have e: @den (Th.at ρ γ) (.func (.methodOf 41 s) ⟨[x,a,b,c2]⟩ c)=(Qc.g (Gh.mem (Em 2 [@den (Th.at ρ γ) x, @den (Th.at ρ γ) a, @den (Th.at ρ γ) b, @den (Th.at ρ γ) c2]).A):Qc Gh):=rfl;rw [h2]at e;exact ⟨_,A0,e,h3,(Su Ax _ _ _).trans h4⟩
            . obtain ⟨a,b,c2,d2,rfl⟩:=vay hl;have e: @den (Th.at ρ γ) (.func (.methodOf 57 s) ⟨[x,a,b,c2,d2]⟩ c)=(Qc.g (Gh.mem (Em 3 [@den (Th.at ρ γ) x, @den (Th.at ρ γ) a, @den (Th.at ρ γ) b, @den (Th.at ρ γ) c2, @den (Th.at ρ γ) d2]).A):Qc Gh):=rfl;rw [h2]at e;exact ⟨_,A0,e,h3,(Su Ax _ _ _).trans h4⟩
            . obtain ⟨a,b,rfl⟩:=Faa hl;have e: @den (Th.at ρ γ) (.func (.methodOf 73 s) ⟨[x,a,b]⟩ c)=(Qc.g (Gh.mem (Em 4 [@den (Th.at ρ γ) x, @den (Th.at ρ γ) a, @den (Th.at ρ γ) b]).A):Qc Gh):=rfl;rw [h2]at e;exact ⟨_,A0,e,h3,(rA Ax _ _).trans h4⟩
            . obtain ⟨a,rfl⟩:=way hl;have e: @den (Th.at ρ γ) (.func (.methodOf 89 s) ⟨[x,a]⟩ c)=(Qc.g (Gh.mem (Em 5 [@den (Th.at ρ γ) x, @den (Th.at ρ γ) a]).A):Qc Gh):=rfl;rw [h2]at e;exact ⟨_,A0,e,h3,(sA Ax _).trans h4⟩
          . cases ha
        . cases h
      . cases h
  . cases h
theorem Dn{k i:Nat}(hk:k=9\/k=11){v:Value}(h:isVar k i v=true): @den (Th.at ρ γ) v= @den (Th.at ρ γ) (vr k i):=by
 unfold isVar at h
 split at h
 . rename_i t s q j c';simp only [Aa,Bool.and_eq_true,Na,decide_eq_true_eq]at h;obtain ⟨h1,h2⟩:=h;rcases hk with rfl|rfl
   . subst h1 h2;rfl
   . subst h1 h2;rfl
 . cases h
theorem tA(h:NG γ A c)(c0:0<=A.ck)(w0:0<=A.wm){θ η:List Value}(hm:vK η=true)(Jo:sk c):∃A',NG (Zl (T:=Th) ρ γ η) A' c/\((A'.ck<=A.ck+30/\A'.wm<=A.wm+30)/\A'.np=A.np):=by
 unfold vK at hm
 split at hm
 . rename_i e l x
   split at hm
   . rename_i n r hd;simp only [Aa,Bool.and_eq_true]at hm;obtain ⟨har,hr,hl⟩:=hm;obtain ⟨hn,A',hA,hb⟩:= @sC ρ γ 30 e n r hd;have e1:Zl (T:=Th) ρ γ (e::l::x) 0= .mem A':=by
      unfold Zl;simp only [List.getElem?_cons_zero];rw [hA]
     have e2:Zl (T:=Th) ρ γ (e::l::x) 1= .lay c:=by
      unfold Zl;simp only [List.getElem?_cons_succ,List.getElem?_cons_zero];rw [Dn (.inr rfl) hl,Ex h]
     refine ⟨A',⟨e1,e2,Jo⟩, ?_, ?_⟩
     . rcases hb with⟨h1,h2⟩|⟨A0,h0,h1,h2,h3,h4⟩
       . exact ⟨by omega,by omega⟩
       . rw [Dn (.inl rfl) hr,Cx h]at h0;cases h0;exact ⟨by omega,by omega⟩
     . obtain ⟨A1,A0,k1,k2,k3⟩:= @wK ρ γ 30 e n r hd har;rw [hA]at k1;cases k1;rw [Dn (.inl rfl) hr,Cx h]at k2;cases k2;exact k3
   . cases hm
 . cases hm
end
def Xp(P:Wa->Prop):List Wa->Prop
 |[]=>True
 |s::ss=>P s/\Xp P ss
theorem Xp.of{P:Wa->Prop}:∀{tab:List Wa},Xp P tab->∀{S:Shape},S∈Ag tab->∃s,S=s.shape/\P s
 |[],h,S,hS=>by simp [Ag]at hS
 |s::ss,h,S,hS=>by
  simp only [Ag,List.mem_cons]at hS;rcases hS with rfl|hS
  . exact ⟨s,rfl,h.1⟩
  . exact Xp.of h.2 hS
theorem xay(ρ:Nat->Int)(γ:Nat->Gh): @Rb (Th.at ρ γ) (env.Jl []):=(pr ρ γ [] (fun p hp=>by cases hp)).1
section
variable{ρ:Nat->Int}{γ:Nat->Gh}
theorem AR(l:List (Option Value))(j:Nat)(v:Value)(h:l[j]?=some (some v)):(⟨Ue l,none,rowP (Ue l) 0 l .nil⟩:Row).get j=some v:=by
 have hj:j<l.length:=(List.getElem?_eq_some_iff.1 h).1
 unfold Row.get;simp only [cd];rw [<-cd];rw [Kq (Ue l) l 0 .nil j (by rw [cd];omega),if_pos (Nat.zero_le _),Nat.sub_zero,h]
theorem BR{Yb:List dh}{B:Nat->Prop}{w0:World}{R:Mp}{w:World}(hS: @Vc (Th.at ρ γ) B w0 R (Cu Yb) w){b r s i:Nat}{v:Value}(hb:R b=some (r,s))(h:Lg Yb b i=some v):∃v',w.cell? ⟨r,i,none⟩=some v'/\ @VR (Th.at ρ γ) R v v':=by
 unfold Lg at h
 split at h
 . rename_i l e full ho
   split at h
   . rename_i o hl;subst h;rw [Ec]at ho hl;have hg:(Cu Yb).get b=some (.cells ⟨Ue l,none,rowP (Ue l) 0 l .nil⟩ e full):=by rw [zg,ho];rfl
     obtain ⟨c',h1,h2,h3,h4,h5⟩:= @Um (Th.at ρ γ) _ (xay ρ γ) B w0 R (Cu Yb) w hS b r s hb _ _ _ hg;obtain ⟨v',q1,-,q2⟩:=h5 i v (AR l i v hl);exact ⟨v',q1,q2⟩
   . cases h
 . cases h
theorem En{R:Mp}{v x:Value}{k:Nat}(hk:Cn k v=true)(h: @VR (Th.at ρ γ) R v x): @den (Th.at ρ γ) v= .v x/\ @Sc k x:=by
 unfold Cn at hk
 split at hk
 . rename_i j hj;rw [Na]at hk;obtain rfl:=of_decide_eq_true hk;have h1:= @Pr (Th.at ρ γ) R _ _ h _ hj;obtain ⟨a',h2,h3⟩:= @Nr (Th.at ρ γ) _ _ hj;rw [h1]at h2;cases h2;exact ⟨h1,h3⟩
 . cases hk
theorem IN{k:Nat}{a u:Value}(hk:Cn k a=true)(h:Lf 60 a u=true):Cn k u=true:=by
 unfold Lf at h
 split at h
 . split at h
   . rename_i ht;rw [Na]at ht;obtain rfl:=of_decide_eq_true ht;exact hk
   . cases h
 . split at h
   . rename_i ht;rw [Na]at ht;have ht:=of_decide_eq_true ht;unfold Cn Gf at hk⊢;simp only at hk⊢;rw [<-ht];exact hk
   . cases h
 . exact hk
 . cases h
end
structure Vf(tab:List Wa)(W:World)(p q m r l:Nat)(A:Rv)(c:Nc)(S:Shape)(ρ:Nat->Int)(γ:Nat->Gh)(B:Nat->Prop)(w0:World)(R:Mp)(w:World):Prop where
 tab:S∈Ag tab
 ng:NG γ A c
 ins:InS Th S ρ γ B w0 R w
 r0:∃s,R 0=some (p,s)
 r1:∃s,R 1=some (q,s)
 r2:∃s,R 2=some (m,s)
 r3:∃s,R 3=some (r,s)
 r4:∃s,R 4=some (l,s)
 base:Below W.heap.size W w0
 own:∀k,B k->W.heap.size<=k
def ghB(S:Shape):Bool:=match Rf S.Yb 2,Rf S.Yb 3 with|some (.gh _),some (.gh _)=>true|_,_=>false
def fj:List Wa->Bool
 |[]=>true
 |s::ss=>match yW s.shape with|true=>(match ghB s.shape with|true=>fj ss|false=>false)|false=>false
theorem Gn:∀{tab:List Wa},fj tab=true->∀{S:Shape},S∈Ag tab->yW S=true/\(∃e,S.Yb[2]?=some (.gh e))/\∃e,S.Yb[3]?=some (.gh e)
 |[],h,S,hS=>by simp [Ag]at hS
 |s::ss,h,S,hS=>by
  simp only [fj]at h
  split at h
  . rename_i h1
    split at h
    . rename_i h2;simp only [Ag,List.mem_cons]at hS;rcases hS with rfl|hS
      . refine ⟨h1, ?_⟩;unfold ghB at h2;rw [Ec,Ec]at h2
        split at h2
        . rename_i a b ha hb;exact ⟨⟨_,ha⟩,⟨_,hb⟩⟩
        . cases h2
      . exact Gn h hS
    . cases h
  . cases h
def Grown(A A':Rv):Prop:=(A'.ck<=A.ck+30/\A'.wm<=A.wm+30)/\A'.np=A.np
def Fx(fS fR:FuncId):List (FuncId×List Value):=[(fS,[.pointer (some ⟨0,0,none⟩), .pointer (some ⟨2,0,none⟩)]),(fR,[.pointer (some ⟨1,0,none⟩), .pointer (some ⟨3,0,none⟩)])]
theorem JF:∀{l:List Value} {i:Nat},idT i l=true->∀(j:Nat) (u:Value),l[j]?=some u->iE u=some (i+j)
 |[],i,h,j,u,hu=>by simp at hu
 |v::vs,i,h,j,u,hu=>by
  simp only [idT]at h
  split at h
  . rename_i k hk;simp only [Aa,Bool.and_eq_true,Na,decide_eq_true_eq]at h;cases j with
    |zero=>simp at hu;subst hu;rw [hk,h.1];rfl
    |succ j=>
     have:=JF h.2 j u (by simpa using hu)
     rw [this];congr 1;omega
  . cases h
section
variable{tab:List Wa}{W:World}{p q m r l:Nat}{A:Rv}{c:Nc}{S:Shape}{ρ:Nat->Int}{γ:Nat->Gh}{B:Nat->Prop}{w0:World}{R:Mp}{w:World}
theorem mal{θ η:List Value}(h:idT 0 θ=true):aw (T:=Th) ρ γ θ=ρ:=by
 funext i
 unfold aw;cases hi:θ[i]?with
 |none=>rfl
 |some u=>
  have:=JF h i u hi;rw [Nat.zero_add]at this;simp only [this]
theorem nal(h:NG γ A c){η:List Value}(hη:idG η=true):Zl (T:=Th) ρ γ η=γ:=by
 unfold idG at hη
 split at hη
 . rename_i e x;simp only [Aa,Bool.and_eq_true]at hη
   funext i
   unfold Zl
   match i with
   |0=>
    simp only [List.getElem?_cons_zero];rw [Dn (.inl rfl) hη.1,Cx h];exact h.g0.symm
   |1=>
    simp only [List.getElem?_cons_succ,List.getElem?_cons_zero];rw [Dn (.inr rfl) hη.2,Ex h];exact h.g1.symm
   |i+2=>rfl
 . cases hη
theorem Vf.below(h:Vf tab W p q m r l A c S ρ γ B w0 R w):Below W.heap.size W w:=by
 have k:= @Vc.below (Th.at ρ γ) _ _ _ _ _ h.ins.Qo;have b:=h.base;exact ⟨k.os.trans b.os,k.tape.trans b.tape,k.output.trans b.output,Nat.le_trans b.size k.size,fun i hi=>(k.block i (Nat.lt_of_lt_of_le hi b.size) fun hB=>by have:=h.own i hB;omega).trans (b.block i hi)⟩
theorem Vf.wd(h:Vf tab W p q m r l A c S ρ γ B w0 R w)(Zh:fj tab=true):Wd A:=by
 obtain ⟨h1,h2,h3⟩:=Gn Zh h.tab;obtain ⟨s2,r2⟩:=h.r2;obtain ⟨s3,r3⟩:=h.r3;obtain ⟨M,N,-,-,-,hw,-⟩:=h.ins.mem h1 r2 r3 h2 h3;rw [h.ng.g0]at hw;exact hw
theorem Vf.facts(h:Vf tab W p q m r l A c S ρ γ B w0 R w)(hw:Wd A)(c1:A.ck<999000)(w1:A.wm<999000):∀x,x∈lu S.facts ku-> @den (Th.at ρ γ) x.1= @den (Th.at ρ γ) x.2:=fun x hx=>
 (IF hx).elim (h.ins.facts x) (zR h.ng hw.Cm c1 hw.tO w1 x)
theorem Vf.EF(h:Vf tab W p q m r l A c S ρ γ B w0 R w): @VR (Th.at ρ γ) R (.pointer (some ⟨0,0,none⟩)) (.pointer (some ⟨p,0,none⟩)):=by
 obtain ⟨s,e⟩:=h.r0;exact @VR.ptr (Th.at ρ γ) _ _ _ _ _ e
theorem Vf.oal(h:Vf tab W p q m r l A c S ρ γ B w0 R w): @VR (Th.at ρ γ) R (.pointer (some ⟨1,0,none⟩)) (.pointer (some ⟨q,0,none⟩)):=by
 obtain ⟨s,e⟩:=h.r1;exact @VR.ptr (Th.at ρ γ) _ _ _ _ _ e
theorem Vf.yay(h:Vf tab W p q m r l A c S ρ γ B w0 R w): @VR (Th.at ρ γ) R (.pointer (some ⟨2,0,none⟩)) (.pointer (some ⟨m,0,none⟩)):=by
 obtain ⟨s,e⟩:=h.r2;exact @VR.ptr (Th.at ρ γ) _ _ _ _ _ e
theorem Vf.zay(h:Vf tab W p q m r l A c S ρ γ B w0 R w): @VR (Th.at ρ γ) R (.pointer (some ⟨3,0,none⟩)) (.pointer (some ⟨r,0,none⟩)):=by
 obtain ⟨s,e⟩:=h.r3;exact @VR.ptr (Th.at ρ γ) _ _ _ _ _ e
theorem lr1[Interp]{R:Mp}{a a':Value}(h:VR R a a'):LR R [a] [a']:=LR.cons h (LR.nil R)
theorem lr2[Interp]{R:Mp}{a a' b b':Value}(h:VR R a a')(k:VR R b b'):LR R [a,b] [a',b']:=LR.cons h (lr1 k)
theorem Gx{o:Option Value}{b:Bool}(h:uK o b=true):∃n:Int,o=some (.int .i64 n)/\b=decide (n=0):=by
 unfold uK at h
 split at h
 . rename_i n;refine ⟨n,rfl, ?_⟩;unfold dal at h
   split at h
   . rw [Ce]at h;exact h.symm
   . rw [Ae,Ce]at h
     simpa using h.symm
 . cases h
theorem JN{fS fR:FuncId}{line:Nat}(ug:Xp (fun s=>∃t,tV env 100000 (Fx fS fR) (nA line) tab 5 s t=true) tab)(Zh:fj tab=true)(h:Vf tab W p q m r l A c S ρ γ B w0 R w)(c1:A.ck<999000)(w1:A.wm<999000):
  re Tryz.prog [(fS,#[.pointer (some ⟨p,0,none⟩), .pointer (some ⟨m,0,none⟩)]),(fR,#[.pointer (some ⟨q,0,none⟩), .pointer (some ⟨r,0,none⟩)])] (fun ws w'=>∃(b:Bool) (u:Value) (n:Int) (A':Rv) (S':Shape) (ρ':Nat->Int) (γ':Nat->Gh) (R':Mp),ws=[.bool b,u]/\Vf tab W p q m r l A' c S' ρ' γ' B w0 R' w'/\Grown A A'/\Lg S.Yb 1 line=Lg S.Yb 1 line/\Lg S'.Yb 1 line=some (.int .i64 n)/\b=decide (n=0)) w:=by
 obtain ⟨s,rfl,t,ht⟩:=ug.of h.tab;have Qu:=h.wd Zh;have ht:MB env 100000 (Fx fS fR) (nA line) (Ag tab) 5 (Cu s.shape.Yb) t (lu s.shape.facts ku)=true:=ht;have hA: @Ym (Th.at ρ γ) R (Fx fS fR) [(fS,#[.pointer (some ⟨p,0,none⟩), .pointer (some ⟨m,0,none⟩)]),(fR,#[.pointer (some ⟨q,0,none⟩), .pointer (some ⟨r,0,none⟩)])]:=
  ⟨rfl, @lr2 (Th.at ρ γ) _ _ _ _ _ h.EF h.yay,rfl, @lr2 (Th.at ρ γ) _ _ _ _ _ h.oal h.zay,trivial⟩
 refine (Kl pr h.ins.Qo hA ht (h.facts Qu c1 w1)).mono ?_
 rintro ws w' ⟨j,S',vs,sb,R1,hj,ij,hle,hLR,ag,tI⟩;unfold nA at ij
 split at ij
 . rename_i b v2;simp only [Aa,Bool.and_eq_true]at ij;obtain ⟨qal,JM⟩:=ij;obtain ⟨n,hn,hb⟩:=Gx qal;obtain ⟨A',ng',rn⟩:=tA (θ:=sb.θ) h.ng Qu.Cm Qu.tO JM h.ng.Ho;obtain ⟨y,l1,rfl,hy,hl⟩:= @LR.Ea (Th.at ρ γ) _ _ _ _ hLR;obtain ⟨u,l2,rfl,hu,hl⟩:= @LR.Ea (Th.at ρ γ) _ _ _ _ hl;obtain rfl:= @LR.Fc (Th.at ρ γ) _ _ hl;obtain rfl:= @vl (Th.at ρ γ) _ _ _ hy;have hr:∀i x,i<5->(∃s,R i=some (x,s))->∃s,Kp sb.f R1 i=some (x,s):=fun i x hi ⟨s,e⟩=>⟨s,by rw [tI i hi];exact hle _ _ e⟩
   refine ⟨b,u,n,A',S',_,_,_,rfl,⟨List.mem_of_getElem? hj,ng',ag,hr 0 p (by omega) h.r0,hr 1 q (by omega) h.r1,hr 2 m (by omega) h.r2,hr 3 r (by omega) h.r3,hr 4 l (by omega) h.r4,h.base,h.own⟩, ?_,rfl,hn,hb⟩;exact rn
 . cases ij
theorem KF{o:Ob}(Zh:fj tab=true)(h:Vf tab W p q m r l A c S ρ γ B w0 R w)(ho:FN env S o=true)(c1:A.ck<999000)(w1:A.wm<999000){ds:List (FuncId×Array Value)}(hA: @Ym (Th.at ρ γ) R o.cs ds):
  re Tryz.prog ds (fun ws w'=>∃(vs:List Value) (R1 R':Mp),Vf tab W p q m r l A c S ρ γ B w0 R' w'/\o.ok S.Yb vs=true/\ @LR (Th.at ρ γ) R1 vs ws) w:=by
 have Qu:=h.wd Zh;refine (Kl pr h.ins.Qo hA ho (h.facts Qu c1 w1)).mono ?_
 rintro ws w' ⟨j,S',vs,sb,R1,hj,ij,hle,hLR,ag,tI⟩;cases j with
 |succ j=>simp at hj
 |zero=>
  simp at hj;subst hj;simp only [Aa,Bool.and_eq_true]at ij;obtain ⟨hid,Cay⟩:=ij;unfold idS at hid;simp only [Aa,Bool.and_eq_true]at hid;rw [mal (η:=sb.η) hid.1,nal h.ng hid.2]at ag;have hr:∀i x,i<5->(∃s,R i=some (x,s))->∃s,Kp sb.f R1 i=some (x,s):=fun i x hi ⟨s,e⟩=>⟨s,by rw [tI i hi];exact hle _ _ e⟩
  exact ⟨vs,R1,_,⟨h.tab,h.ng,ag,hr 0 p (by omega) h.r0,hr 1 q (by omega) h.r1,hr 2 m (by omega) h.r2,hr 3 r (by omega) h.r3,hr 4 l (by omega) h.r4,h.base,h.own⟩,Cay,hLR⟩
end
def gm(S:Shape)(i k:Nat):Bool:=match Lg S.Yb 1 i with|some v=>Cn k v|none=>false
def xK(S:Shape)(i:Nat):Bool:=match Lg S.Yb 1 i with|some (.int .i64 _)=>true|_=>false
def Ix(t:uu):List Wa->Bool
 |[]=>true
 |s::ss=>match Ra (xK s.shape t.line) (Ra (gm s.shape t.last 3) (Ra (gm s.shape (Nat.add t.last 1) 6) (Ra (gm s.shape (Nat.add t.last 2) 3) (Ra (gm s.shape (Nat.add t.last 3) 3) (gm s.shape (Nat.add t.last 4) 3)))))with|true=>Ix t ss|false=>false
theorem uA{t:uu}:∀{tab:List Wa},Ix t tab=true->∀{S:Shape},S∈Ag tab->xK S t.line=true/\gm S t.last 3=true/\gm S (Nat.add t.last 1) 6=true/\gm S (Nat.add t.last 2) 3=true/\gm S (Nat.add t.last 3) 3=true/\gm S (Nat.add t.last 4) 3=true
 |[],h,S,hS=>by simp [Ag]at hS
 |s::ss,h,S,hS=>by
  simp only [Ix]at h
  split at h
  . rename_i h1;simp only [Aa,Bool.and_eq_true]at h1;simp only [Ag,List.mem_cons]at hS;rcases hS with rfl|hS
    . exact h1
    . exact uA h hS
  . cases h
theorem Hn{S:Shape}{i k:Nat}(h:gm S i k=true):∃v,Lg S.Yb 1 i=some v/\Cn k v=true:=by
 unfold gm at h
 split at h
 . rename_i v hv;exact ⟨v,hv,h⟩
 . cases h
theorem CR{S:Shape}{i:Nat}(h:xK S i=true):∃n:Int,Lg S.Yb 1 i=some (.int .i64 n):=by
 unfold xK at h
 split at h
 . rename_i n hv;exact ⟨n,hv⟩
 . cases h
structure DR(t:uu)(q:Nat)(n x1 x2 x3 x4 x5:Int)(w:World):Prop where
 line:w.cell? ⟨q,t.line,none⟩=some (.int .i64 n)
 res:w.cell? ⟨q,t.last,none⟩=some (.int .i64 x1)
 val:w.cell? ⟨q,Nat.add t.last 1,none⟩=some (.int .u32 x2)
 Sg:w.cell? ⟨q,Nat.add t.last 2,none⟩=some (.int .i64 x3)
 Mg:w.cell? ⟨q,Nat.add t.last 3,none⟩=some (.int .i64 x4)
 writes:w.cell? ⟨q,Nat.add t.last 4,none⟩=some (.int .i64 x5)
section
variable{tab:List Wa}{W:World}{p q m r l:Nat}{A:Rv}{c:Nc}{S:Shape}{ρ:Nat->Int}{γ:Nat->Gh}{B:Nat->Prop}{w0:World}{R:Mp}{w:World}
theorem Vf.cell(h:Vf tab W p q m r l A c S ρ γ B w0 R w){i:Nat}{v:Value}(hv:Lg S.Yb 1 i=some v):∃v',w.cell? ⟨q,i,none⟩=some v'/\ @VR (Th.at ρ γ) R v v':=by
 obtain ⟨s,e⟩:=h.r1;exact BR h.ins.Qo e hv
theorem Vf.fix(h:Vf tab W p q m r l A c S ρ γ B w0 R w){i k:Nat}{v:Value}(hv:Lg S.Yb 1 i=some v)(hk:Cn k v=true):∃x, @den (Th.at ρ γ) v= .v x/\ @Sc k x/\∀R' w',Vf tab W p q m r l A c S ρ γ B w0 R' w'->w'.cell? ⟨q,i,none⟩=some x:=by
 obtain ⟨x,h1,h2⟩:=h.cell hv;obtain ⟨h3,h4⟩:=En hk h2;refine ⟨x,h3,h4,fun R' w' h'=> ?_⟩;obtain ⟨x',k1,k2⟩:=h'.cell hv;have:=(En hk k2).1
 rw [h3]at this;cases this;exact k1
theorem Jx{x:Value}(h: @Sc 3 x):∃n,x= .int .i64 n:=by
 obtain ⟨q,n,rfl,e⟩:= @Sc.int (Th.at (fun _=>0) fun _=> .mem tQ) _ _ h (by decide);cases q<;>first|exact ⟨n,rfl⟩|(exfalso;revert e;decide)
theorem Gaa{x:Value}(h: @Sc 6 x):∃n,x= .int .u32 n:=by
 obtain ⟨q,n,rfl,e⟩:= @Sc.int (Th.at (fun _=>0) fun _=> .mem tQ) _ _ h (by decide);cases q<;>first|exact ⟨n,rfl⟩|(exfalso;revert e;decide)
def im(tab:List Wa)(W:World)(p q m r l:Nat)(A:Rv)(c:Nc)(S:Shape)(ρ:Nat->Int)(γ:Nat->Gh)(B:Nat->Prop)(w0:World)(w:World):Prop:=∃R,Vf tab W p q m r l A c S ρ γ B w0 R w
theorem vA{E:Env}{S:Shape}:∀{os:List Ob},Bx E S os=true->∀o,o∈os->FN E S o=true
 |[],h,o,ho=>by cases ho
 |x::xs,h,o,ho=>by
  simp only [Bx]at h
  split at h
  . rename_i h1;rcases List.mem_cons.1 ho with rfl|ho
    . exact h1
    . exact vA h o ho
  . cases h
structure Tg(t:uu)(P:Program)(p q:Nat)(n x1 x2 x3 x4 x5:Int)(T:World->Prop):Prop where
 at_:∀w,T w->DR t q n x1 x2 x3 x4 x5 w
 done:∀w,T w->Calls P t.done #[.pointer (some ⟨p,0,none⟩)] w fun e w'=>e= .returned (.bool (decide (n=0)))/\T w'
 result:∀w,T w->Calls P t.result #[.pointer (some ⟨p,0,none⟩)] w fun e w'=>e= .returned (.agg #[.int .i64 x1, .int .u32 x2])/\T w'
 holds:∃z,∀w,T w->(Calls P t.holds #[.pointer (some ⟨p,0,none⟩)] w fun e w'=>e= .returned (.int .i64 z)/\T w')/\Calls P t.IC #[.pointer (some ⟨q,0,none⟩)] w fun e w'=>e= .returned (.int .i64 z)/\T w'
 Sg:∀w,T w->Calls P t.Sg #[.pointer (some ⟨p,0,none⟩)] w fun e w'=>e= .returned (.int .i64 x3)/\T w'
 Mg:∀w,T w->Calls P t.Mg #[.pointer (some ⟨p,0,none⟩)] w fun e w'=>e= .returned (.int .i64 x4)/\T w'
 writes:∀w,T w->Calls P t.writes #[.pointer (some ⟨p,0,none⟩)] w fun e w'=>e= .returned (.int .i64 x5)/\T w'
theorem Jn{t:uu}{f:FuncId}{g:List dh->Value->Bool}(Zh:fj tab=true)(c1:A.ck<999000)(w1:A.wm<999000)(ho:FN env S (rI f g)=true){w:World}(h:im tab W p q m r l A c S ρ γ B w0 w):
  Calls Tryz.prog f #[.pointer (some ⟨p,0,none⟩)] w fun e w'=>∃(v v':Value) (R1:Mp),e= .returned v'/\im tab W p q m r l A c S ρ γ B w0 w'/\g S.Yb v=true/\ @VR (Th.at ρ γ) R1 v v':=by
 obtain ⟨R,h⟩:=h;have:=KF Zh h ho c1 w1 (ds:=[(f,#[.pointer (some ⟨p,0,none⟩)])]) ⟨rfl, @lr1 (Th.at ρ γ) _ _ _ h.EF,trivial⟩;unfold re at this;refine this.mono ?_
 rintro e w' ⟨v',rfl,vs,R1,R',h1,h2,h3⟩;unfold rI at h2;simp only at h2
 split at h2
 . rename_i v;obtain ⟨y,l1,hy,hv,hl⟩:= @LR.Ea (Th.at ρ γ) _ _ _ _ h3;cases hy;exact ⟨v,v',R1,rfl,⟨R',h1⟩,h2,hv⟩
 . cases h2
theorem Wk{R1:Mp}{k:Nat}{a u x y:Value}(hk:Cn k a=true)(hs:Lf 60 a u=true)(ha: @VR (Th.at ρ γ) R1 a x)(hu: @den (Th.at ρ γ) u= .v y):x=y:=by
 have h1:=(En hk ha).1
 rw [@Ee (Th.at ρ γ) 60 a u hs,hu]at h1;cases h1;rfl
theorem Kn{u v:Value}{o:Option Value}(h:mA u o=true)(ho:o=some v):Lf 60 u v=true:=by subst ho;exact h
noncomputable def LF(E:Env)(S:Shape)(F:List (Value×Value))(σ:AH):Bool:=
 match oM σ 0 ⟨upN 5 0,[],[]⟩ S.Yb with
 |s=>match PO (E.Jl F) S 5 σ s with|true=>idS s|false=>false
noncomputable def aY(E:Env)(t:uu)(S:Shape)(F:List (Value×Value)):Bool:=
 match runs (E.Jl F) 100000 [(t.holds,[pV])] (Cu S.Yb)with
 |some ([a],σ1)=>match runs (E.Jl F) 100000 [(t.IC,[qV])] (Cu S.Yb)with
  |some ([b],σ2)=>match Ra (Cn 3 a) (Lf 60 a b)with
   |true=>match LF E S F σ1 with|true=>LF E S F σ2|false=>false
   |false=>false
  |_=>false
 |_=>false
noncomputable def Vs(E:Env)(t:uu)(S:Shape):Bool:=aY E t S (lu S.facts ku)
open Classical in
theorem zW{f:FuncId}{x a:Value}{σ:AH}(hr:runs (env.Jl (lu S.facts ku)) 100000 [(f,[x])] (Cu S.Yb)=some ([a],σ))(hs:LF env S (lu S.facts ku) σ=true):FN env S ⟨[(f,[x])],fun _ vs=>decide (vs=[a])⟩=true:=by
 unfold LF at hs;simp only at hs
 split at hs
 . rename_i hh;unfold FN MB;rw [hr];simp only [Rf];rw [hh];simp only [Aa,Bool.and_eq_true];exact ⟨hs,by simp⟩
 . cases hs
open Classical in
theorem wA{f:FuncId}{x x' a:Value}{σ:AH}(Zh:fj tab=true)(c1:A.ck<999000)(w1:A.wm<999000)(hr:runs (env.Jl (lu S.facts ku)) 100000 [(f,[x])] (Cu S.Yb)=some ([a],σ))(hs:LF env S (lu S.facts ku) σ=true)(hx:∀R w,Vf tab W p q m r l A c S ρ γ B w0 R w-> @VR (Th.at ρ γ) R x x'){w:World}(h:im tab W p q m r l A c S ρ γ B w0 w):
  Calls Tryz.prog f #[x'] w fun e w'=>∃(v':Value) (R1:Mp),e= .returned v'/\im tab W p q m r l A c S ρ γ B w0 w'/\ @VR (Th.at ρ γ) R1 a v':=by
 obtain ⟨R,h⟩:=h;have:=KF Zh h (zW hr hs) c1 w1 (ds:=[(f,#[x'])]) ⟨rfl, @lr1 (Th.at ρ γ) _ _ _ (hx R w h),trivial⟩;unfold re at this;refine this.mono ?_
 rintro e w' ⟨v',rfl,vs,R1,R',h1,h2,h3⟩;have h2:=of_decide_eq_true h2;subst h2;obtain ⟨y,l1,hy,hv,hl⟩:= @LR.Ea (Th.at ρ γ) _ _ _ _ h3;cases hy;exact ⟨v',R1,rfl,⟨R',h1⟩,hv⟩
theorem KN(t:uu)(Zh:fj tab=true)(c1:A.ck<999000)(w1:A.wm<999000)(hh:Vs env t S=true){w:World}(h:im tab W p q m r l A c S ρ γ B w0 w):∃z,∀w,im tab W p q m r l A c S ρ γ B w0 w->(Calls Tryz.prog t.holds #[.pointer (some ⟨p,0,none⟩)] w fun e w'=>e= .returned (.int .i64 z)/\im tab W p q m r l A c S ρ γ B w0 w')/\Calls Tryz.prog t.IC #[.pointer (some ⟨q,0,none⟩)] w fun e w'=>e= .returned (.int .i64 z)/\im tab W p q m r l A c S ρ γ B w0 w':=by
 unfold Vs aY at hh
 split at hh
 . rename_i a σ1 mP
   split at hh
   . rename_i b σ2 Ay
     split at hh
     . rename_i sU
       split at hh
       . rename_i hs1;simp only [Aa,Bool.and_eq_true]at sU;obtain ⟨hk,Cv⟩:=sU;have hka:=hk;unfold Cn at hka
         split at hka
         . rename_i j hj;rw [Na]at hka;obtain rfl:=of_decide_eq_true hka;obtain ⟨x,hd,hsc⟩:= @Nr (Th.at ρ γ) _ _ hj;obtain ⟨z,rfl⟩:=Jx hsc;refine ⟨z,fun w hw=>⟨?_, ?_⟩⟩
           . refine (wA Zh c1 w1 mP hs1 (fun R w k=>k.EF) hw).mono ?_
             rintro e w' ⟨v',R1,rfl,bo,hv⟩;have:=(En hk hv).1
             rw [hd]at this;cases this;exact ⟨rfl,bo⟩
           . refine (wA Zh c1 w1 Ay hh (fun R w k=>k.oal) hw).mono ?_
             rintro e w' ⟨v',R1,rfl,bo,hv⟩;have:=(En (IN hk Cv) hv).1
             rw [<- @Ee (Th.at ρ γ) 60 a b Cv,hd]at this;cases this;exact ⟨rfl,bo⟩
         . cases hka
       . cases hh
     . cases hh
   . cases hh
 . cases hh
theorem uI(t:uu)(ug:Xp (fun s=>Bx env s.shape t.obs=true) tab)(Zh:fj tab=true)(htl:Ix t tab=true)(sal:Xp (fun s=>Vs env t s.shape=true) tab)(h:Vf tab W p q m r l A c S ρ γ B w0 R w)(c1:A.ck<999000)(w1:A.wm<999000):
  ∃n x1 x2 x3 x4 x5,Lg S.Yb 1 t.line=some (.int .i64 n)/\Tg t Tryz.prog p q n x1 x2 x3 x4 x5 (im tab W p q m r l A c S ρ γ B w0):=by
 obtain ⟨s,hs,hob⟩:=ug.of h.tab;rw [<-hs]at hob;have ho:=vA hob;obtain ⟨g0,g1,g2,g3,g4,g5⟩:=uA htl h.tab;obtain ⟨n,e0⟩:=CR g0;obtain ⟨u1,e1,k1⟩:=Hn g1;obtain ⟨u2,e2,k2⟩:=Hn g2;obtain ⟨u3,e3,k3⟩:=Hn g3;obtain ⟨u4,e4,k4⟩:=Hn g4;obtain ⟨u5,e5,k5⟩:=Hn g5;obtain ⟨y0,d0,-,f0⟩:=h.fix (k:=3) e0 rfl;obtain ⟨y1,d1,s1,f1⟩:=h.fix e1 k1;obtain ⟨y2,d2,s2,f2⟩:=h.fix e2 k2;obtain ⟨y3,d3,s3,f3⟩:=h.fix e3 k3;obtain ⟨y4,d4,s4,f4⟩:=h.fix e4 k4;obtain ⟨y5,d5,s5,f5⟩:=h.fix e5 k5;obtain ⟨x1,rfl⟩:=Jx s1;obtain ⟨x2,rfl⟩:=Gaa s2;obtain ⟨x3,rfl⟩:=Jx s3;obtain ⟨x4,rfl⟩:=Jx s4;obtain ⟨x5,rfl⟩:=Jx s5;have hy0:y0= .int .i64 n:=by
  have: @den (Th.at ρ γ) (.int .i64 n)= .v (.int .i64 n):=rfl
  rw [this]at d0;cases d0;rfl
 subst hy0;refine ⟨n,x1,x2,x3,x4,x5,e0,⟨fun w ⟨R,k⟩=>⟨f0 R w k,f1 R w k,f2 R w k,f3 R w k,f4 R w k,f5 R w k⟩,fun w k=> ?_,fun w k=> ?_,KN t Zh c1 w1 (by obtain ⟨s',e',k'⟩:=sal.of h.tab;rw [e'];exact k') ⟨R,h⟩,fun w k=> ?_,fun w k=> ?_,fun w k=> ?_⟩⟩
 . refine (Jn (t:=t) Zh c1 w1 (ho _ (.head _)) k).mono ?_
   rintro e w' ⟨v,v',R1,rfl,bo,hg,hv⟩
   split at hg
   . rename_i b;obtain ⟨n',e',rfl⟩:=Gx hg;rw [e0]at e';cases e';exact ⟨by rw [@vl (Th.at ρ γ) _ _ _ hv],bo⟩
   . cases hg
 . refine (Jn (t:=t) Zh c1 w1 (ho _ (.tail _ (.head _))) k).mono ?_
   rintro e w' ⟨v,v',R1,rfl,bo,hg,hv⟩
   split at hg
   . rename_i a b;simp only [Aa,Bool.and_eq_true]at hg;obtain ⟨⟨i1,i2⟩,i3,i4⟩:=hg;obtain ⟨l',hl,rfl⟩:= @Dp (Th.at ρ γ) _ _ _ hv;obtain ⟨z1,l1,rfl,Kh,hl⟩:= @LR.Ea (Th.at ρ γ) _ _ _ _ hl;obtain ⟨z2,l2,rfl,tg,hl⟩:= @LR.Ea (Th.at ρ γ) _ _ _ _ hl;obtain rfl:= @LR.Fc (Th.at ρ γ) _ _ hl;obtain rfl:=Wk i1 (Kn i3 e1) Kh d1;obtain rfl:=Wk i2 (Kn i4 e2) tg d2;exact ⟨rfl,bo⟩
   . cases hg
 . refine (Jn (t:=t) Zh c1 w1 (ho _ (.tail _ (.tail _ (.tail _ (.head _))))) k).mono ?_
   rintro e w' ⟨v,v',R1,rfl,bo,hg,hv⟩;simp only [Aa,Bool.and_eq_true]at hg;obtain rfl:=Wk hg.1 (Kn hg.2 e3) hv d3
   exact ⟨rfl,bo⟩
 . refine (Jn (t:=t) Zh c1 w1 (ho _ (.tail _ (.tail _ (.tail _ (.tail _ (.head _)))))) k).mono ?_
   rintro e w' ⟨v,v',R1,rfl,bo,hg,hv⟩;simp only [Aa,Bool.and_eq_true]at hg;obtain rfl:=Wk hg.1 (Kn hg.2 e4) hv d4
   exact ⟨rfl,bo⟩
 . refine (Jn (t:=t) Zh c1 w1 (ho _ (.tail _ (.tail _ (.tail _ (.tail _ (.tail _ (.head _))))))) k).mono ?_
   rintro e w' ⟨v,v',R1,rfl,bo,hg,hv⟩;simp only [Aa,Bool.and_eq_true]at hg;obtain rfl:=Wk hg.1 (Kn hg.2 e5) hv d5
   exact ⟨rfl,bo⟩
end
end Sk
end Go.Proofs.YtfnkmolffhfpoaaGreat
namespace Go.Proofs.YtfnkmolffhfpoaaGreat
open Go.RowKit Go.BigFrame
def Haa(f:Nat->Int)(n nt np:Nat)(W:World)(e:Ending)(W':World):Prop:=
 ∃R:Rv,e= .returned (.pointer (some ⟨R.m,0,none⟩))/\ua W' R/\Init R f n nt np/\(∀k,R.own k->W.heap.size<=k)/\Below W.heap.size W W'/\R.wm=0/\R.seen=f/\R.kept=f/\R.pass=(fun _=>0)/\R.wr=fun _=>0
theorem vI{m d kb sb wb fb pb n nt np c0 c1 c3:Nat}{fg:Nat->Nat}{f:Nat->Int}{B:Nat}(h1:∀g,g∈[m,d,kb,sb,wb,fb,pb]->B<=g)(h2:∀t,t<nt->B<=fg t):∀k,(Rv.start m d kb sb wb fb pb n nt np c0 c1 c3 fg f).own k->B<=k:=by
 rintro k (hk|⟨t,ht,e⟩)
 . exact h1 k hk
 . have:=h2 t ht;have e:fg t=k:=e;omega
theorem AW{W0 W:World}{d kb sb wb c0 c1 fb nt c3 m:Nat}{fg:Nat->Nat}{f:Nat->Int}(h:wC W0 W d kb sb wb c0 c1 (.slice (some ⟨fb,0,none⟩) nt c3) nt m fg f):(∀g,g∈[d,kb,sb,wb,fb]->g<W.heap.size/\W0.heap.size<=g)/\∀t,t<nt->fg t<W.heap.size/\W0.heap.size<=fg t:=by
 refine ⟨fun g hg=> ?_,fun t ht=>⟨(h.rf t ht).lt,h.bf t ht⟩⟩;simp only [List.mem_cons,List.not_mem_nil,or_false]at hg;have hb:=h.base;rcases hg with rfl|rfl|rfl|rfl|rfl
 . exact ⟨(Array.getElem?_eq_some_iff.1 h.row).1,hb _ (by simp)⟩
 . exact ⟨h.rk.lt,hb _ (by simp)⟩
 . exact ⟨h.rs.lt,hb _ (by simp)⟩
 . exact ⟨h.rw.lt,hb _ (by simp)⟩
 . have:=Qf h.fl (k:=g) rfl;exact ⟨this.2,this.1⟩
theorem MF{W0 W W2:World}{d kb sb wb fb c0 c1 c3 n nt np m pb:Nat}{fg:Nat->Nat}{f:Nat->Int}{B:World}(h:wC W0 W d kb sb wb c0 c1 (.slice (some ⟨fb,0,none⟩) nt c3) nt n fg f)(hB:B.heap.size<=W0.heap.size)(hb:Below W.heap.size W W2)(ED:Below B.heap.size B W2)
  (hm:W.heap.size<=m)(hp:W.heap.size<=pb\/B.heap.size<=pb/\pb<W0.heap.size)(hmp:m≠pb)
  (hr:W2.heap[m]?=some (.cells #[.pointer (some ⟨d,0,none⟩), .slice (some ⟨pb,0,none⟩) np np, .int .i64 0, .int .i64 0, .int .i64 0, .int .i64 0, .int .i64 0, .int .u64 0, .int .u64 0, .bool false] 141 (0,0)))(hpr:Za W2 pb np fun _=> .int .u64 0)(n0:0<n)(n1:n<=262144)(t0:0<nt)(t1:nt<=64)(p1:np<=262144):
  Haa f n nt np B (.returned (.pointer (some ⟨m,0,none⟩))) W2:=by
 obtain ⟨l1,l2⟩:=AW h;have s0:=h.below.size;refine ⟨Rv.start m d kb sb wb fb pb n nt np c0 c1 c3 fg f,rfl, ?_,oR _ _ _ _ _ _ _ _ _ _ _ _ _ _ _,vI ?_ (fun t ht=>by have:=l2 t ht;omega),ED,rfl,rfl,rfl,rfl,rfl⟩
 . refine AN h ?_ ⟨fun hg=>by have:=l1 m hg;omega,fun t ht=>by have:=l2 t ht;omega⟩ ⟨fun hg=>by have:=l1 pb hg;omega,fun t ht=>by have:=l2 t ht;omega⟩ hmp hr hpr n0 n1 t0 t1 p1
   rintro g (hg|⟨t,ht,rfl⟩)
   . exact hb.block g (l1 g hg).1
   . exact hb.block _ (l2 t ht).1
 . intro g hg;rcases List.mem_cons.1 hg with rfl|hg
   . omega
   . by_cases e:g=pb
     . omega
     . have:g∈[d,kb,sb,wb,fb]:=by
        simp only [List.mem_cons,List.not_mem_nil,or_false]at hg⊢;omega
       have:=l1 g this;omega
set_option maxRecDepth 100000 in
set_option maxHeartbeats 2000000 in
theorem BW(b off m cap nt np:Nat)(UG:0<m)(gD:m<=262144)(lO:0<nt)(BX:nt<=64)(hp:np<=262144)(f:Nat->Int)(W0:World)(hb:b<W0.heap.size)(hw:∀j,j<8*m->W0.cell? ⟨b,off+j,none⟩=some (.int .u64 (f j))):
  Calls Tryz.prog 45 #[.slice (some ⟨b,off,none⟩) (8*m) cap, .int .i64 nt, .int .i64 np] W0 (Haa f m nt np W0):=by
 have HO:Hid (∀w,Below W0.heap.size W0 w->Calls Tryz.prog 105 #[.slice (some ⟨b,off,none⟩) (8*m) cap, .int .i64 nt] w (WX w m nt f)):=Lib.hid fun w h=>BN _ b off m cap nt rfl UG gD lO BX f w (Nat.lt_of_lt_of_le hb h.size) fun j hj=>(h.cell (p:=⟨b,off+j,none⟩) hb).trans (hw j hj)
 have HB:=Lib.hid (And.intro UG (And.intro gD (And.intro lO (And.intro BX hp))));have jU:=Tp 99 43 _ _ 8 Tryz.underlying99 JH rfl np (by omega) (by omega);have i0:(0:Int)<=(np:Int):=by omega
 clear hb hw
 go_enter Tryz.func45,Tryz.ntmps45
 go_wp2_with fail
 go_region_with (go_at_call 105;refine (HO.out _ (by first|exact (Below.refl _ _).drew|exact ((Below.refl _ _).alloc (Nat.le_refl _) _).drew|exact (Below.refl _ _).drew.alloc (by simp) _)).mono ?_;rintro e w1 ⟨d,kb,sb,wb,fb,c0,c1,c3,fg,rfl,hd⟩;have HD:=Lib.hid hd;clear hd)
 all_goals
  go_wp2_with fail
  go_ret
 . obtain ⟨h1,h2,h3,h4,h5⟩:=HB.out;have z:=HD.out.below.size;refine MF (W0:=W0.drew) (W:=w1) (m:=w1.heap.size+1) (pb:=w1.heap.size) HD.out (Nat.le_refl _) (((Below.refl _ _).alloc (Nat.le_refl _) _).alloc (by simp) _) (((((Below.refl _ W0).drew.trans HD.out.below).alloc z _).alloc (by simp at z⊢;omega) _)) (by omega) (Or.inl (Nat.le_refl _)) (by omega) (Hd w1 _ _).2 ⟨_,_,(Hd w1 _ _).1,fun k hk=>Jg _ _ _ hk⟩ h1 h2 h3 h4 h5
 . obtain ⟨h1,h2,h3,h4,h5⟩:=HB.out;have z:=HD.out.below.size;have zz:W0.heap.size+1<=w1.heap.size:=by simp at z;omega
   have e0:w1.heap[W0.heap.size]?=some (.cells (madeCells #[.int .u64 0] np) 43):=(HD.out.below.block W0.heap.size (by simp)).trans (heap_alloc_new W0 _)
   refine MF (W0:=(W0.alloc (.cells (madeCells #[.int .u64 0] np) 43)).drew) (W:=w1) (m:=w1.heap.size) (pb:=W0.heap.size) HD.out (by simp) ((Below.refl _ _).alloc (Nat.le_refl _) _) (((((Below.refl _ W0).alloc (Nat.le_refl _) _).drew.trans (HD.out.below.mono (by simp))).alloc (by omega) _)) (by omega) (Or.inr ⟨Nat.le_refl _,by simp⟩) (by omega) (heap_alloc_new w1 _) ⟨_,_,(Below.heap_alloc w1 _ _ (by omega)).trans e0,fun k hk=>Jg _ _ _ hk⟩ h1 h2 h3 h4 h5
end Go.Proofs.YtfnkmolffhfpoaaGreat
