/- -/
import Derived.Test.YtfnkmolffhfpoaaGreatHb36
import Derived.Test.YtfnkmolffhfpoaaGreatHb37
set_option linter.unusedVariables false
set_option linter.unusedSimpArgs false
set_option linter.unusedSectionVars false
namespace Go.Proofs.YtfnkmolffhfpoaaGreat
namespace Sk
open Go.RowKit
theorem pZ(M:Mv)(x:Acc)(nw:Int)(pu:Bool):(M.Oe x nw pu).np=M.np:=by
 unfold Mv.Oe Mv.note Mv.put
 split
 . split<;>(first|rfl|(split<;>rfl))
 . rfl
theorem aD(M:Mv)(at_ wv:Nat->Int):∀k,(Nd M at_ wv k).wr=M.wr/\(Nd M at_ wv k).wm=M.wm/\(Nd M at_ wv k).np=M.np
 |0=>⟨rfl,rfl,rfl⟩
 |k+1=>by
  obtain ⟨h1,h2,h3⟩:=aD M at_ wv k;exact ⟨(UG _ _ _ _).1.trans h1,(bt _ _ _ _).1.trans h2,(pZ _ _ _ _).trans h3⟩
theorem au(R:Rv)(at_ wv:Nat->Int):∀k:Nat,(je R at_ wv k).wr=R.wr/\(je R at_ wv k).wm=R.wm/\(je R at_ wv k).ck=R.ck+k
 |0=>⟨rfl,rfl,by show R.ck=R.ck+0;omega⟩
 |k+1=>by
  obtain ⟨h1,h2,h3⟩:=au R at_ wv k;obtain ⟨s1,s2,s3⟩:=Pz (je R at_ wv k) ⟨2,0,at_ k,0,wv k,false⟩ (wv k) true;exact ⟨s3.trans h1,s2.trans h2,s1.trans (by rw [h3];omega)⟩
theorem bD(R:Rv)(h:Wd R)(hc:R.ck<=1000)(at_ wv:Nat->Int)(n:Nat)(hu:∀i,i<n->cd (wv i))(hn:n<=1000):∀k:Nat,k<=n->Wd (je R at_ wv k)
 |0,_=>h
 |k+1,hk=>(bD R h hc at_ wv n hu hn k (by omega)).Oe _ _ (by rw [(au R at_ wv k).2.2];omega) (hu k (by omega))
theorem yN{th sl lo bu:Nat}(h:(⟨th,sl,lo,bu⟩:Dc).qm):Bg ⟨th,sl,lo,bu⟩:=by
 obtain ⟨⟨f1,f2,f3,f4,f5,f6,f7,f8⟩,f9,f10,f11,f12⟩:=h;simp only at f1 f2 f3 f4 f5 f6 f7 f8 f9 f10 f11 f12;constructor<;>simp only<;>omega
def mp0(m r l:Nat):Mp:=fun b=>match b with|0=>some (m,0)|1=>some (r,0)|2=>some (l,0)|_=>none
def Lx(A:Rv)(c:Dc):Nat->Gh:=fun i=>match i with|0=> .mem A|1=> .lay c|_=> .mem Vv
theorem UJ{W w:World}{l:Nat}{M:Mv}{N:Rv}{c:Dc}(hb:Below W.heap.size W w)(hl:Ac w l c.lv)(hf:Bg c)(hM:Ba w M)(hR:ma w N)(lo:W.heap.size<=l)(VJ:∀k,M.own k->W.heap.size<=k/\k≠l/\¬N.own k)(gU:∀k,N.own k->W.heap.size<=k/\k≠l)(gX:bg M N)(Dq:Wd N)(ρ:Nat->Int):
  @Ic (Th.at ρ (Lx N c)) (fun k=>W.heap.size<=k) W (mp0 M.m N.m l) (OB Gx) w:=by
 letI:Interp:=Th.at ρ (Lx N c)
 have om:M.own M.m:=Or.inl (by simp [Mv.blocks]);have orr:N.own N.m:=Or.inl (by simp [Rv.blocks]);have hmr:M.m≠N.m:=fun e=>(VJ _ om).2.2 (e▸orr)
 have nar:M.m≠l:=(VJ _ om).2.1
 have eU:N.m≠l:=(gU _ orr).2
 have g0:(OB Gx).get 0=some (.gh (vr 9 0)):=by rw [Yh];rfl
 have g1:(OB Gx).get 1=some (.gh (sy xp [vr 9 0])):=by rw [Yh];rfl
 have g2:(OB Gx).get 2=some (.gh (vr 11 1)):=by rw [Yh];rfl
 have lA:∀b r s,mp0 M.m N.m l b=some (r,s)->(b=0/\r=M.m)\/(b=1/\r=N.m)\/(b=2/\r=l):=by
  intro b r s h;unfold mp0 at h
  split at h
  . cases h;exact .inl ⟨rfl,rfl⟩
  . cases h;exact .inr (.inl ⟨rfl,rfl⟩)
  . cases h;exact .inr (.inr ⟨rfl,rfl⟩)
  . cases h
 refine ⟨fun b x h=> ?_,fun b r s h=> ?_,fun b r s o h hg=> ?_,fun b1 b2 r s1 s2 h1 h2 Jc=> ?_, ?_,fun k hk=>hk, ?_⟩
 . obtain ⟨r,s⟩:=x
   show b<3
   rcases lA b r s h with⟨rfl,-⟩|⟨rfl,-⟩|⟨rfl,-⟩<;>omega
 . rcases lA b r s h with⟨-,rfl⟩|⟨-,rfl⟩|⟨-,rfl⟩
   . exact hM.lt om
   . exact hR.lt orr
   . exact hl.lt
 . rcases lA b r s h with⟨rfl,rfl⟩|⟨rfl,rfl⟩|⟨rfl,rfl⟩
   . rw [g0]at hg;cases hg;exact ⟨(VJ _ om).1,trivial⟩
   . rw [g1]at hg;cases hg;exact ⟨(gU _ orr).1,trivial⟩
   . rw [g2]at hg;cases hg;exact ⟨lo,trivial⟩
 . exfalso;rcases lA _ _ _ h1 with⟨rfl,e1⟩|⟨rfl,e1⟩|⟨rfl,e1⟩<;>rcases lA _ _ _ h2 with⟨rfl,e2⟩|⟨rfl,e2⟩|⟨rfl,e2⟩<;>omega
 . exact ⟨hb.os,hb.tape,hb.output,hb.size,fun k hk _=>hb.block k hk⟩
 . refine ⟨fun b=>match b with|0=>M.own|1=>N.own|_=>fun k=>k=l,fun b r s e h hg=> ?_⟩;rcases lA b r s h with⟨rfl,rfl⟩|⟨rfl,rfl⟩|⟨rfl,rfl⟩
   . rw [g0]at hg;cases hg;refine ⟨⟨.mem N,rfl,M,hM,rfl,rfl,gX,Dq⟩,fun k hk=>(VJ k hk).1,fun b2 r2 s2 o2 Jc h2 CA=> ?_⟩;rcases lA b2 r2 s2 h2 with⟨rfl,rfl⟩|⟨rfl,rfl⟩|⟨rfl,rfl⟩
     . exact absurd rfl Jc
     . exact ⟨fun hk=>(VJ _ hk).2.2 orr,fun e2 he k hk=>(VJ k hk).2.2⟩
     . exact ⟨fun hk=>(VJ _ hk).2.1 rfl,fun e2 he k hk=>(VJ k hk).2.1⟩
   . rw [g1]at hg;cases hg;refine ⟨⟨.ref N,rfl,N,hR,rfl,rfl,⟨rfl,rfl,rfl,rfl,rfl,rfl,rfl,rfl,rfl,rfl,rfl,rfl⟩,Dq⟩,fun k hk=>(gU k hk).1,fun b2 r2 s2 o2 Jc h2 CA=> ?_⟩;rcases lA b2 r2 s2 h2 with⟨rfl,rfl⟩|⟨rfl,rfl⟩|⟨rfl,rfl⟩
     . exact ⟨fun hk=>(VJ _ om).2.2 hk,fun e2 he k hk JL=>(VJ k JL).2.2 hk⟩
     . exact absurd rfl Jc
     . exact ⟨fun hk=>(gU _ hk).2 rfl,fun e2 he k hk=>(gU k hk).2⟩
   . rw [g2]at hg;cases hg;refine ⟨⟨.lay c, ?_,hl,rfl,hf⟩,fun k hk=>by subst hk;exact lo,fun b2 r2 s2 o2 Jc h2 CA=> ?_⟩
     . exact @vi ρ (Lx N c) N c ⟨rfl,rfl,hf⟩
     rcases lA b2 r2 s2 h2 with⟨rfl,rfl⟩|⟨rfl,rfl⟩|⟨rfl,rfl⟩
     . exact ⟨fun hk=>nar hk,fun e2 he k hk JL=>(VJ k JL).2.1 hk⟩
     . exact ⟨fun hk=>eU hk,fun e2 he k hk JL=>(gU k JL).2 hk⟩
     . exact absurd rfl Jc
theorem Mx:∀{l f:List Nat},eS l f=true->∀(i x:Nat),l[i]?=some x->f[i]?=some x
 |[],f,h,i,x,hi=>by simp at hi
 |a::az,[],h,i,x,hi=>by cases h
 |a::az,b::bs,h,i,x,hi=>by
  simp only [eS]at h
  split at h
  . rename_i OX;rw [Ja]at OX;have OX:=of_decide_eq_true OX;cases i with
    |zero=>simp at hi⊢;omega
    |succ i=>simpa using Mx h i x (by simpa using hi)
  . cases h
theorem WJ{R:Mp}{u u':Value}[Interp](h:PJ u=true)(hv:VR R u u'):∃x s,R (Ij u)=some (x,s)/\u'= .pointer (some ⟨x,0,none⟩):=by
 unfold PJ at h
 split at h
 . rename_i b o;rw [Ja]at h;obtain rfl:=of_decide_eq_true h;obtain ⟨x,s,h1,h2⟩:=wg hv;exact ⟨x,s,h1,h2⟩
 . cases h
def opL:Value:= .agg ⟨[vr 3 1,vr 6 2,vr 6 3]⟩
theorem Oae{R:Mp}{ρ:Nat->Int}{γ:Nat->Gh}(i:Nat)(n:Int)(hn:ρ i=n)(h0:-9223372036854775808<=n)(h1:n<=9223372036854775807): @VR (Th.at ρ γ) R (vr 3 i) (.int .i64 n):=by
 letI:Interp:=Th.at ρ γ
 refine Mc R (c:=3) rfl ?_
 show tc.v (Value.int .i64 (IntKind.i64.wrap (ρ i)))=_
 rw [hn];have:IntKind.i64.wrap n=n:=by simp [IntKind.wrap,IntKind.bits,IntKind.signed];omega
 rw [this]
theorem zN{R:Mp}{ρ:Nat->Int}{γ:Nat->Gh}(i:Nat)(n:Int)(hn:ρ i=n)(h0:0<=n)(h1:n<=4294967295): @VR (Th.at ρ γ) R (vr 6 i) (.int .u32 n):=by
 letI:Interp:=Th.at ρ γ
 refine Mc R (c:=6) rfl ?_
 show tc.v (Value.int .u32 (IntKind.u32.wrap (ρ i)))=_
 rw [hn];have:IntKind.u32.wrap n=n:=by simp [IntKind.wrap,IntKind.bits,IntKind.signed];omega
 rw [this]
theorem qZ[Interp]{R:Mp}{l l':List Value}(h:LR R l l'):VR R (.agg ⟨l⟩) (.agg ⟨l'⟩):= .agg l l' h.1 h.2
noncomputable section
def ym(S:Shape):Bool:=
 match Wj S.se 0 2,Wj S.se 0 3,Wj S.se 0 4,Wj S.se 0 5 with
 |some (.int .i64 n),some a,some b,some c=>Ia (Pg (Of n 0)) (Ia (isVar 3 1 a) (Ia (isVar 6 2 b) (isVar 6 3 c)))
 |_,_,_,_=>false
def du:List Value->Bool
 |a::b::c::d::_=>V2 0 [a,b,c,d]
 |_=>false
def cD(S:Shape)(vs:List Value)(s:Bd):Bool:=
 match vs with
 |[.bool _]=>Ia (Fx s.η) (Ia (ym S) (du s.θ))
 |_=>false
def AN(S:Shape)(vs:List Value)(s:Bd):Bool:=
 match vs with
 |[.int .i64 n]=>Ia (Of n 0) (Ia (Fx s.η) (Ia (ym S) (du s.θ)))
 |_=>false
def mS(vs:List Value):List Nat:=match vs with|[u]=>[Ij u,0,2]|_=>[]
def BN(S:Shape)(vs:List Value)(s:Bd):Bool:=
 match vs with
 |[u]=>Ia (PJ u) (Ia (eS (mS vs) s.f) (Ia (Fx s.η) (V2 0 s.θ)))
 |_=>false
def dD(fS:FuncId):List (FuncId×List Value):=[(fS,[pV,qV])]
def rZ(fI:FuncId):List (FuncId×List Value):=[(fI,[pV,opL])]
def sZ(fN:FuncId):List (FuncId×List Value):=[(fN,[.pointer (some ⟨2,0,none⟩),vr 3 0])]
def cH:List (Value×Value):=[(sy 280 [vr 3 1,rb 1],ff),(sy 280 [rb 8,vr 3 1],ff)]
def ghS(S:Shape):Bool:=match Qf S.se 1 with|some (.gh e)=>isVar 9 0 e|_=>false
def Uk:List Ua->Bool
 |[]=>true
 |s::ss=>match ghS s.shape with|true=>Uk ss|false=>false
end
theorem Nx:∀{tab:List Ua},Uk tab=true->∀{S:Shape},S∈Se tab->∃e,S.se[1]?=some (.gh e)/\isVar 9 0 e=true
 |[],h,S,hS=>by simp [Se]at hS
 |s::ss,h,S,hS=>by
  simp only [Uk]at h
  split at h
  . rename_i h1;simp only [Se,List.mem_cons]at hS;rcases hS with rfl|hS
    . unfold ghS at h1;rw [Gc]at h1
      split at h1
      . rename_i e he;exact ⟨e,he,h1⟩
      . cases h1
    . exact Nx h hS
  . cases h
structure Zi(tab:List Ua)(W:World)(p m l:Nat)(A:Rv)(c:Dc)(S:Shape)(ρ:Nat->Int)(γ:Nat->Gh)(B:Nat->Prop)(w0:World)(R:Mp)(w:World):Prop where
 tab:S∈Se tab
 ng:NG γ A c
 ins:InS Th S ρ γ B w0 R w
 r0:∃s,R 0=some (p,s)
 r1:∃s,R 1=some (m,s)
 r2:∃s,R 2=some (l,s)
 base:Below W.heap.size W w0
 own:∀k,B k->W.heap.size<=k
section
variable{tab:List Ua}{W:World}{p m l:Nat}{A:Rv}{c:Dc}{S:Shape}{ρ:Nat->Int}{γ:Nat->Gh}{B:Nat->Prop}{w0:World}{R:Mp}{w:World}
theorem Zi.below(h:Zi tab W p m l A c S ρ γ B w0 R w):Below W.heap.size W w:=by
 have k:= @Ic.below (Th.at ρ γ) _ _ _ _ _ h.ins.Cs;have b:=h.base;exact ⟨k.os.trans b.os,k.tape.trans b.tape,k.output.trans b.output,Nat.le_trans b.size k.size,fun i hi=>(k.block i (Nat.lt_of_lt_of_le hi b.size) fun hB=>by have:=h.own i hB;omega).trans (b.block i hi)⟩
theorem Zi.wd(h:Zi tab W p m l A c S ρ γ B w0 R w)(rm:Uk tab=true):Wd A:=by
 letI:Interp:=Th.at ρ γ
 obtain ⟨e,he,hv⟩:=Nx rm h.tab;obtain ⟨s,r1⟩:=h.r1;obtain ⟨O,hO⟩:=h.ins.Cs.lK;have g1:(OB S.se).get 1=some (.gh e):=by rw [Yh,he];rfl
 obtain ⟨⟨x,a1,a2⟩,-⟩:=hO 1 m s e r1 g1;rw [No (.inl rfl) hv,Ut h.ng]at a1;cases a1;obtain ⟨M,-,-,-,-,hw⟩:=a2;exact hw
theorem Zi.facts(h:Zi tab W p m l A c S ρ γ B w0 R w)(hw:Wd A)(c1:A.ck<999000)(w1:A.wm<999000):∀x,x∈mz S.facts Hv-> @den (Th.at ρ γ) x.1= @den (Th.at ρ γ) x.2:=fun x hx=>
 (Vt hx).elim (h.ins.facts x) (sF h.ng hw.ak c1 hw.oM w1 x)
theorem Zi.PJ(h:Zi tab W p m l A c S ρ γ B w0 R w): @VR (Th.at ρ γ) R pV (.pointer (some ⟨p,0,none⟩)):=by
 obtain ⟨s,e⟩:=h.r0;exact @VR.ptr (Th.at ρ γ) _ _ _ _ _ e
theorem Zi.oar(h:Zi tab W p m l A c S ρ γ B w0 R w): @VR (Th.at ρ γ) R qV (.pointer (some ⟨m,0,none⟩)):=by
 obtain ⟨s,e⟩:=h.r1;exact @VR.ptr (Th.at ρ γ) _ _ _ _ _ e
theorem XJ{θ:List Value}(h:du θ=true)(i:Nat)(hi:i<4):dm (T:=Th) ρ γ θ i=ρ i:=by
 unfold du at h
 split at h
 . rename_i a b c d t;have hs:∀j u,[a,b,c,d][j]?=some u->cz u=some j:=fun j u hu=>by
    have:=Wt h j u hu;rw [Nat.zero_add]at this;exact this
   unfold dm
   match i,hi with
   |0,_=>have:=hs 0 a rfl;simp only [List.getElem?_cons_zero,this]
   |1,_=>have:=hs 1 b rfl;simp only [List.getElem?_cons_succ,List.getElem?_cons_zero,this]
   |2,_=>have:=hs 2 c rfl;simp only [List.getElem?_cons_succ,List.getElem?_cons_zero,this]
   |3,_=>have:=hs 3 d rfl;simp only [List.getElem?_cons_succ,List.getElem?_cons_zero,this]
 . cases h
def mA(tab:List Ua)(W:World)(p m l:Nat)(A:Rv)(c:Dc)(ρ:Nat->Int)(w':World):Prop:=
 ∃(A':Rv) (S':Shape) (ρ':Nat->Int) (γ':Nat->Gh) (B:Nat->Prop) (w0:World) (R':Mp),Zi tab W p m l A' c S' ρ' γ' B w0 R' w'/\Grown A A'/\ym S'=true/\∀i,i<4->ρ' i=ρ i
theorem dH{qar:List Ua}(h:Zi qar W p m l A c S ρ γ B w0 R w)(Dq:Wd A){j:Nat}{S':Shape}{sb:Bd}{R1:Mp}{w':World}(hj:(Se tab)[j]?=some S')(hle:R.le R1)(Cf:InS Th S' (dm (T:=Th) ρ γ sb.θ) (Ek (T:=Th) ρ γ sb.η) B w0 (Nl sb.f R1) w')(eu:∀i,i<3->Nl sb.f R1 i=R1 i)(Uv:Fx sb.η=true)(hb:ym S'=true)(h4:du sb.θ=true):mA tab W p m l A c ρ w':=by
 obtain ⟨A',ng',Kk⟩:=Ix (θ:=sb.θ) h.ng Dq.ak Dq.oM Uv h.ng.qm;have hr:∀i x,i<3->(∃s,R i=some (x,s))->∃s,Nl sb.f R1 i=some (x,s):=fun i x hi ⟨s,e⟩=>⟨s,by rw [eu i hi];exact hle _ _ e⟩
 exact ⟨A',S',_,_,B,w0,_,⟨List.mem_of_getElem? hj,ng',Cf,hr 0 p (by omega) h.r0,hr 1 m (by omega) h.r1,hr 2 l (by omega) h.r2,h.base,h.own⟩,Kk,hb,fun i hi=>XJ h4 i hi⟩
theorem YJ{fS:FuncId}(ug:TJ (fun s=>ym s.shape=true->∃t,DX env 100000 (dD fS) cD tab 3 s t=true) tab)(rm:Uk tab=true)(h:Zi tab W p m l A c S ρ γ B w0 R w)(hb:ym S=true)(c1:A.ck<999000)(w1:A.wm<999000):
  Calls Tryz.prog fS #[.pointer (some ⟨p,0,none⟩), .pointer (some ⟨m,0,none⟩)] w (fun e w'=>(∃b,e= .returned (.bool b))/\mA tab W p m l A c ρ w'):=by
 obtain ⟨s,rfl,ht⟩:=ug.of h.tab;obtain ⟨t,ht⟩:=ht hb;have Dq:=h.wd rm;have ht:ez env 100000 (dD fS) cD (Se tab) 3 (OB s.shape.se) t (mz s.shape.facts Hv)=true:=ht;have hA: @Fk (Th.at ρ γ) R (dD fS) [(fS,#[.pointer (some ⟨p,0,none⟩), .pointer (some ⟨m,0,none⟩)])]:=
  ⟨rfl, @lr2 (Th.at ρ γ) _ _ _ _ _ h.PJ h.oar,trivial⟩
 have hc:=Gj Qk h.ins.Cs hA ht (h.facts Dq c1 w1);unfold Ce at hc;refine hc.mono ?_
 rintro e w' ⟨v,rfl,j,S',vs,sb,R1,hj,Og,hle,tZ,Cf,eu⟩;unfold cD at Og
 split at Og
 . rename_i b;simp only [za,Bool.and_eq_true]at Og;obtain ⟨Uv,ZJ,h4⟩:=Og;obtain ⟨y,l1,e1,hy,hl⟩:= @LR.qa (Th.at ρ γ) _ _ _ _ tZ;cases e1;obtain rfl:= @ll (Th.at ρ γ) _ _ _ hy;exact ⟨⟨b,rfl⟩,dH h Dq hj hle Cf eu Uv ZJ h4⟩
 . cases Og
theorem CN{fI:FuncId}{s0:Ua}{t:Tree}(Fq:ez env 100000 (rZ fI) AN (Se tab) 3 (OB s0.shape.se) t (mz cH Hv)=true)(rm:Uk [s0]=true)(h:Zi [s0] W p m l A c S ρ γ B w0 R w)(c1:A.ck<999000)(w1:A.wm<999000){k x y:Int}(e1:ρ 1=k)(e2:ρ 2=x)(e3:ρ 3=y)(k0:1<=k)(k1:k<=8)(x0:0<=x)(x1:x<=4294967295)(y0:0<=y)(y1:y<=4294967295):
  Calls Tryz.prog fI #[.pointer (some ⟨p,0,none⟩), .agg #[.int .i64 k, .int .u32 x, .int .u32 y]] w (fun e w'=>e= .returned (.int .i64 0)/\mA tab W p m l A c ρ w'):=by
 have Dq:=h.wd rm;have hS:S=s0.shape:=by have:=h.tab;simpa [Se]using this
 subst hS;have Uj: @VR (Th.at ρ γ) R opL (.agg #[.int .i64 k, .int .u32 x, .int .u32 y]):=
  @qZ (Th.at ρ γ) R _ [.int .i64 k, .int .u32 x, .int .u32 y] (@LR.cons (Th.at ρ γ) _ _ _ _ _ (Oae 1 k e1 (by omega) (by omega)) (@lr2 (Th.at ρ γ) _ _ _ _ _ (zN 2 x e2 x0 x1) (zN 3 y e3 y0 y1)))
 have hA: @Fk (Th.at ρ γ) R (rZ fI) [(fI,#[.pointer (some ⟨p,0,none⟩), .agg #[.int .i64 k, .int .u32 x, .int .u32 y]])]:=
  ⟨rfl, @lr2 (Th.at ρ γ) _ _ _ _ _ h.PJ Uj,trivial⟩
 have hk:∀z,z∈mz cH Hv-> @den (Th.at ρ γ) z.1= @den (Th.at ρ γ) z.2:=by
  letI:Interp:=Th.at ρ γ
  intro z hz;rcases Vt hz with hz|hz
  . have dv:den (vr 3 1)= .v (.int .i64 k):=by
     show tc.v (Value.int .i64 (IntKind.i64.wrap (ρ 1)))=_
     rw [e1,Rk _ (by omega) (by omega)]
    have dl:∀n:Int,den (rb n)= .v (.int .i64 n):=fun n=>rfl
    simp only [cH,List.mem_cons,List.not_mem_nil,or_false]at hz;rcases hz with rfl|rfl
    . have e:den (sy 280 [vr 3 1,rb 1])=rh 280 [den (vr 3 1),den (rb 1)]:=rfl;rw [e,dv,dl]
      show tc.v (fk 8 (if k<1 then 1 else 0))=tc.v (.bool false)
      rw [if_neg (by omega)];rfl
    . have e:den (sy 280 [rb 8,vr 3 1])=rh 280 [den (rb 8),den (vr 3 1)]:=rfl;rw [e,dv,dl]
      show tc.v (fk 8 (if 8<k then 1 else 0))=tc.v (.bool false)
      rw [if_neg (by omega)];rfl
  . exact sF h.ng Dq.ak c1 Dq.oM w1 z hz
 have hc:=Gj Qk h.ins.Cs hA Fq hk;unfold Ce at hc;refine hc.mono ?_
 rintro e w' ⟨v,rfl,j,S',vs,sb,R1,hj,Og,hle,tZ,Cf,eu⟩;unfold AN at Og
 split at Og
 . rename_i n;simp only [za,Bool.and_eq_true]at Og;obtain ⟨hn,Uv,ZJ,h4⟩:=Og;rw [oe]at hn;have hn:=of_decide_eq_true hn;subst hn;obtain ⟨y',l1,e1',hy,hl⟩:= @LR.qa (Th.at ρ γ) _ _ _ _ tZ;cases e1';obtain rfl:= @wc (Th.at ρ γ) _ _ _ _ hy;exact ⟨rfl,dH h Dq hj hle Cf eu Uv ZJ h4⟩
 . cases Og
theorem DN{fN:FuncId}{s0:Ua}(Fq:rF env 100000 (sZ fN) mS BN (Se [s0]) (OB Gx) (.leaf 0) Hv=true){M:Mv}{N:Rv}(hb:Below W.heap.size W w)(hl:Ac w l c.lv)(hf:Bg c)(hM:Ba w M)(hR:ma w N)(lo:W.heap.size<=l)(VJ:∀k,M.own k->W.heap.size<=k/\k≠l/\¬N.own k)(gU:∀k,N.own k->W.heap.size<=k/\k≠l)(gX:bg M N)(Dq:Wd N)(hc:N.ck<999000)(hw:N.wm<999000)
  (t k x y:Int)(t0:-9223372036854775808<=t)(t1:t<=9223372036854775807):
  Calls Tryz.prog fN #[.pointer (some ⟨l,0,none⟩), .int .i64 t] w (fun e w'=>∃(p:Nat) (A:Rv) (S:Shape) (ρ:Nat->Int) (γ:Nat->Gh) (R:Mp),e= .returned (.pointer (some ⟨p,0,none⟩))/\Zi [s0] W p M.m l A c S ρ γ (fun k=>W.heap.size<=k) W R w'/\Grown N A/\ρ 1=k/\ρ 2=x/\ρ 3=y):=by
 obtain ⟨ρ,hρ⟩:∃ρ:Nat->Int,ρ=fun i=>match i with|0=>t|1=>k|2=>x|_=>y:=⟨_,rfl⟩
 have hS:=UJ hb hl hf hM hR lo VJ gU gX Dq ρ;have hng:NG (Lx N c) N c:=⟨rfl,rfl,hf⟩;have e0:ρ 0=t:=congrFun hρ 0;have e1:ρ 1=k:=congrFun hρ 1;have e2:ρ 2=x:=congrFun hρ 2;have e3:ρ 3=y:=congrFun hρ 3;have hA: @Fk (Th.at ρ (Lx N c)) (mp0 M.m N.m l) (sZ fN) [(fN,#[.pointer (some ⟨l,0,none⟩), .int .i64 t])]:=
  ⟨rfl, @lr2 (Th.at ρ (Lx N c)) _ _ _ _ _ (@VR.ptr (Th.at ρ (Lx N c)) _ 2 0 l 0 rfl) (Oae 0 t e0 t0 t1),trivial⟩
 have Wn:=gn Qk hS hA Fq (sF hng Dq.ak hc Dq.oM hw);unfold Ce at Wn;refine Wn.mono ?_
 rintro e w' ⟨v,rfl,j,S,vs,s,R1,hj,Og,hle,tZ,Cf⟩;unfold BN at Og
 split at Og
 . rename_i u;simp only [za,Bool.and_eq_true]at Og;obtain ⟨h1,h3,h4,h5⟩:=Og;obtain ⟨A',ng',Kk⟩:=Ix (θ:=s.θ) hng Dq.ak Dq.oM h4 hf;obtain ⟨y1,l1,e1',hy1,CP⟩:= @LR.qa (Th.at ρ (Lx N c)) _ _ _ _ tZ;cases e1';obtain ⟨p,sp,ep,rfl⟩:= @WJ _ _ _ (Th.at ρ (Lx N c)) h1 hy1;have hr:∀i b x z,(mS [u])[i]?=some b->R1 b=some (x,z)->∃z,Nl s.f R1 i=some (x,z):=fun i b x z hi hx=>⟨z,by unfold Nl;rw [Mx h3 i b hi];exact hx⟩
   rw [Eae (η:=s.η) h5]at Cf;exact ⟨p,A',S,_,_,_,rfl,⟨List.mem_of_getElem? hj,ng',Cf,hr 0 _ p sp rfl ep,hr 1 0 M.m 0 rfl (hle _ _ rfl),hr 2 2 l 0 rfl (hle _ _ rfl),Below.refl _ _,fun k hk=>hk⟩,Kk,e1,e2,e3⟩
 . cases Og
end
end Sk
end Go.Proofs.YtfnkmolffhfpoaaGreat
