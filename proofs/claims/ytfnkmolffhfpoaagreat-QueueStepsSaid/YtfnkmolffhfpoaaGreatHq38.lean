/- -/
import Derived.Test.YtfnkmolffhfpoaaGreatHq36
import Derived.Test.YtfnkmolffhfpoaaGreatHq37
import Derived.Test.YtfnkmolffhfpoaaGreatHq20
set_option linter.unusedVariables false
set_option linter.unusedSimpArgs false
set_option linter.unusedSectionVars false
namespace Go.Proofs.YtfnkmolffhfpoaaGreat
namespace Sk
open Go.RowKit
theorem Naa(M:Mv)(x:Acc)(nw:Int)(pu:Bool):(M.Me x nw pu).np=M.np:=by
 unfold Mv.Me Mv.note Mv.put
 split
 . split<;>(first|rfl|(split<;>rfl))
 . rfl
theorem SF(M:Mv)(at_ wv:Nat->Int):∀k,(Xd M at_ wv k).wr=M.wr/\(Xd M at_ wv k).wm=M.wm/\(Xd M at_ wv k).np=M.np
 |0=>⟨rfl,rfl,rfl⟩
 |k+1=>by
  obtain ⟨h1,h2,h3⟩:=SF M at_ wv k;exact ⟨(lK _ _ _ _).1.trans h1,(pn _ _ _ _).1.trans h2,(Naa _ _ _ _).trans h3⟩
theorem Mx(R:Rv)(at_ wv:Nat->Int):∀k:Nat,(ze R at_ wv k).wr=R.wr/\(ze R at_ wv k).wm=R.wm/\(ze R at_ wv k).ck=R.ck+k
 |0=>⟨rfl,rfl,by show R.ck=R.ck+0;omega⟩
 |k+1=>by
  obtain ⟨h1,h2,h3⟩:=Mx R at_ wv k;obtain ⟨s1,s2,s3⟩:=fx (ze R at_ wv k) ⟨2,0,at_ k,0,wv k,false⟩ (wv k) true;exact ⟨s3.trans h1,s2.trans h2,s1.trans (by rw [h3];omega)⟩
theorem TF(R:Rv)(h:Wd R)(hc:R.ck<=1000)(at_ wv:Nat->Int)(n:Nat)(hu:∀i,i<n->Tc (wv i))(hn:n<=1000):∀k:Nat,k<=n->Wd (ze R at_ wv k)
 |0,_=>h
 |k+1,hk=>(TF R h hc at_ wv n hu hn k (by omega)).Me _ _ (by rw [(Mx R at_ wv k).2.2];omega) (hu k (by omega))
theorem Oaa{th sl lo bu:Nat}(h:(⟨th,sl,lo,bu⟩:Nc).Ho):sk ⟨th,sl,lo,bu⟩:=by
 obtain ⟨⟨f1,f2,f3,f4,f5,f6,f7,f8⟩,f9,f10,f11,f12⟩:=h;simp only at f1 f2 f3 f4 f5 f6 f7 f8 f9 f10 f11 f12;constructor<;>simp only<;>omega
def mp0(m r l:Nat):Mp:=fun b=>match b with|0=>some (m,0)|1=>some (r,0)|2=>some (l,0)|_=>none
def Tu(A:Rv)(c:Nc):Nat->Gh:=fun i=>match i with|0=> .mem A|1=> .lay c|_=> .mem tQ
theorem LN{W w:World}{l:Nat}{M:Mv}{N:Rv}{c:Nc}(hb:Below W.heap.size W w)(hl:Kc w l c.lv)(hf:sk c)(hM:za w M)(hR:ua w N)(lo:W.heap.size<=l)(MN:∀k,M.own k->W.heap.size<=k/\k≠l/\¬N.own k)(bY:∀k,N.own k->W.heap.size<=k/\k≠l)(j7:Ic M N)(Qu:Wd N)(ρ:Nat->Int):
  @Vc (Th.at ρ (Tu N c)) (fun k=>W.heap.size<=k) W (mp0 M.m N.m l) (Cu FF) w:=by
 letI:Interp:=Th.at ρ (Tu N c)
 have om:M.own M.m:=Or.inl (by simp [Mv.blocks]);have orr:N.own N.m:=Or.inl (by simp [Rv.blocks]);have hmr:M.m≠N.m:=fun e=>(MN _ om).2.2 (e▸orr)
 have May:M.m≠l:=(MN _ om).2.1
 have XX:N.m≠l:=(bY _ orr).2
 have g0:(Cu FF).get 0=some (.gh (vr 9 0)):=by rw [zg];rfl
 have g1:(Cu FF).get 1=some (.gh (sy Cs [vr 9 0])):=by rw [zg];rfl
 have g2:(Cu FF).get 2=some (.gh (vr 11 1)):=by rw [zg];rfl
 have LC:∀b r s,mp0 M.m N.m l b=some (r,s)->(b=0/\r=M.m)\/(b=1/\r=N.m)\/(b=2/\r=l):=by
  intro b r s h;unfold mp0 at h
  split at h
  . cases h;exact .inl ⟨rfl,rfl⟩
  . cases h;exact .inr (.inl ⟨rfl,rfl⟩)
  . cases h;exact .inr (.inr ⟨rfl,rfl⟩)
  . cases h
 refine ⟨fun b x h=> ?_,fun b r s h=> ?_,fun b r s o h hg=> ?_,fun b1 b2 r s1 s2 h1 h2 bc=> ?_, ?_,fun k hk=>hk, ?_⟩
 . obtain ⟨r,s⟩:=x
   show b<3
   rcases LC b r s h with⟨rfl,-⟩|⟨rfl,-⟩|⟨rfl,-⟩<;>omega
 . rcases LC b r s h with⟨-,rfl⟩|⟨-,rfl⟩|⟨-,rfl⟩
   . exact hM.lt om
   . exact hR.lt orr
   . exact hl.lt
 . rcases LC b r s h with⟨rfl,rfl⟩|⟨rfl,rfl⟩|⟨rfl,rfl⟩
   . rw [g0]at hg;cases hg;exact ⟨(MN _ om).1,trivial⟩
   . rw [g1]at hg;cases hg;exact ⟨(bY _ orr).1,trivial⟩
   . rw [g2]at hg;cases hg;exact ⟨lo,trivial⟩
 . exfalso;rcases LC _ _ _ h1 with⟨rfl,e1⟩|⟨rfl,e1⟩|⟨rfl,e1⟩<;>rcases LC _ _ _ h2 with⟨rfl,e2⟩|⟨rfl,e2⟩|⟨rfl,e2⟩<;>omega
 . exact ⟨hb.os,hb.tape,hb.output,hb.size,fun k hk _=>hb.block k hk⟩
 . refine ⟨fun b=>match b with|0=>M.own|1=>N.own|_=>fun k=>k=l,fun b r s e h hg=> ?_⟩;rcases LC b r s h with⟨rfl,rfl⟩|⟨rfl,rfl⟩|⟨rfl,rfl⟩
   . rw [g0]at hg;cases hg;refine ⟨⟨.mem N,rfl,M,hM,rfl,rfl,j7,Qu⟩,fun k hk=>(MN k hk).1,fun b2 r2 s2 o2 bc h2 Hr=> ?_⟩;rcases LC b2 r2 s2 h2 with⟨rfl,rfl⟩|⟨rfl,rfl⟩|⟨rfl,rfl⟩
     . exact absurd rfl bc
     . exact ⟨fun hk=>(MN _ hk).2.2 orr,fun e2 he k hk=>(MN k hk).2.2⟩
     . exact ⟨fun hk=>(MN _ hk).2.1 rfl,fun e2 he k hk=>(MN k hk).2.1⟩
   . rw [g1]at hg;cases hg;refine ⟨⟨.ref N,rfl,N,hR,rfl,rfl,⟨rfl,rfl,rfl,rfl,rfl,rfl,rfl,rfl,rfl,rfl,rfl,rfl⟩,Qu⟩,fun k hk=>(bY k hk).1,fun b2 r2 s2 o2 bc h2 Hr=> ?_⟩;rcases LC b2 r2 s2 h2 with⟨rfl,rfl⟩|⟨rfl,rfl⟩|⟨rfl,rfl⟩
     . exact ⟨fun hk=>(MN _ om).2.2 hk,fun e2 he k hk CP=>(MN k CP).2.2 hk⟩
     . exact absurd rfl bc
     . exact ⟨fun hk=>(bY _ hk).2 rfl,fun e2 he k hk=>(bY k hk).2⟩
   . rw [g2]at hg;cases hg;refine ⟨⟨.lay c, ?_,hl,rfl,hf⟩,fun k hk=>by subst hk;exact lo,fun b2 r2 s2 o2 bc h2 Hr=> ?_⟩
     . exact @Ex ρ (Tu N c) N c ⟨rfl,rfl,hf⟩
     rcases LC b2 r2 s2 h2 with⟨rfl,rfl⟩|⟨rfl,rfl⟩|⟨rfl,rfl⟩
     . exact ⟨fun hk=>May hk,fun e2 he k hk CP=>(MN k CP).2.1 hk⟩
     . exact ⟨fun hk=>XX hk,fun e2 he k hk CP=>(bY k CP).2 hk⟩
     . exact absurd rfl bc
theorem zA:∀{l f:List Nat},wW l f=true->∀(i x:Nat),l[i]?=some x->f[i]?=some x
 |[],f,h,i,x,hi=>by simp at hi
 |a::az,[],h,i,x,hi=>by cases h
 |a::az,b::bs,h,i,x,hi=>by
  simp only [wW]at h
  split at h
  . rename_i sU;rw [Na]at sU;have sU:=of_decide_eq_true sU;cases i with
    |zero=>simp at hi⊢;omega
    |succ i=>simpa using zA h i x (by simpa using hi)
  . cases h
theorem AA{R:Mp}{u u':Value}[Interp](h:EF u=true)(hv:VR R u u'):∃x s,R (Bm u)=some (x,s)/\u'= .pointer (some ⟨x,0,none⟩):=by
 unfold EF at h
 split at h
 . rename_i b o;rw [Na]at h;obtain rfl:=of_decide_eq_true h;obtain ⟨x,s,h1,h2⟩:=Wg hv;exact ⟨x,s,h1,h2⟩
 . cases h
def opL:Value:= .agg ⟨[vr 3 1,vr 6 2,vr 6 3]⟩
def AK(fN fR:FuncId):List (FuncId×List Value):=[(fN,[.pointer (some ⟨2,0,none⟩),vr 3 0,opL]),(fR,[.agg ⟨kH (vr 11 1)⟩,vr 3 0,opL])]
theorem Paa{R:Mp}{ρ:Nat->Int}{γ:Nat->Gh}(i:Nat)(n:Int)(hn:ρ i=n)(h0:-9223372036854775808<=n)(h1:n<=9223372036854775807): @VR (Th.at ρ γ) R (vr 3 i) (.int .i64 n):=by
 letI:Interp:=Th.at ρ γ
 refine Yc R (c:=3) rfl ?_
 show Qc.v (Value.int .i64 (IntKind.i64.wrap (ρ i)))=_
 rw [hn];have:IntKind.i64.wrap n=n:=by simp [IntKind.wrap,IntKind.bits,IntKind.signed];omega
 rw [this]
theorem PR{R:Mp}{ρ:Nat->Int}{γ:Nat->Gh}(i:Nat)(n:Int)(hn:ρ i=n)(h0:0<=n)(h1:n<=4294967295): @VR (Th.at ρ γ) R (vr 6 i) (.int .u32 n):=by
 letI:Interp:=Th.at ρ γ
 refine Yc R (c:=6) rfl ?_
 show Qc.v (Value.int .u32 (IntKind.u32.wrap (ρ i)))=_
 rw [hn];have:IntKind.u32.wrap n=n:=by simp [IntKind.wrap,IntKind.bits,IntKind.signed];omega
 rw [this]
theorem BK{R:Mp}{ρ:Nat->Int}{γ:Nat->Gh}{A:Rv}{c:Nc}(h:NG γ A c)(i:Nat)(n:Int)(hn:Ci c (.ofNat i)=n)(h0:0<=n)(h1:n<=1000): @VR (Th.at ρ γ) R (sy Yh [vr 11 1,Fb (.ofNat i)]) (.int .i64 n):=by
 letI:Interp:=Th.at ρ γ
 refine Yc R (c:=3) rfl ?_
 have e:den (sy Yh [vr 11 1,Fb (.ofNat i)])=ni Yh [den (vr 11 1), .v (.int .i64 (.ofNat i))]:=rfl;rw [e,Ex h]
 show Qc.v (Value.int .i64 (IntKind.i64.wrap (Ci c (.ofNat i))))=_
 rw [hn,Wp n (by omega) (by omega)]
theorem QR[Interp]{R:Mp}{l l':List Value}(h:LR R l l'):VR R (.agg ⟨l⟩) (.agg ⟨l'⟩):= .agg l l' h.1 h.2
def Je(P:Program)(I:World->Prop):List (FuncId×Array Value)->(List Value->World->Prop)->World->Prop
 |[],Q,w=>Q [] w
 |c::cs,Q,w=>Calls P c.1 c.2 w fun e w'=>∃v,e= .returned v/\I w'/\Je P I cs (fun vs w''=>Q (v::vs) w'') w'
theorem Je.mono{P:Program}{I:World->Prop}:∀{cs:List (FuncId×Array Value)} {Q Q':List Value->World->Prop} {w:World},Je P I cs Q w->(∀vs w',Q vs w'->Q' vs w')->Je P I cs Q' w
 |[],Q,Q',w,h,k=>k _ _ h
 |c::cs,Q,Q',w,h,k=>Calls.mono h fun e w' q=>by
  obtain ⟨v,rfl,hi,h2⟩:=q;exact ⟨v,rfl,hi,h2.mono fun vs w''=>k _ _⟩
theorem St[Interp]{E:Env}(hE:Rb E)(hO:Yl E){n:Nat}{B:Nat->Prop}{w0:World}:∀{cs:List (FuncId×List Value)} {ds:List (FuncId×Array Value)} {σ σ':AH} {vs:List Value} {R:Mp} {w:World},runs E n cs σ=some (vs,σ')->Vc B w0 R σ w->Ym R cs ds->
  Je E.P (fun w'=>Lh B w0 w') ds (fun ws w'=>∃R',R.le R'/\LR R' vs ws/\Vc B w0 R' σ' w') w
 |[],[],σ,σ',vs,R,w,h,hS,hA=>by
  simp only [runs]at h;cases h;exact ⟨R,R.le_refl,LR.nil R,hS⟩
 |[],_::_,σ,σ',vs,R,w,h,hS,hA=>hA.elim
 |_::_,[],σ,σ',vs,R,w,h,hS,hA=>hA.elim
 |c::cs,d::ds,σ,σ',vs,R,w,h,hS,hA=>by
  obtain ⟨h1,h2,h3⟩:=hA;simp only [runs]at h
  split at h
  . rename_i v σ1 hr
    split at h
    . rename_i vs1 σ2 gV;cases h;unfold Je;rw [<-h1];refine (nk hE hO hr hS h2).mono ?_
      rintro e w1 ⟨R1,v',rfl,e1,e2,e3⟩;refine ⟨v',rfl,e3.below,(St hE hO gV e3 (h3.mono e1.le)).mono ?_⟩;rintro ws w2 ⟨R2,q1,q2,q3⟩;exact ⟨R2,Mp.le_trans e1.le q1,LR.cons (e2.mono q1) q2,q3⟩
    . cases h
  . cases h
theorem Ln{T:ti}{E0:Env}(hE:∀(ρ:Nat->Int) (γ:Nat->T.G) (F:List (Value×Value)),(∀p,p∈F-> @den (T.at ρ γ) p.1= @den (T.at ρ γ) p.2)-> @Rb (T.at ρ γ) (E0.Jl F)/\ @Yl (T.at ρ γ) (E0.Jl F))
  {n:Nat}{cs:List (FuncId×List Value)}{f0:List Value->List Nat}{post:Shape->List Value->Bd->Bool}{tab:List Shape}{σ:AH}{ρ:Nat->Int}{γ:Nat->T.G}{B:Nat->Prop}{w0:World}{R:Mp}{w:World}(hS: @Vc (T.at ρ γ) B w0 R σ w){ds:List (FuncId×Array Value)}(hA: @Ym (T.at ρ γ) R cs ds):
  ∀{t:Tree} {F:List (Value×Value)},GN E0 n cs f0 post tab σ t F=true->(∀p,p∈F-> @den (T.at ρ γ) p.1= @den (T.at ρ γ) p.2)->Je E0.P (fun w'=>Lh B w0 w') ds (gal T tab f0 post ρ γ B w0 R) w
 | .leaf j,F,h,hF=>by
   simp only [GN]at h
   split at h
   . rename_i vs σ' hr
     split at h
     . rename_i S hSj
       split at h
       . rename_i hh;obtain ⟨M7,hO1⟩:=hE ρ γ F hF;have:= @St (T.at ρ γ) _ M7 hO1 _ _ _ _ _ _ _ _ _ _ hr hS hA;refine this.mono ?_
         rintro ws w' ⟨R1,q1,q2,q3⟩;generalize oM σ' 0 ⟨f0 vs,[],[]⟩ S.Yb=s at h hh;unfold PO at hh;simp only [Aa,Bool.and_eq_true,yd,decide_eq_true_eq]at hh;obtain ⟨h1,h2,h3,h4,h5⟩:=hh;rw [Ec]at hSj;exact ⟨j,S,vs,s,R1,hSj,h,q1,q2,⟨Du ρ γ s.θ s.η M7 h3,reshape ρ γ s.θ s.η M7 q3 h1 h2⟩⟩
       . cases h
     . cases h
   . cases h
 | .split c l r,F,h,hF=>by
   simp only [GN]at h
   split at h
   . rename_i hc
     split at h
     . rename_i hl;have h8:Gf c=some 8:=by
        unfold isB at hc
        split at hc
        . rename_i k hk;rw [Na]at hc;rw [hk,of_decide_eq_true hc]
        . cases hc
       obtain ⟨c',hd,hs⟩:= @Nr (T.at ρ γ) _ _ h8;obtain ⟨b,rfl⟩:= @Sc.bool (T.at ρ γ) _ hs;have hF2:∀p,p∈((c,Value.bool b)::F)-> @den (T.at ρ γ) p.1= @den (T.at ρ γ) p.2:=by
        intro p hp;rcases List.mem_cons.1 hp with e|e
        . rw [e,hd];rfl
        . exact hF p e
       cases b with
       |true=>exact Ln hE hS hA hl hF2
       |false=>exact Ln hE hS hA h hF2
     . cases h
   . cases h
theorem zI{tab:List Wa}{tr:Tree}{fN fR:FuncId}(Oay:fal env (AK fN fR) tab tr=true){W w:World}{l:Nat}{M:Mv}{N:Rv}{c:Nc}(hb:Below W.heap.size W w)(hl:Kc w l c.lv)(hf:sk c)(hM:za w M)(hR:ua w N)(lo:W.heap.size<=l)(MN:∀k,M.own k->W.heap.size<=k/\k≠l/\¬N.own k)(bY:∀k,N.own k->W.heap.size<=k/\k≠l)(j7:Ic M N)(Qu:Wd N)(hc:N.ck<999000)(hw:N.wm<999000)
  (t k x y:Int)(t0:-9223372036854775808<=t)(t1:t<=9223372036854775807)(k0:-9223372036854775808<=k)(k1:k<=9223372036854775807)(x0:0<=x)(x1:x<=4294967295)(y0:0<=y)(y1:y<=4294967295):
  Je Tryz.prog (fun w'=>Lh (fun k=>W.heap.size<=k) W w') [(fN,#[.pointer (some ⟨l,0,none⟩), .int .i64 t, .agg #[.int .i64 k, .int .u32 x, .int .u32 y]]),(fR,#[.agg #[.int .i64 c.th, .int .i64 c.sl, .int .i64 c.lo, .int .i64 c.bu], .int .i64 t, .agg #[.int .i64 k, .int .u32 x, .int .u32 y]])]
   (fun ws w'=>∃(p q:Nat) (A:Rv) (S:Shape) (ρ:Nat->Int) (γ:Nat->Gh) (R:Mp),ws=[.pointer (some ⟨p,0,none⟩), .pointer (some ⟨q,0,none⟩)]/\Vf tab W p q M.m N.m l A c S ρ γ (fun k=>W.heap.size<=k) W R w'/\Grown N A) w:=by
 obtain ⟨ρ,hρ⟩:∃ρ:Nat->Int,ρ=fun i=>match i with|0=>t|1=>k|2=>x|_=>y:=⟨_,rfl⟩
 have hS:=LN hb hl hf hM hR lo MN bY j7 Qu ρ;have hng:NG (Tu N c) N c:=⟨rfl,rfl,hf⟩;have e0:ρ 0=t:=congrFun hρ 0;have e1:ρ 1=k:=congrFun hρ 1;have e2:ρ 2=x:=congrFun hρ 2;have e3:ρ 3=y:=congrFun hρ 3;have Gl:∀R, @VR (Th.at ρ (Tu N c)) R opL (.agg #[.int .i64 k, .int .u32 x, .int .u32 y]):=fun R=>
  @QR (Th.at ρ (Tu N c)) R _ [.int .i64 k, .int .u32 x, .int .u32 y] (@LR.cons (Th.at ρ (Tu N c)) _ _ _ _ _ (Paa 1 k e1 k0 k1) (@lr2 (Th.at ρ (Tu N c)) _ _ _ _ _ (PR 2 x e2 x0 x1) (PR 3 y e3 y0 y1)))
 have hcf:∀R, @VR (Th.at ρ (Tu N c)) R (.agg ⟨kH (vr 11 1)⟩) (.agg #[.int .i64 c.th, .int .i64 c.sl, .int .i64 c.lo, .int .i64 c.bu]):=fun R=>by
  have:=hf.RM;have:=hf.th;have:=hf.kQ;have:=hf.sl;have:=hf.uU;have:=hf.lo;have:=hf.lQ;have:=hf.bu;exact @QR (Th.at ρ (Tu N c)) R _ [.int .i64 c.th, .int .i64 c.sl, .int .i64 c.lo, .int .i64 c.bu] (@LR.cons (Th.at ρ (Tu N c)) _ _ _ _ _ (BK hng 0 c.th rfl (by omega) (by omega)) (@LR.cons (Th.at ρ (Tu N c)) _ _ _ _ _ (BK hng 1 c.sl rfl (by omega) (by omega)) (@lr2 (Th.at ρ (Tu N c)) _ _ _ _ _ (BK hng 2 c.lo rfl (by omega) (by omega)) (BK hng 3 c.bu rfl (by omega) (by omega)))))
 have hA: @Ym (Th.at ρ (Tu N c)) (mp0 M.m N.m l) (AK fN fR) [(fN,#[.pointer (some ⟨l,0,none⟩), .int .i64 t, .agg #[.int .i64 k, .int .u32 x, .int .u32 y]]),(fR,#[.agg #[.int .i64 c.th, .int .i64 c.sl, .int .i64 c.lo, .int .i64 c.bu], .int .i64 t, .agg #[.int .i64 k, .int .u32 x, .int .u32 y]])]:=
  ⟨rfl, @LR.cons (Th.at ρ (Tu N c)) _ _ _ _ _ (@VR.ptr (Th.at ρ (Tu N c)) _ 2 0 l 0 rfl) (@lr2 (Th.at ρ (Tu N c)) _ _ _ _ _ (Paa 0 t e0 t0 t1) (Gl _)),rfl, @LR.cons (Th.at ρ (Tu N c)) _ _ _ _ _ (hcf _) (@lr2 (Th.at ρ (Tu N c)) _ _ _ _ _ (Paa 0 t e0 t0 t1) (Gl _)),trivial⟩
 refine (Ln pr hS hA Oay (zR hng Qu.Cm hc Qu.tO hw)).mono ?_
 rintro ws w' ⟨j,S,vs,s,R1,hj,ij,hle,hLR,ag⟩;unfold YX at ij
 split at ij
 . rename_i u v;simp only [Aa,Bool.and_eq_true]at ij;obtain ⟨h1,h2,h3,h4⟩:=ij;obtain ⟨A',ng',rn⟩:=tA (θ:=s.θ) hng Qu.Cm Qu.tO h4 hf;obtain ⟨y1,l1,rfl,hy1,bP⟩:= @LR.Ea (Th.at ρ (Tu N c)) _ _ _ _ hLR;obtain ⟨y2,l2,rfl,hy2,zG⟩:= @LR.Ea (Th.at ρ (Tu N c)) _ _ _ _ bP;obtain rfl:= @LR.Fc (Th.at ρ (Tu N c)) _ _ zG;obtain ⟨p,sp,ep,rfl⟩:= @AA _ _ _ (Th.at ρ (Tu N c)) h1 hy1;obtain ⟨q,sq,eq,rfl⟩:= @AA _ _ _ (Th.at ρ (Tu N c)) h2 hy2;have hr:∀i b x z,(Aaa [u,v])[i]?=some b->R1 b=some (x,z)->∃z,Kp s.f R1 i=some (x,z):=fun i b x z hi hx=>⟨z,by unfold Kp;rw [zA h3 i b hi];exact hx⟩
   refine ⟨p,q,A',S,_,_,_,rfl,⟨List.mem_of_getElem? hj,ng',ag,hr 0 _ p sp rfl ep,hr 1 _ q sq rfl eq,hr 2 0 M.m 0 rfl (hle _ _ rfl),hr 3 1 N.m 0 rfl (hle _ _ rfl),hr 4 2 l 0 rfl (hle _ _ rfl),Below.refl _ _,fun k hk=>hk⟩, ?_⟩;exact rn
 . cases ij
end Sk
end Go.Proofs.YtfnkmolffhfpoaaGreat
namespace Go.Proofs.YtfnkmolffhfpoaaGreat
open Go.RowKit Go.BigFrame
def Rv.xk(M:Rv)(p:Nat->Bool)(k:Nat):Rv:={M with kept:=fun i=>if i/8<k/\p (i/8)=true then M.seen i else M.kept i,wr:=fun j=>if j<k/\p j=true then M.wr j+1 else M.wr j,wm:=M.wm+1}
def Rv.Mn(M:Rv)(p:Nat->Bool)(k j:Nat):Rv:={M.xk p k with kept:=fun i=>if i/8=k/\i %8<j then M.seen i else(M.xk p k).kept i}
theorem Dal{W:World}{M:Rv}(h:ua W M)(p:Nat->Bool):ua W (M.xk p 0):=by
 exact {h with
  kept:=h.kept.congr fun k _=>by simp [Rv.xk]
  wr:=h.wr.congr fun k _=>by simp [Rv.xk]
  Oz:=fun k hk=>by have:=h.Oz k hk;simp [Rv.xk];omega}
theorem Qaa(M:Rv)(p:Nat->Bool)(k:Nat):M.Mn p k 0=M.xk p k:=by
 unfold Rv.Mn;have:(fun i=>if i/8=k/\i %8<0 then M.seen i else(M.xk p k).kept i)=(M.xk p k).kept:=by funext i;rw [if_neg (by omega)]
 rw [this]
theorem ON(M:Rv)(p:Nat->Bool)(k j:Nat)(hj:j<8):{M.Mn p k j with kept:=Mc (M.Mn p k j).kept (8*k+j) (M.seen (8*k+j))}=M.Mn p k (j+1):=by
 have:Mc (M.Mn p k j).kept (8*k+j) (M.seen (8*k+j))=(M.Mn p k (j+1)).kept:=by
  funext i
  show Mc (fun i=>if i/8=k/\i %8<j then M.seen i else(M.xk p k).kept i) (8*k+j) (M.seen (8*k+j)) i=if i/8=k/\i %8<j+1 then M.seen i else(M.xk p k).kept i
  by_cases e:i=8*k+j
  . rw [e,Pb,if_pos (by omega)]
  . rw [Gb _ _ e];by_cases c:i/8=k/\i %8<j
    . rw [if_pos c,if_pos (by omega)]
    . rw [if_neg c,if_neg (by omega)]
 rw [this];rfl
theorem GW(M:Rv)(p:Nat->Bool)(k:Nat)(h:p k=true):{M.Mn p k 8 with wr:=Mc (M.Mn p k 8).wr k (M.wr k+1)}=M.xk p (k+1):=by
 have e1:Mc (M.Mn p k 8).wr k (M.wr k+1)=(M.xk p (k+1)).wr:=by
  funext i
  show Mc (fun j=>if j<k/\p j=true then M.wr j+1 else M.wr j) k (M.wr k+1) i=if i<k+1/\p i=true then M.wr i+1 else M.wr i
  by_cases e:i=k
  . rw [e,Pb,if_pos ⟨by omega,h⟩]
  . rw [Gb _ _ e];by_cases c:i<k/\p i=true
    . rw [if_pos c,if_pos ⟨by omega,c.2⟩]
    . rw [if_neg c,if_neg (fun c'=>c ⟨by omega,c'.2⟩)]
 have e2:(M.Mn p k 8).kept=(M.xk p (k+1)).kept:=by
  funext i
  show(if i/8=k/\i %8<8 then M.seen i else if i/8<k/\p (i/8)=true then M.seen i else M.kept i)=if i/8<k+1/\p (i/8)=true then M.seen i else M.kept i
  by_cases e:i/8=k
  . rw [if_pos ⟨e,by omega⟩,if_pos ⟨by omega,by rw [e];exact h⟩]
  . rw [if_neg (fun c=>e c.1)];by_cases c:i/8<k/\p (i/8)=true
    . rw [if_pos c,if_pos ⟨by omega,c.2⟩]
    . rw [if_neg c,if_neg (fun c'=>c ⟨by omega,c'.2⟩)]
 rw [e1]
 show({M.xk p k with kept:=(M.Mn p k 8).kept,wr:=(M.xk p (k+1)).wr}:Rv)=_
 rw [e2];rfl
theorem Raa(M:Rv)(p:Nat->Bool)(k:Nat)(h:p k=false):M.xk p (k+1)=M.xk p k:=by
 have e1:(M.xk p (k+1)).wr=(M.xk p k).wr:=by
  funext i
  show(if i<k+1/\p i=true then M.wr i+1 else M.wr i)=if i<k/\p i=true then M.wr i+1 else M.wr i
  by_cases e:i=k
  . rw [e,h];simp
  . by_cases c:i<k/\p i=true
    . rw [if_pos c,if_pos ⟨by omega,c.2⟩]
    . rw [if_neg c,if_neg (fun c'=>c ⟨by omega,c'.2⟩)]
 have e2:(M.xk p (k+1)).kept=(M.xk p k).kept:=by
  funext i
  show(if i/8<k+1/\p (i/8)=true then M.seen i else M.kept i)=if i/8<k/\p (i/8)=true then M.seen i else M.kept i
  by_cases e:i/8=k
  . rw [e,h];simp
  . by_cases c:i/8<k/\p (i/8)=true
    . rw [if_pos c,if_pos ⟨by omega,c.2⟩]
    . rw [if_neg c,if_neg (fun c'=>c ⟨by omega,c'.2⟩)]
 show({M with kept:=(M.xk p (k+1)).kept,wr:=(M.xk p (k+1)).wr,wm:=M.wm+1}:Rv)=_
 rw [e1,e2];rfl
set_option maxRecDepth 100000 in
set_option maxHeartbeats 4000000 in
theorem Zy(M:Rv)(l:Nat)(hl:l<M.n)(W:World)(h:ua W M)(hw:M.wm<=999999):
  Calls Tryz.prog 70 #[.pointer (some ⟨M.d,0,none⟩), .int .i64 2, .int .i64 0, .int .i64 l] W (jn M (M.xk (fun j=>decide (j=l)) M.n) (.int .i64 0) W):=by
 obtain ⟨y0,y1,y2,y3⟩:=Jb h.dev;have ZP:=h.n1;have BX:=h.t1;have HH:=Lib.hid h;have i0:(0:Int)<=(l:Int):=by omega
 have i1:(l:Int)<(M.n:Int):=by omega
 have d0:decide ((l:Int)<0)=false:=ta (by omega);have d1:decide (M.n<=l)=false:=ta (by omega);have d2:decide ((M.n:Int)<=(l:Int))=false:=ta (by omega);obtain ⟨p,hp⟩:∃p:Nat->Bool,p=fun j=>decide (j=l):=⟨_,rfl⟩
 rw [<-hp];have HP:Hid (∀k,p k=decide (k=l)):=Lib.hid fun k=>by rw [hp]
 clear hp;have HWM:=Lib.hid hw;clear h hl hw
 go_enter Tryz.func70,Tryz.ntmps70
 go_wp2_with fail
 go_loopw [9] (fun i wr=>∃k:Nat,k<=M.n/\i= .int .i64 k/\Hid (ua wr (M.xk p k)/\Ba M.own W wr)) (fun i _=>M.n -(intOf i).toNat)
 case atStart=>exact ⟨0,Nat.zero_le _,rfl,Lib.hid ⟨Dal HH.out p,Ba.refl _ _⟩⟩
 case round=>
  obtain ⟨k,hk,rfl,HB⟩:=hrel;obtain ⟨wo,rfl⟩:∃wo:World,wo=wr:=⟨_,rfl⟩;clear y0 y1 y2 y3;obtain ⟨w0,w1,w2,w3⟩:=Jb HB.out.1.dev
  have y0:wo.cell? ⟨M.d,0,none⟩=some (.slice (some ⟨M.kb,0,none⟩) (8*M.n) M.c0):=w0;have y1:wo.cell? ⟨M.d,1,none⟩=some (.slice (some ⟨M.sb,0,none⟩) (8*M.n) M.c1):=w1;have y2:wo.cell? ⟨M.d,2,none⟩=some (.slice (some ⟨M.wb,0,none⟩) M.n M.c2):=w2;have y3:wo.cell? ⟨M.d,3,none⟩=some (.slice (some ⟨M.fb,0,none⟩) M.nt M.c3):=w3;clear w0 w1 w2 w3;have j0:(0:Int)<=(k:Int):=by omega
  by_cases zb:k<M.n
  . have j1:(k:Int)<(M.n:Int):=by omega
    have j2:decide ((k:Int)<(M.n:Int))=true:=ea j1;cases hf:p k with
    |false=>
     have f1:((k:Int)==(l:Int))=false:=by have:=HP.out k;rw [hf]at this;have:=of_decide_eq_false this.symm;simp;omega
     have HE:=Lib.hid (Raa M p k hf);clear hf
     go_wp2_with fail
     go_roundw
     case rel=>exact ⟨k+1,by omega,by go_num,Lib.hid (by rw [HE.out];exact HB.out)⟩
     case measure=>simp [intOf];omega
    |true=>
     have f1:((k:Int)==(l:Int))=true:=by have:=HP.out k;rw [hf]at this;have:=of_decide_eq_true this.symm;simp;omega
     have HE:=Lib.hid (GW M p k hf);clear hf
     go_wp2_with fail
     go_loopw [10] (fun i wr=>∃j:Nat,j<=8/\i= .int .i64 j/\Hid (ua wr (M.Mn p k j)/\Ba M.own W wr)) (fun i _=>8 -(intOf i).toNat)
     case atStart=>exact ⟨0,Nat.zero_le _,rfl,Lib.hid ⟨by rw [Qaa];exact HB.out.1,HB.out.2⟩⟩
     case round=>
      obtain ⟨j,hj,rfl,HC⟩:=hrel;clear y0 y1 y2 y3;obtain ⟨w0,w1,w2,w3⟩:=Jb HC.out.1.dev
      have y0:wr.cell? ⟨M.d,0,none⟩=some (.slice (some ⟨M.kb,0,none⟩) (8*M.n) M.c0):=w0;have y1:wr.cell? ⟨M.d,1,none⟩=some (.slice (some ⟨M.sb,0,none⟩) (8*M.n) M.c1):=w1;have y2:wr.cell? ⟨M.d,2,none⟩=some (.slice (some ⟨M.wb,0,none⟩) M.n M.c2):=w2;clear w0 w1 w2 w3;by_cases hj8:j<8
      . have e2:decide ((j:Int)<8)=true:=ea (by omega);have z1:wr.cell? ⟨M.sb,8*k+j,none⟩=some (.int .u64 (M.seen (8*k+j))):=HC.out.1.seen.cell (by show _<8*M.n;omega)
        have z2:=HC.out.1.kept.cell (k:=8*k+j) (by show _<8*M.n;omega)
        have z2:wr.cell? ⟨M.kb,8*k+j,none⟩=some (.int .u64 ((M.Mn p k j).kept (8*k+j))):=z2;have z3:wr.frozen? ⟨M.kb,8*k+j,none⟩=false:=HC.out.1.kept.free _
        have HS:=Lib.hid (HC.out.1.EE (8*k+j) (M.seen (8*k+j)));rw [ON M p k j hj8]at HS;generalize (M.Mn p k j).kept (8*k+j)=u at*
        generalize M.seen (8*k+j)=v at*;obtain ⟨q,hq⟩:∃q,q=8*k+j:=⟨_,rfl⟩;obtain ⟨N,hN⟩:∃N,N=8*M.n:=⟨_,rfl⟩;rw [<-hq]at z1 z2 z3 HS;rw [<-hN]at y0 y1;have m1:IntKind.i64.wrap (8*(k:Int))=8*(k:Int):=IntWalk.i64_in _ (by omega);have m2:IntKind.i64.wrap (8*(k:Int)+(j:Int))=(q:Int):=by rw [IntWalk.i64_in _ (by omega)];omega
        have m3:(0:Int)<=(q:Int):=by omega
        have m4:(q:Int)<(N:Int):=by omega
        have m5:q<N:=by omega
        clear hq hN
        go_wp2_with fail
        go_region
        go_wp2_with fail
        go_roundw
        case rel=>exact ⟨j+1,by omega,by go_num,Lib.hid ⟨HS.out.drew,((HC.out.2.set (fun _=>Or.inl (by simp [Rv.blocks])) _ _).drawn _)⟩⟩
        case measure=>simp [intOf];omega
      . obtain rfl:j=8:=by omega
        have e2:decide (((8:Nat):Int)<8)=false:=by simp
        have z1:wr.cell? ⟨M.wb,k,none⟩=some (.int .i64 ((M.Mn p k 8).wr k)):=HC.out.1.wr.cell zb
        have z3:wr.frozen? ⟨M.wb,k,none⟩=false:=HC.out.1.wr.free _
        have z4:(M.Mn p k 8).wr k=M.wr k:=by show(if k<k/\p k=true then M.wr k+1 else M.wr k)=M.wr k;rw [if_neg (by omega)]
        rw [z4]at z1;have z5:=HH.out.Oz k zb;have z6:=HWM.out;have HS:=Lib.hid (HC.out.1.VP k (M.wr k+1) (by omega) (by show M.wr k+1<=M.wm+1;omega));rw [HE.out]at HS;generalize M.wr k=v at*;have m1:IntKind.i64.wrap (v+1)=v+1:=IntWalk.i64_in _ (by omega)
        go_wp2_with fail
        go_region
        go_wp2_with fail
        go_roundw
        case rel=>exact ⟨k+1,by omega,by go_num,Lib.hid ⟨HS.out.drew,((HC.out.2.set (fun _=>Or.inl (by simp [Rv.blocks])) _ _).drawn _)⟩⟩
        case measure=>simp [intOf];omega
  . obtain rfl:k=M.n:=by omega
    have j2:decide ((M.n:Int)<(M.n:Int))=false:=by simp
    go_wp2_with fail
    go_loop [11] (fun i=>∃a:Nat,a<=M.nt/\i= .int .i64 a) (fun i=>M.nt -(intOf i).toNat)
    case atStart=>exact ⟨0,Nat.zero_le _,rfl⟩
    case round=>
     obtain ⟨a,ha,rfl⟩:=hrel;by_cases ru:a<M.nt
     . have e2:decide ((a:Int)<(M.nt:Int))=true:=ea (by omega)
       go_wp2_with fail
       go_loop [12] (fun i=>∃b:Nat,b<=M.n/\i= .int .i64 b) (fun i=>M.n -(intOf i).toNat)
       case atStart=>exact ⟨0,Nat.zero_le _,rfl⟩
       case round=>
        obtain ⟨b,hb,rfl⟩:=hrel;by_cases nU:b<M.n
        . have e3:decide ((b:Int)<(M.n:Int))=true:=ea (by omega)
          go_wp2_with fail
          go_round
          case rel=>exact ⟨b+1,by omega,by go_num⟩
          case measure=>simp [intOf];omega
        . obtain rfl:b=M.n:=by omega
          have e3:decide ((M.n:Int)<(M.n:Int))=false:=by simp
          go_wp2_with fail
          go_round
          case rel=>exact ⟨a+1,by omega,by go_num⟩
          case measure=>simp [intOf];omega
     . obtain rfl:a=M.nt:=by omega
       have e2:decide ((M.nt:Int)<(M.nt:Int))=false:=by simp
       go_wp2_with fail
       go_loop [13] (fun i=>∃q:Nat,q<=8*M.n/\i= .int .i64 q) (fun i=>8*M.n -(intOf i).toNat)
       case atStart=>exact ⟨0,Nat.zero_le _,rfl⟩
       case round=>
        obtain ⟨q,hq,rfl⟩:=hrel;obtain ⟨N,hN⟩:∃N,N=8*M.n:=⟨_,rfl⟩;rw [<-hN]at y1 hq⊢;have FM:N<=2097152:=by omega
        clear hN;by_cases hqn:q<N
        . have e3:decide ((q:Int)<(N:Int))=true:=ea (by omega)
          go_wp2_with fail
          go_round
          case rel=>exact ⟨q+1,by omega,by go_num⟩
          case measure=>simp [intOf];omega
        . obtain rfl:q=N:=by omega
          have e3:decide ((q:Int)<(q:Int))=false:=by simp
          go_wp2_with fail
          go_ret
          exact ⟨rfl,HB.out.1,HB.out.2⟩
def Rv.gone(M:Rv)(a b:Nat):Rv:={M with fl:=fun x y=>if y<M.n/\(x<a\/x=a/\y<b)then false else M.fl x y}
theorem Saa(M:Rv):M.gone 0 0=M:=by
 unfold Rv.gone;have:(fun x y=>if y<M.n/\(x<0\/x=0/\y<0)then false else M.fl x y)=M.fl:=by funext x y;rw [if_neg (by omega)]
 rw [this]
theorem PN(M:Rv)(a:Nat):M.gone a M.n=M.gone (a+1) 0:=by
 unfold Rv.gone;have:(fun x y=>if y<M.n/\(x<a\/x=a/\y<M.n)then false else M.fl x y)=fun x y=>if y<M.n/\(x<a+1\/x=a+1/\y<0)then false else M.fl x y:=by
  funext x y
  by_cases c:y<M.n/\(x<a\/x=a/\y<M.n)
  . rw [if_pos c,if_pos (by omega)]
  . rw [if_neg c,if_neg (by omega)]
 rw [this]
theorem RR(M:Rv)(a b:Nat)(h:b<M.n):{M.gone a b with fl:=Mc (M.gone a b).fl a (Mc ((M.gone a b).fl a) b false)}=M.gone a (b+1):=by
 have:Mc (M.gone a b).fl a (Mc ((M.gone a b).fl a) b false)=(M.gone a (b+1)).fl:=by
  funext x y
  show Mc (M.gone a b).fl a (Mc ((M.gone a b).fl a) b false) x y=if y<M.n/\(x<a\/x=a/\y<b+1)then false else M.fl x y
  by_cases e:x=a
  . rw [e,Pb];by_cases e':y=b
    . rw [e',Pb,if_pos (by omega)]
    . rw [Gb _ _ e']
      show(if y<M.n/\(a<a\/a=a/\y<b)then false else M.fl a y)=_
      by_cases c:y<M.n/\y<b
      . rw [if_pos (by omega),if_pos (by omega)]
      . rw [if_neg (by omega),if_neg (by omega)]
  . rw [Gb _ _ e]
    show(if y<M.n/\(x<a\/x=a/\y<b)then false else M.fl x y)=_
    by_cases c:y<M.n/\x<a
    . rw [if_pos (by omega),if_pos (by omega)]
    . rw [if_neg (by omega),if_neg (by omega)]
 rw [this];rfl
def Rv.back(M:Rv)(q:Nat):Rv:={M with seen:=fun i=>if i<q then M.kept i else M.seen i}
theorem Taa(M:Rv):M.back 0=M:=by
 unfold Rv.back;have:(fun i=>if i<0 then M.kept i else M.seen i)=M.seen:=by funext i;rw [if_neg (by omega)]
 rw [this]
theorem QN(M:Rv)(q:Nat):{M.back q with seen:=Mc (M.back q).seen q (M.kept q)}=M.back (q+1):=by
 have:Mc (M.back q).seen q (M.kept q)=(M.back (q+1)).seen:=by
  funext i
  show Mc (fun i=>if i<q then M.kept i else M.seen i) q (M.kept q) i=if i<q+1 then M.kept i else M.seen i
  by_cases e:i=q
  . rw [e,Pb,if_pos (by omega)]
  . rw [Gb _ _ e];by_cases c:i<q
    . rw [if_pos c,if_pos (by omega)]
    . rw [if_neg c,if_neg (by omega)]
 rw [this];rfl
def Rv.Nn(M:Rv):Rv:=(M.gone M.nt 0).back (8*M.n)
set_option maxRecDepth 100000 in
set_option maxHeartbeats 4000000 in
theorem cz(M:Rv)(W:World)(h:ua W M):
  Calls Tryz.prog 70 #[.pointer (some ⟨M.d,0,none⟩), .int .i64 3, .int .i64 0, .int .i64 0] W (jn M M.Nn (.int .i64 0) W):=by
 obtain ⟨y0,y1,y2,y3⟩:=Jb h.dev;have ZP:=h.n1;have BX:=h.t1;have HH:=Lib.hid h;have HF:Hid (M.Nn=(M.gone M.nt 0).back (8*M.n)):=Lib.hid rfl;clear h
 go_enter Tryz.func70,Tryz.ntmps70
 go_wp2_with fail
 go_loop [9] (fun i=>∃k:Nat,k<=M.n/\i= .int .i64 k) (fun i=>M.n -(intOf i).toNat)
 case atStart=>exact ⟨0,Nat.zero_le _,rfl⟩
 case round=>
  obtain ⟨k,hk,rfl⟩:=hrel;by_cases zb:k<M.n
  . have j2:decide ((k:Int)<(M.n:Int))=true:=ea (by omega)
    go_wp2_with fail
    go_round
    case rel=>exact ⟨k+1,by omega,by go_num⟩
    case measure=>simp [intOf];omega
  . obtain rfl:k=M.n:=by omega
    have j2:decide ((M.n:Int)<(M.n:Int))=false:=by simp
    go_wp2_with fail
    go_loopw [11] (fun i wr=>∃k:Nat,k<=M.nt/\i= .int .i64 k/\Hid (ua wr (M.gone k 0)/\Ba M.own W wr)) (fun i _=>M.nt -(intOf i).toNat)
    case atStart=>exact ⟨0,Nat.zero_le _,rfl,Lib.hid ⟨by rw [Saa];exact HH.out,Ba.refl _ _⟩⟩
    case round=>
     obtain ⟨a,ha,rfl,HC⟩:=hrel;obtain ⟨wb,rfl⟩:∃wb:World,wb=wr:=⟨_,rfl⟩;clear y0 y1 y2 y3;obtain ⟨w0,w1,w2,w3⟩:=Jb HC.out.1.dev
     have y0:wb.cell? ⟨M.d,0,none⟩=some (.slice (some ⟨M.kb,0,none⟩) (8*M.n) M.c0):=w0;have y1:wb.cell? ⟨M.d,1,none⟩=some (.slice (some ⟨M.sb,0,none⟩) (8*M.n) M.c1):=w1;have y2:wb.cell? ⟨M.d,2,none⟩=some (.slice (some ⟨M.wb,0,none⟩) M.n M.c2):=w2;have y3:wb.cell? ⟨M.d,3,none⟩=some (.slice (some ⟨M.fb,0,none⟩) M.nt M.c3):=w3;clear w0 w1 w2 w3;by_cases ru:a<M.nt
     . have e2:decide ((a:Int)<(M.nt:Int))=true:=ea (by omega)
       go_wp2_with fail
       go_loopw [12] (fun i wr=>∃b:Nat,b<=M.n/\i= .int .i64 b/\Hid (ua wr (M.gone a b)/\Ba M.own W wr)) (fun i _=>M.n -(intOf i).toNat)
       case atStart=>exact ⟨0,Nat.zero_le _,rfl,HC⟩
       case round=>
        obtain ⟨b,hb,rfl,HD⟩:=hrel;clear y0 y1 y2 y3;obtain ⟨w0,w1,w2,w3⟩:=Jb HD.out.1.dev
        have y2:wr.cell? ⟨M.d,2,none⟩=some (.slice (some ⟨M.wb,0,none⟩) M.n M.c2):=w2;have y3:wr.cell? ⟨M.d,3,none⟩=some (.slice (some ⟨M.fb,0,none⟩) M.nt M.c3):=w3;clear w0 w1 w2 w3;by_cases nU:b<M.n
        . have e3:decide ((b:Int)<(M.n:Int))=true:=ea (by omega);have g1:wr.cell? ⟨M.fb,a,none⟩=some (.slice (some ⟨M.fg a,0,none⟩) M.n (M.fc a)):=HD.out.1.fb.cell (k:=a) ru
          have g2:wr.cell? ⟨M.fg a,b,none⟩=some (.bool ((M.gone a b).fl a b)):=(HD.out.1.fl a ru).cell (k:=b) nU
          have g3:wr.frozen? ⟨M.fg a,b,none⟩=false:=(HD.out.1.fl a ru).free b
          have HS:=Lib.hid (HD.out.1.Gs (t:=a) ru b false);have HO:Hid (M.own (M.fg a)):=Lib.hid (Or.inr ⟨a,ru,rfl⟩);rw [RR M a b nU]at HS;have tH:Hid (ua (wr.setCell ⟨M.fg a,b,none⟩ (.bool false)) (M.gone a (b+1))):=Lib.hid HS.out;generalize (M.gone a b).fl a b=u at*
          generalize M.fg a=g at*;clear HS
          go_wp2_with fail
          go_roundw
          case rel=>exact ⟨b+1,by omega,by go_num,Lib.hid ⟨tH.out,HD.out.2.set (fun _=>HO.out) _ _⟩⟩
          case measure=>simp [intOf];omega
        . obtain rfl:b=M.n:=by omega
          have e3:decide ((M.n:Int)<(M.n:Int))=false:=by simp
          have HE:=Lib.hid (PN M a)
          go_wp2_with fail
          go_roundw
          case rel=>exact ⟨a+1,by omega,by go_num,Lib.hid (by rw [<-HE.out];exact HD.out)⟩
          case measure=>simp [intOf];omega
     . obtain rfl:a=M.nt:=by omega
       have e2:decide ((M.nt:Int)<(M.nt:Int))=false:=by simp
       obtain ⟨R,hR⟩:∃R,R=M.gone M.nt 0:=⟨_,rfl⟩;have HRn:Hid (R.n=M.n/\R.d=M.d/\R.sb=M.sb/\R.kb=M.kb/\R.c0=M.c0/\R.c1=M.c1):=Lib.hid (by rw [hR];exact ⟨rfl,rfl,rfl,rfl,rfl,rfl⟩);rw [<-hR]at HC HF;clear hR
       go_wp2_with fail
       go_loopw [13] (fun i wr=>∃q:Nat,q<=8*M.n/\i= .int .i64 q/\Hid (ua wr (R.back q)/\Ba M.own W wr)) (fun i _=>8*M.n -(intOf i).toNat)
       case atStart=>exact ⟨0,Nat.zero_le _,rfl,Lib.hid ⟨by rw [Taa];exact HC.out.1,HC.out.2⟩⟩
       case round=>
        obtain ⟨q,hq,rfl,HD⟩:=hrel;clear y0 y1 y2 y3;obtain ⟨w0,w1,w2,w3⟩:=Jb HD.out.1.dev
        obtain ⟨r1,r2,r3,r4,r5,r6⟩:=HRn.out;have y0:wr.cell? ⟨M.d,0,none⟩=some (.slice (some ⟨M.kb,0,none⟩) (8*M.n) M.c0):=by rw [<-r1,<-r2,<-r4,<-r5];exact w0
        have y1:wr.cell? ⟨M.d,1,none⟩=some (.slice (some ⟨M.sb,0,none⟩) (8*M.n) M.c1):=by rw [<-r1,<-r2,<-r3,<-r6];exact w1
        clear w0 w1 w2 w3;have HO:Hid (M.own M.sb):=Lib.hid (Or.inl (by simp [Rv.blocks]));obtain ⟨N,hN⟩:∃N,N=8*M.n:=⟨_,rfl⟩;by_cases hqn:q<N
        . have z1:wr.cell? ⟨M.kb,q,none⟩=some (.int .u64 (R.kept q)):=by
           have:=HD.out.1.kept.cell (k:=q) (by show q<8*R.n;rw [r1];omega)
           rw [<-r4];exact this
          have z2:wr.cell? ⟨M.sb,q,none⟩=some (.int .u64 ((R.back q).seen q)):=by
           have:=HD.out.1.seen.cell (k:=q) (by show q<8*R.n;rw [r1];omega)
           rw [<-r3];exact this
          have z3:wr.frozen? ⟨M.sb,q,none⟩=false:=by
           have:=HD.out.1.seen.free q
           rw [<-r3];exact this
          have HS:=Lib.hid (HD.out.1.cn q (R.kept q));rw [QN R q]at HS;have tH:Hid (ua (wr.setCell ⟨M.sb,q,none⟩ (.int .u64 (R.kept q))) (R.back (q+1))):=Lib.hid (by rw [<-r3];exact HS.out);generalize (R.back q).seen q=u at*
          generalize R.kept q=v at*;rw [<-hN]at y0 y1 hq⊢;have FM:N<=2097152:=by omega
          have e3:decide ((q:Int)<(N:Int))=true:=ea (by omega);have m4:(q:Int)<(N:Int):=by omega
          clear hN HS r1 r2 r3 r4 r5 r6
          go_wp2_with fail
          go_region
          go_wp2_with fail
          go_roundw
          case rel=>exact ⟨q+1,by omega,by go_num,Lib.hid ⟨tH.out.drew,(HD.out.2.set (fun _=>HO.out) _ _).drawn _⟩⟩
          case measure=>simp [intOf];omega
        . obtain rfl:q=N:=by omega
          have HZ:Hid (ua wr M.Nn):=Lib.hid (by rw [HF.out,<-hN];exact HD.out.1);rw [<-hN]at y0 y1 hq⊢;have e3:decide ((q:Int)<(q:Int))=false:=by simp
          have FM:q<=2097152:=by omega
          clear hN r1 r2 r3 r4 r5 r6
          go_wp2_with fail
          go_ret
          exact ⟨rfl,HZ.out,HD.out.2⟩
end Go.Proofs.YtfnkmolffhfpoaaGreat
