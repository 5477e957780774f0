/- -/
import Derived.Test.YtfnkmolffhfpoaaGreatHb35
import Derived.WalkKit
import Derived.ProofKit
import Derived.OpenShut
import Derived.Deep.Slices
import Derived.Lib.Hide
import Derived.Test.YtfnkmolffhfpoaaGreatHb1
import Derived.Lib.SmallJoins
import Derived.Test.YtfnkmolffhfpoaaGreatHb32
import Derived.Test.YtfnkmolffhfpoaaGreatHb23
import Derived.Test.YtfnkmolffhfpoaaGreatHb25
import Derived.Test.YtfnkmolffhfpoaaGreatHb2
set_option linter.unusedVariables false
set_option linter.unusedSimpArgs false
namespace Go.Proofs.YtfnkmolffhfpoaaGreat
open Go.RowKit Go.BigFrame
def jZ(f:Nat->Int)(n nt np:Nat)(W:World)(e:Ending)(W':World):Prop:=
 ∃R:Rv,e= .returned (.pointer (some ⟨R.m,0,none⟩))/\ma W' R/\Init R f n nt np/\(∀k,R.own k->W.heap.size<=k)/\Below W.heap.size W W'/\R.wm=0/\R.seen=f/\R.kept=f/\R.pass=(fun _=>0)/\R.wr=fun _=>0
theorem tF{m d kb sb wb fb pb n nt np c0 c1 c3:Nat}{fg:Nat->Nat}{f:Nat->Int}{B:Nat}(h1:∀g,g∈[m,d,kb,sb,wb,fb,pb]->B<=g)(h2:∀t,t<nt->B<=fg t):∀k,(Rv.start m d kb sb wb fb pb n nt np c0 c1 c3 fg f).own k->B<=k:=by
 rintro k (hk|⟨t,ht,e⟩)
 . exact h1 k hk
 . have:=h2 t ht;have e:fg t=k:=e;omega
theorem iS{W0 W:World}{d kb sb wb c0 c1 fb nt c3 m:Nat}{fg:Nat->Nat}{f:Nat->Int}(h:Vz W0 W d kb sb wb c0 c1 (.slice (some ⟨fb,0,none⟩) nt c3) nt m fg f):(∀g,g∈[d,kb,sb,wb,fb]->g<W.heap.size/\W0.heap.size<=g)/\∀t,t<nt->fg t<W.heap.size/\W0.heap.size<=fg t:=by
 refine ⟨fun g hg=> ?_,fun t ht=>⟨(h.rf t ht).lt,h.bf t ht⟩⟩;simp only [List.mem_cons,List.not_mem_nil,or_false]at hg;have hb:=h.base;rcases hg with rfl|rfl|rfl|rfl|rfl
 . exact ⟨(Array.getElem?_eq_some_iff.1 h.row).1,hb _ (by simp)⟩
 . exact ⟨h.rk.lt,hb _ (by simp)⟩
 . exact ⟨h.rs.lt,hb _ (by simp)⟩
 . exact ⟨h.rw.lt,hb _ (by simp)⟩
 . have:=xf h.fl (k:=g) rfl;exact ⟨this.2,this.1⟩
theorem YC{W0 W W2:World}{d kb sb wb fb c0 c1 c3 n nt np m pb:Nat}{fg:Nat->Nat}{f:Nat->Int}{B:World}(h:Vz W0 W d kb sb wb c0 c1 (.slice (some ⟨fb,0,none⟩) nt c3) nt n fg f)(hB:B.heap.size<=W0.heap.size)(hb:Below W.heap.size W W2)(oB:Below B.heap.size B W2)
  (hm:W.heap.size<=m)(hp:W.heap.size<=pb\/B.heap.size<=pb/\pb<W0.heap.size)(hmp:m≠pb)
  (hr:W2.heap[m]?=some (.cells #[.pointer (some ⟨d,0,none⟩), .slice (some ⟨pb,0,none⟩) np np, .int .i64 0, .int .i64 0, .int .i64 0, .int .i64 0, .int .i64 0, .int .u64 0, .int .u64 0, .bool false] 141 (0,0)))(hpr:Eb W2 pb np fun _=> .int .u64 0)(n0:0<n)(n1:n<=262144)(t0:0<nt)(t1:nt<=64)(p1:np<=262144):
  jZ f n nt np B (.returned (.pointer (some ⟨m,0,none⟩))) W2:=by
 obtain ⟨l1,l2⟩:=iS h;have s0:=h.below.size;refine ⟨Rv.start m d kb sb wb fb pb n nt np c0 c1 c3 fg f,rfl, ?_,gN _ _ _ _ _ _ _ _ _ _ _ _ _ _ _,tF ?_ (fun t ht=>by have:=l2 t ht;omega),oB,rfl,rfl,rfl,rfl,rfl⟩
 . refine JJ h ?_ ⟨fun hg=>by have:=l1 m hg;omega,fun t ht=>by have:=l2 t ht;omega⟩ ⟨fun hg=>by have:=l1 pb hg;omega,fun t ht=>by have:=l2 t ht;omega⟩ hmp hr hpr n0 n1 t0 t1 p1
   rintro g (hg|⟨t,ht,rfl⟩)
   . exact hb.block g (l1 g hg).1
   . exact hb.block _ (l2 t ht).1
 . intro g hg;rcases List.mem_cons.1 hg with rfl|hg
   . omega
   . by_cases e:g=pb
     . omega
     . have:g∈[d,kb,sb,wb,fb]:=by
        simp only [List.mem_cons,List.not_mem_nil,or_false]at hg⊢;omega
       have:=l1 g this;omega
set_option maxRecDepth 100000 in
set_option maxHeartbeats 2000000 in
theorem jS(b off m cap nt np:Nat)(TD:0<m)(FA:m<=262144)(nK:0<nt)(Y1:nt<=64)(hp:np<=262144)(f:Nat->Int)(W0:World)(hb:b<W0.heap.size)(hw:∀j,j<8*m->W0.cell? ⟨b,off+j,none⟩=some (.int .u64 (f j))):
  Calls Tryz.prog 45 #[.slice (some ⟨b,off,none⟩) (8*m) cap, .int .i64 nt, .int .i64 np] W0 (jZ f m nt np W0):=by
 have HO:Hid (∀w,Below W0.heap.size W0 w->Calls Tryz.prog 105 #[.slice (some ⟨b,off,none⟩) (8*m) cap, .int .i64 nt] w (dU w m nt f)):=Lib.hid fun w h=>KJ _ b off m cap nt rfl TD FA nK Y1 f w (Nat.lt_of_lt_of_le hb h.size) fun j hj=>(h.cell (p:=⟨b,off+j,none⟩) hb).trans (hw j hj)
 have HB:=Lib.hid (And.intro TD (And.intro FA (And.intro nK (And.intro Y1 hp))));have yP:=en 99 43 _ _ 8 Tryz.underlying99 DE rfl np (by omega) (by omega);have i0:(0:Int)<=(np:Int):=by omega
 clear hb hw
 go_enter Tryz.func45,Tryz.ntmps45
 go_wp2_with fail
 go_region_with (go_at_call 105;refine (HO.out _ (by first|exact (Below.refl _ _).drew|exact ((Below.refl _ _).alloc (Nat.le_refl _) _).drew|exact (Below.refl _ _).drew.alloc (by simp) _)).mono ?_;rintro e w1 ⟨d,kb,sb,wb,fb,c0,c1,c3,fg,rfl,hd⟩;have HD:=Lib.hid hd;clear hd)
 all_goals
  go_wp2_with fail
  go_ret
 . obtain ⟨h1,h2,h3,h4,h5⟩:=HB.out;have z:=HD.out.below.size;refine YC (W0:=W0.drew) (W:=w1) (m:=w1.heap.size+1) (pb:=w1.heap.size) HD.out (Nat.le_refl _) (((Below.refl _ _).alloc (Nat.le_refl _) _).alloc (by simp) _) (((((Below.refl _ W0).drew.trans HD.out.below).alloc z _).alloc (by simp at z⊢;omega) _)) (by omega) (Or.inl (Nat.le_refl _)) (by omega) (td w1 _ _).2 ⟨_,_,(td w1 _ _).1,fun k hk=>jg _ _ _ hk⟩ h1 h2 h3 h4 h5
 . obtain ⟨h1,h2,h3,h4,h5⟩:=HB.out;have z:=HD.out.below.size;have zz:W0.heap.size+1<=w1.heap.size:=by simp at z;omega
   have e0:w1.heap[W0.heap.size]?=some (.cells (madeCells #[.int .u64 0] np) 43):=(HD.out.below.block W0.heap.size (by simp)).trans (heap_alloc_new W0 _)
   refine YC (W0:=(W0.alloc (.cells (madeCells #[.int .u64 0] np) 43)).drew) (W:=w1) (m:=w1.heap.size) (pb:=W0.heap.size) HD.out (by simp) ((Below.refl _ _).alloc (Nat.le_refl _) _) (((((Below.refl _ W0).alloc (Nat.le_refl _) _).drew.trans (HD.out.below.mono (by simp))).alloc (by omega) _)) (by omega) (Or.inr ⟨Nat.le_refl _,by simp⟩) (by omega) (heap_alloc_new w1 _) ⟨_,_,(Below.heap_alloc w1 _ _ (by omega)).trans e0,fun k hk=>jg _ _ _ hk⟩ h1 h2 h3 h4 h5
end Go.Proofs.YtfnkmolffhfpoaaGreat
namespace Go.Proofs.YtfnkmolffhfpoaaGreat
open Go.RowKit Go.ChangeShapes Go.WideShapes Go.Deep
def Af(P:Program):Nat->TypeId->Nat->Option (Option IntKind)
 |0,_,_=>none
 |d+1,t,j=>
  match P.underlying t with
  |some (.int k)=>if j=0 then some (some k)else none
  |some .bool=>if j=0 then some none else none
  |some (.struct fs)=>
   match fs.toList.find? fun f=>decide (f.offset<=j)&&decide (j<f.offset+P.cellsOf f.type)with
   |some f=>Af P d f.type (j -f.offset)
   |none=>none
  |some (.array n e)=>if 0<P.cellsOf e/\j<n*P.cellsOf e then Af P d e (j %P.cellsOf e)else none
  |_=>none
def kZ(k:Option IntKind)(v:Value):Prop:=
 match k with
 |some k=>∃n,v= .int k n/\(Lit.int k n).wf=true
 |none=>∃b,v= .bool b
section
variable{H:Type}{enc:TypeId×Value->H}{P:Program}{w:World}{base:Nat}{spare:Nat->Bool}{held:Bool}
theorem Cd:∀(d:Nat) (t:TypeId) (j:Nat) (k:Option IntKind) (fuel:Nat) (cs:List Value) (x:DataW H×List MemPlace),
  DataW.trod enc P w base spare held fuel t cs=some x->Af P d t j=some k->∃v,cs[j]?=some v/\kZ k v
 |0,_,_,_,_,_,_,_,hk=>by simp [Af]at hk
 |d+1,t,j,k,fuel,cs,x,h,hk=>by
  unfold Af at hk
  split at hk
  . rename_i q hu
    split at hk
    . rename_i hj;simp only [Option.some.injEq]at hk;subst hk hj;obtain ⟨n,rfl,-,hw⟩:=DataW.trod_int hu h;exact ⟨_,rfl,n,rfl,hw⟩
    . cases hk
  . rename_i hu
    split at hk
    . rename_i hj;simp only [Option.some.injEq]at hk;subst hk hj;obtain ⟨b,rfl,-⟩:=DataW.trod_bool hu h;exact ⟨_,rfl,b,rfl⟩
    . cases hk
  . rename_i fs hu
    split at hk
    . rename_i f hf;obtain ⟨xs,n,-,-,hlen,vv,lZ⟩:=DataW.trod_struct hu h;have Uv:=List.mem_of_find?_eq_some hf;have Fae:=List.find?_some hf;simp only [Bool.and_eq_true,decide_eq_true_eq]at Fae;obtain ⟨i,hi,rfl⟩:=List.mem_iff_getElem.1 Uv
      have hfi:fs[i]?=some (fs.toList[i]):=by
       rw [<-Array.getElem?_toList];exact List.getElem?_eq_getElem hi
      have h1:=lZ i _ hfi;have hix:i<xs.length:=by rw [vv];simpa using hi
      rw [List.getElem?_eq_getElem hix]at h1;obtain ⟨v,hv,hl⟩:=Cd d _ _ k n _ _ h1 hk;refine ⟨v, ?_,hl⟩;rw [List.getElem?_take]at hv
      split at hv
      . rw [List.getElem?_drop]at hv;rw [<-hv];congr 1;omega
      . cases hv
    . cases hk
  . rename_i n e hu
    split at hk
    . rename_i hc;obtain ⟨xs,m,-,-,hlen,vv,hel⟩:=DataW.trod_array hu h;have hi:j/P.cellsOf e<n:=Nat.div_lt_of_lt_mul (by rw [Nat.mul_comm];exact hc.2);have h1:=hel _ hi;rw [List.getElem?_eq_getElem (by omega)]at h1;obtain ⟨v,hv,hl⟩:=Cd d _ _ k m _ _ h1 hk;refine ⟨v, ?_,hl⟩;rw [List.getElem?_take]at hv
      split at hv
      . rw [List.getElem?_drop]at hv;rw [<-hv];congr 1;have:=Nat.div_add_mod j (P.cellsOf e);rw [Nat.mul_comm]at this;omega
      . cases hv
    . cases hk
  . cases hk
end
def Xt(W:World)(a:Option Addr)(len:Nat)(at_ wv:Nat->Int):Prop:=
 ∀i,i<len->∃b off,a=some ⟨b,off,none⟩/\b<W.heap.size/\W.cell? ⟨b,off+i*2,none⟩=some (.int .i64 (at_ i))/\W.cell? ⟨b,off+i*2+1,none⟩=some (.int .u64 (wv i))/\
  (-9223372036854775808<=at_ i/\at_ i<=9223372036854775807)/\0<=wv i/\wv i<18446744073709551616
end Go.Proofs.YtfnkmolffhfpoaaGreat
namespace Go.Proofs.YtfnkmolffhfpoaaGreat
open Go.RowKit Go.BigFrame
def Nd(M:Mv)(at_ wv:Nat->Int):Nat->Mv
 |0=>M
 |k+1=>(Nd M at_ wv k).store 0 (at_ k) (wv k)
def je(R:Rv)(at_ wv:Nat->Int):Nat->Rv
 |0=>R
 |k+1=>(je R at_ wv k).store 0 (at_ k) (wv k)
def kS(N:Nat)(f:Nat->Int)(a w:Int):Nat->Int:=if 0<=a/\a<(N:Int)then Ed f a.toNat w else f
def uF(N:Nat)(at_ wv:Nat->Int):Nat->Nat->Int
 |0=>fun _=>0
 |k+1=>kS N (uF N at_ wv k) (at_ k) (wv k)
theorem Jx(M:Mv)(t a w:Int):(M.store t a w).own=M.own/\(M.store t a w).n=M.n/\(M.store t a w).m=M.m/\(M.store t a w).d=M.d/\(M.store t a w).ck=M.ck+1/\(M.store t a w).seen=kS (8*M.n) M.seen a w:=by
 refine ⟨Mv.uo _ _ _ _, ?_, ?_, ?_, ?_, ?_⟩
 . show(if((M.Ga a).2&&true)=true then M.put a w else M).n=M.n
   split
   . unfold Mv.put;split<;>rfl
   . rfl
 . show(if((M.Ga a).2&&true)=true then M.put a w else M).m=M.m
   split
   . exact Mv.ET _ _ _
   . rfl
 . show(if((M.Ga a).2&&true)=true then M.put a w else M).d=M.d
   split
   . exact Mv.Zab _ _ _
   . rfl
 . show(if((M.Ga a).2&&true)=true then M.put a w else M).ck+1=M.ck+1
   split
   . rw [Mv.Ws]
   . rfl
 . show(if((M.Ga a).2&&true)=true then M.put a w else M).seen=kS (8*M.n) M.seen a w
   unfold kS;by_cases h0:0<=a
   . by_cases h1:a/8<(M.n:Int)
     . have hp:((M.Ga a).2&&true)=true:=by unfold Mv.Ga fe;rw [if_pos h0,if_pos h1];rfl
       rw [if_pos hp,if_pos (show 0<=a/\a<((8*M.n:Nat):Int)from⟨h0,by omega⟩)];unfold Mv.put;rw [if_pos h0]
     . have hp:¬((M.Ga a).2&&true)=true:=by unfold Mv.Ga fe;rw [if_pos h0,if_neg h1];decide
       rw [if_neg hp,if_neg (show¬(0<=a/\a<((8*M.n:Nat):Int))by omega)]
   . rw [if_neg (show¬(0<=a/\a<((8*M.n:Nat):Int))by omega)]
     split
     . unfold Mv.put;rw [if_neg h0]
     . rfl
theorem Dg(M:Mv)(at_ wv:Nat->Int):∀k,(Nd M at_ wv k).own=M.own/\(Nd M at_ wv k).n=M.n/\(Nd M at_ wv k).m=M.m/\(Nd M at_ wv k).d=M.d/\(Nd M at_ wv k).ck=M.ck+k
 |0=>⟨rfl,rfl,rfl,rfl,by show M.ck=M.ck+0;omega⟩
 |k+1=>by
  obtain ⟨h1,h2,h3,h4,h5⟩:=Dg M at_ wv k;obtain ⟨s1,s2,s3,s4,s5,-⟩:=Jx (Nd M at_ wv k) 0 (at_ k) (wv k);exact ⟨s1.trans h1,s2.trans h2,s3.trans h3,s4.trans h4,by show((Nd M at_ wv k).store 0 (at_ k) (wv k)).ck=_;rw [s5,h5];omega⟩
theorem Yt(M:Mv)(at_ wv:Nat->Int)(h0:M.seen=fun _=>0):∀k,(Nd M at_ wv k).seen=uF (8*M.n) at_ wv k
 |0=>h0
 |k+1=>by
  have h:=(Jx (Nd M at_ wv k) 0 (at_ k) (wv k)).2.2.2.2.2
  rw [Yt M at_ wv h0 k,(Dg M at_ wv k).2.1]at h;exact h
theorem ZC(R:Rv)(t a w:Int):R.store t a w=R.nC ⟨2,t,a,0,w,false⟩:=rfl
theorem Yi(R:Rv)(at_ wv:Nat->Int):∀k:Nat,(je R at_ wv k).own=R.own/\(je R at_ wv k).m=R.m/\(je R at_ wv k).wm<=R.wm+k/\(je R at_ wv k).ck<=R.ck+k
 |0=>⟨rfl,rfl,by show R.wm<=R.wm+0;omega,by show R.ck<=R.ck+0;omega⟩
 |k+1=>by
  obtain ⟨h1,h2,h3,h4⟩:=Yi R at_ wv k;obtain ⟨s1,s2,s3,s4⟩:=LJ (je R at_ wv k) ⟨2,0,at_ k,0,wv k,false⟩;rw [<-ZC]at s1 s2 s3 s4;exact ⟨s1.trans h1,s2.trans h2,by show((je R at_ wv k).store 0 (at_ k) (wv k)).wm<=_;omega,by show((je R at_ wv k).store 0 (at_ k) (wv k)).ck<=_;omega⟩
theorem Kx{M:Mv}{R:Rv}(h:Alike M R)(at_ wv:Nat->Int):∀k,Alike (Nd M at_ wv k) (je R at_ wv k)
 |0=>h
 |k+1=>(Kx h at_ wv k).Oe _ _ _
def mZ(th sl Ta bu:Nat):Nat:=Hd (40+bu)+8*th+Hd Ta*th+8*sl
theorem Zt(th sl Ta bu:Nat):mZ th sl Ta bu=8*(5+(bu+7)/8+th+th*((Ta+7)/8)+sl):=by
 unfold mZ Hd;have e:(Ta+7)/8*8*th=8*(th*((Ta+7)/8)):=by
  rw [Nat.mul_comm ((Ta+7)/8) 8,Nat.mul_assoc,Nat.mul_comm ((Ta+7)/8) th]
 rw [e];generalize th*((Ta+7)/8)=x;omega
theorem Gae(th sl Ta bu:Nat):((mZ th sl Ta bu:Nat):Int)=(⟨th,sl,Ta,bu⟩:Dc).lv.ln*8:=by
 rw [Zt]
 show _=(5+jb (bu:Int)+(th:Int)+(th:Int)*jb (Ta:Int)+(sl:Int))*8
 have e1:jb (bu:Int)=(((bu+7)/8:Nat):Int):=by unfold jb;omega
 have e2:jb (Ta:Int)=(((Ta+7)/8:Nat):Int):=by unfold jb;omega
 rw [e1,e2,<-Int.natCast_mul];generalize th*((Ta+7)/8)=x;generalize (bu+7)/8=y;omega
theorem Hae(th sl Ta bu:Nat)(h1:th<=6)(h2:sl<=30)(h3:Ta<=8)(h4:bu<=8):mZ th sl Ta bu<=400:=by
 rw [Zt];have:th*((Ta+7)/8)<=6*1:=Nat.mul_le_mul h1 (by omega);omega
structure qw(W0:World)(G:Array Value)(c:Dc)(M:Mv)(R:Rv)(l:Nat)(wr:World):Prop where
 below:Below W0.heap.size W0 wr
 box:wr.heap[W0.heap.size]?=some (.cells G 26 (0,0))
 lay:Ac wr l c.lv
 mem:Ba wr M
 ref:ma wr R
 Lg:Alike M R
 lo:W0.heap.size+1<=l/\(∀k,M.own k->W0.heap.size+1<=k/\k≠l/\¬R.own k)/\∀k,R.own k->W0.heap.size+1<=k/\k≠l
theorem qw.grow{W0:World}{G:Array Value}{c:Dc}{M:Mv}{R:Rv}{l:Nat}{wr w':World}(h:qw W0 G c M R l wr)(hb:Below wr.heap.size wr w'):qw W0 G c M R l w':=
 ⟨h.below.trans (hb.mono h.below.size),(hb.block _ (Mb h.box)).trans h.box,h.lay.keep (hb.block _ h.lay.lt),h.mem.below hb,h.ref.below hb,h.Lg,h.lo⟩
theorem qw.vF{W0:World}{G:Array Value}{c:Dc}{M M':Mv}{R:Rv}{l:Nat}{wr w':World}(h:qw W0 G c M R l wr)(hm:Ba w' M')(ht:Ea M.own wr w')(ho:M'.own=M.own):Below W0.heap.size W0 w'/\w'.heap[W0.heap.size]?=some (.cells G 26 (0,0))/\Ac w' l c.lv/\ma w' R:=by
 have hs:=h.below.size;refine ⟨h.below.trans (ht.below hs fun k hk ho=>by have:=(h.lo.2.1 k ho).1;omega), ?_, ?_, ?_⟩
 . exact (ht.block _ (Mb h.box) fun ho=>by have:=(h.lo.2.1 _ ho).1;omega).trans h.box
 . exact h.lay.keep (ht.block _ h.lay.lt fun ho=>(h.lo.2.1 _ ho).2.1 rfl)
 . exact h.ref.JX ht fun k hr ho=>(h.lo.2.1 k ho).2.2 hr
theorem qw.both{W0:World}{G:Array Value}{c:Dc}{M M':Mv}{R R':Rv}{l:Nat}{wr w1 w2:World}(h:qw W0 G c M R l wr)(hm:Ba w1 M')(ht:Ea M.own wr w1)(ho:M'.own=M.own){w1':World}(hb:Below w1.heap.size w1 w1')(hr:ma w2 R')(DP:Ea R.own w1' w2)(ho2:R'.own=R.own)(hl:Alike M' R'):qw W0 G c M' R' l w2:=by
 obtain ⟨b1,b2,b3,b4⟩:=h.vF hm ht ho;have NR:=hm.below hb;have b1':=b1.trans (hb.mono b1.size);have b2':=(hb.block _ (Mb b2)).trans b2
 have b3':=b3.keep (hb.block _ b3.lt);refine ⟨b1'.trans (DP.below b1'.size fun k hk ho=>by have:=(h.lo.2.2 k ho).1;omega), ?_, ?_, ?_,hr,hl, ?_⟩
 . exact (DP.block _ (Mb b2') fun ho=>by have:=(h.lo.2.2 _ ho).1;omega).trans b2'
 . exact b3'.keep (DP.block _ b3'.lt fun ho=>(h.lo.2.2 _ ho).2 rfl)
 . exact NR.JX DP fun k hk hr=>(h.lo.2.1 k (by rw [<-ho];exact hk)).2.2 hr
 . rw [ho,ho2];exact h.lo
structure Laid(c:Dc)(at_ wv:Nat->Int)(len:Nat)(W W':World)(l:Nat)(M:Mv)(R:Rv):Prop where
 below:Below W.heap.size W W'
 lay:Ac W' l c.lv
 mem:Ba W' M
 ref:ma W' R
 Lg:Alike M R
 lo:W.heap.size+1<=l/\(∀k,M.own k->W.heap.size+1<=k/\k≠l/\¬R.own k)/\∀k,R.own k->W.heap.size+1<=k/\k≠l
 n:((8*M.n:Nat):Int)=c.lv.ln*8
 ck:M.ck=len
 seen:M.seen=uF (8*M.n) at_ wv len
 Qg:∃(M0:Mv) (R0:Rv),M=Nd M0 at_ wv len/\R=je R0 at_ wv len/\M0.wr=(fun _=>0)/\M0.wm=0/\0<M0.np/\R0.seen=(fun _=>0)/\R0.kept=(fun _=>0)/\R0.pass=(fun _=>0)/\R0.wr=(fun _=>0)/\R0.wm=0/\R0.ck=0
def fU(c:Dc)(at_ wv:Nat->Int)(len:Nat)(W:World)(e:Ending)(W':World):Prop:=
 (¬(c.qm/\len<=100)/\e= .returned (.tuple #[.pointer none, .pointer none, .pointer none, .bool false])/\Below W.heap.size W W')\/
 ((c.qm/\len<=100)/\∃l M R,e= .returned (.tuple #[.pointer (some ⟨l,0,none⟩), .pointer (some ⟨M.m,0,none⟩), .pointer (some ⟨R.m,0,none⟩), .bool true])/\Laid c at_ wv len W W' l M R)
theorem uN(M:Mv)(W:World)(h:Ba W M):Calls Tryz.prog 48 #[.pointer (some ⟨M.m,0,none⟩)] W (Rb (.pointer (some ⟨M.d,0,none⟩)) W):=by
 have q0:=ga h.row 0 _ rfl;clear h
 go_enter Tryz.func48,Tryz.ntmps48
 go_wp2_with fail
 go_ret
 exact ⟨rfl,rfl⟩
def vN(c:Dc)(a:Option Addr)(len cap:Nat):Array Value:=#[.int .i64 c.th, .int .i64 c.sl, .int .i64 c.lo, .int .i64 c.bu, .slice a len cap]
theorem jA{fn:Func}{t u v x:Tmp}(h:fn.results=#[.tmp t, .tmp u, .tmp v, .tmp x])(tmps:Array Value)(P:Program)(w:World):
  (results fn tmps).run P w= .ok (.tuple #[tmps.getD t undef,tmps.getD u undef,tmps.getD v undef,tmps.getD x undef]) w:=by
 simp [results,h]
set_option maxRecDepth 100000 in
set_option maxHeartbeats 4000000 in
theorem wN(th sl Ta bu:Nat)(hf:(⟨th,sl,Ta,bu⟩:Dc).qm)(a:Option Addr)(len cap:Nat)(hl:len<=100)(at_ wv:Nat->Int)(W:World)(hP:Xt W a len at_ wv):Calls Tryz.prog 6 #[.agg (vN ⟨th,sl,Ta,bu⟩ a len cap)] W (fU ⟨th,sl,Ta,bu⟩ at_ wv len W):=by
 have HFW:=Lib.hid fun w=>Zw ⟨th,sl,Ta,bu⟩ w
 rw [ca hf]at HFW;have HF:=Lib.hid hf;obtain ⟨⟨f1,f2,f3,f4,f5,f6,f7,f8⟩,f9,f10,f11,f12⟩:=hf;simp only at f1 f2 f3 f4 f5 f6 f7 f8 f9 f10 f11 f12;have HOF:=Lib.hid fun w=>Oap ⟨th,sl,Ta,bu⟩ HF.out.1 w
 have MP:=Lib.hid fun w=>fx th sl Ta bu (by omega) (by omega) (by omega) (by omega) w
 have Q2:=Lib.hid fun w=>bx th sl Ta bu (by omega) (by omega) w
 have HNL:Hid (((mZ th sl Ta bu:Nat):Int)=(⟨th,sl,Ta,bu⟩:Dc).lv.ln*8):=Lib.hid (Gae th sl Ta bu);have kX:=Zt th sl Ta bu;have oK:=Hae th sl Ta bu (by omega) (by omega) (by omega) (by omega);obtain ⟨m,hm⟩:∃m,m=5+(bu+7)/8+th+th*((Ta+7)/8)+sl:=⟨_,rfl⟩;rw [<-hm]at kX;have m0:5<=m:=by omega
 change Hid (∀w,Calls Tryz.prog 41 _ w (Cz (mZ th sl Ta bu) _ w))at MP;obtain ⟨nw,hnw⟩:∃nw,nw=mZ th sl Ta bu:=⟨_,rfl⟩;rw [<-hnw]at MP HNL kX oK;obtain ⟨np,PQ⟩:∃np,np=2+th+sl:=⟨_,rfl⟩;rw [<-PQ]at Q2;have HNP:Hid (0<np):=Lib.hid (by omega);have HM:Hid (nw=8*m/\nw<=400/\5<=m/\np<=100/\1<=th/\th<=64):=Lib.hid ⟨kX,oK,m0,by omega,by omega,by omega⟩;have nZ:Ng nw (th:Int)=0:=by
  unfold Ng;have hw:ig nw=0:=by unfold ig;rw [if_neg (by omega),if_neg (by omega)]
  rw [if_neg (by omega),if_neg (by rw [hw];decide),if_neg (by omega)]
 have HOP:Hid (∀(w:World) (b:Nat),w.heap[b]?=some (.cells (madeCells #[.int .u64 0] nw) 43 (0,0))->Calls Tryz.prog 43 #[.slice (some ⟨b,0,none⟩) nw nw, .int .i64 (th:Int)] w fun e w'=>Below w.heap.size w w'/\∃d kb sb wb fb c0 c1,e= .returned (.tuple #[.pointer (some ⟨d,0,none⟩), .int .i64 0])/\QC w' w.heap.size d kb sb wb fb m th c0 c1 (fun _=>0)):=Lib.hid fun w b hw=>by
  have h:=mF (some ⟨b,0,none⟩) b 0 nw nw (fun _=>rfl) (Nat.le_refl _) (by omega) (th:Int) (fun _=>0) w nZ (Mb hw) (fun j hj=>by rw [Nat.zero_add,Ma hw];exact jg _ _ _ hj);refine h.mono fun e w' hh=> ?_
  obtain ⟨hb,⟨h1,-⟩|⟨-,d,kb,sb,wb,fb,c0,c1,he,hd⟩⟩:=hh
  . exact absurd nZ h1
  . rw [show nw/8=m by omega,Int.toNat_natCast]at hd;exact ⟨hb,d,kb,sb,wb,fb,c0,c1,he,hd⟩
 have HNW:=Lib.hid fun d w=>DJ d np (by have:=HM.out;omega) w
 have HMS:Hid (∀d kb sb wb fb c0 c1 mm pb (w6 w7 w8:World),QC w7 w6.heap.size d kb sb wb fb m th c0 c1 (fun _=>0)->Below w7.heap.size w7 w8->w7.heap.size<=mm->w7.heap.size<=pb->mm≠pb->ti w8 mm (.pointer (some ⟨d,0,none⟩)) (.slice (some ⟨pb,0,none⟩) np np) 0 0 ⟨0,0,0,0,0,false⟩->Eb w8 pb np (fun _=> .int .u64 0)->
   Ba w8 (Mv.start mm d kb sb wb fb pb m th np c0 c1 fun _=>0)/\∀k,(Mv.start mm d kb sb wb fb pb m th np c0 c1 fun _=>0).own k->w6.heap.size<=k\/w7.heap.size<=k):=Lib.hid fun d kb sb wb fb c0 c1 mm pb w6 w7 w8 hd hb h1 h2 h3 h4 h5=>
  EJ hd hb h1 h2 h3 h4 h5 (by have:=HM.out;omega) (by have:=HM.out;omega) HM.out.2.2.2.2.2 (by have:=HM.out;omega)
 have HRN:Hid (∀(w:World) (b:Nat),w.heap[b]?=some (.cells (madeCells #[.int .u64 0] nw) 43 (0,0))->Calls Tryz.prog 45 #[.slice (some ⟨b,0,none⟩) nw nw, .int .i64 (th:Int), .int .i64 (np:Int)] w (jZ (fun _=>0) m th np w)):=Lib.hid fun w b hw=>by
  have h:=jS b 0 m nw th np (by omega) (by omega) (by omega) (by omega) (by omega) (fun _=>0) w (Mb hw) (fun j hj=>by rw [Nat.zero_add,Ma hw];exact jg _ _ _ (by omega));rw [<-kX]at h;exact h
 have yP:=en 99 43 _ _ 8 Tryz.underlying99 XG rfl nw (by omega) (by omega);have HPU:=Lib.hid hP;have xN:=Lib.hid hl;unfold vN;simp only;obtain ⟨W1,Lj⟩:∃W1,W1=(W.alloc (.cells #[.int .i64 (th:Int), .int .i64 (sl:Int), .int .i64 (Ta:Int), .int .i64 (bu:Int), .slice a len cap] 26)).alloc (.cells #[.int .i64 (th:Int), .int .i64 (sl:Int), .int .i64 (Ta:Int), .int .i64 (bu:Int)] 23):=⟨_,rfl⟩
 have kY:=Lib.hid Lj;have jh:Hid (Below W.heap.size W W1):=Lib.hid (by rw [Lj];exact ((Below.refl _ _).alloc (Nat.le_refl _) _).alloc (by simp) _);have HG1:Hid (W1.heap[W.heap.size]?=some (.cells #[.int .i64 (th:Int), .int .i64 (sl:Int), .int .i64 (Ta:Int), .int .i64 (bu:Int), .slice a len cap] 26 (0,0))):=Lib.hid (by rw [Lj,Below.heap_alloc _ _ _ (by simp)];exact heap_alloc_new _ _);have qt:Hid (W1.heap[W.heap.size+1]?=some (.cells #[.int .i64 (th:Int), .int .i64 (sl:Int), .int .i64 (Ta:Int), .int .i64 (bu:Int)] 23 (0,0))):=Lib.hid (by
  have:=heap_alloc_new (W.alloc (.cells #[.int .i64 (th:Int), .int .i64 (sl:Int), .int .i64 (Ta:Int), .int .i64 (bu:Int), .slice a len cap] 26)) (.cells #[.int .i64 (th:Int), .int .i64 (sl:Int), .int .i64 (Ta:Int), .int .i64 (bu:Int)] 23);rw [World.size_alloc]at this;rw [Lj];exact this)
 clear Lj;have HQ:Hid (∀w,Below W1.heap.size W1 w->w.cell? ⟨W.heap.size+1,0,none⟩=some (.int .i64 (th:Int))/\w.cell? ⟨W.heap.size+1,1,none⟩=some (.int .i64 (sl:Int))/\w.cell? ⟨W.heap.size+1,2,none⟩=some (.int .i64 (Ta:Int))/\w.cell? ⟨W.heap.size+1,3,none⟩=some (.int .i64 (bu:Int))):=Lib.hid fun w hb=>by
  have h:=(hb.block _ (Mb qt.out)).trans qt.out
  exact ⟨ga h 0 _ rfl,ga h 1 _ rfl,ga h 2 _ rfl,ga h 3 _ rfl⟩
 have d1:decide (100<(len:Int))=false:=ea (by omega);have d2:decide (100<len)=false:=ea (by omega);unfold Dc.cells at HFW HOF;clear hP hl f1 f2 f3 f4 f5 f6 f7 f8 f9 f10 f11 f12 kX oK hm m0 hnw PQ nZ
 go_enter Tryz.func6,Tryz.ntmps6
 go_wp2_with (first|(go_at_call 22;refine (HFW.out _).mono ?_;rintro e w2 ⟨rfl,hb⟩;rw [<-kY.out]at hb;have B2:=Lib.hid hb;have q4:w2.cell? ⟨W.heap.size,4,none⟩=some (.slice a len cap):=ga ((hb.block _ (Mb HG1.out)).trans HG1.out) 4 _ rfl;obtain ⟨q0,q1,q2,q3⟩:=HQ.out _ B2.out;clear hb)|(go_at_call 40;refine (HOF.out _).mono ?_;rintro e w3 ⟨l,rfl,hb,hl,Kae⟩;have B3:=Lib.hid (B2.out.trans (hb.mono B2.out.size));have L3:=Lib.hid (And.intro (Nat.le_trans B2.out.size hl) Kae);clear q4;clear q0 q1 q2 q3;obtain ⟨q0,q1,q2,q3⟩:=HQ.out _ B3.out;clear hb hl Kae)|(go_at_call 41;refine (MP.out _).mono ?_;rintro e w4 ⟨v4,rfl,hb,ho⟩;obtain ⟨va,vc,rfl⟩:=Ra ho;have B4:=Lib.hid (B3.out.trans (hb.mono B3.out.size));have L4:=Lib.hid (L3.out.2.keep (hb.block _ L3.out.2.lt));have B5:=Lib.hid (B4.out.alloc B4.out.size (.cells (madeCells #[.int .u64 0] nw) 43));clear q0 q1 q2 q3;have HQ4:=Lib.hid (HQ.out _ B4.out);obtain ⟨q0,q1,q2,q3⟩:=HQ.out _ B5.out;clear hb ho)|(go_at_call 42;refine (Q2.out _).mono ?_;rintro e w6 ⟨v6,rfl,hb,ho⟩;obtain ⟨vd,ve,rfl⟩:=Ra ho;have Z6:=Lib.hid hb.size;have B6:=Lib.hid (B5.out.trans (hb.mono B5.out.size));have R6:=Lib.hid ((hb.block w4.heap.size (by simp)).trans (heap_alloc_new _ _));have L6:=Lib.hid ((L4.out.keep (Below.heap_alloc _ _ _ L4.out.lt)).keep (hb.block _ (by have:=L4.out.lt;simp;omega)));clear q0 q1 q2 q3;obtain ⟨q0,q1,q2,q3⟩:=HQ.out _ B6.out;clear hb ho)|(go_at_call 43;refine (HOP.out w6 w4.heap.size R6.out).mono ?_;rintro e w7 ⟨hb,d,kb,sb,wb,fb,e0,e1,rfl,hd⟩;have Z7:=Lib.hid hb.size;have B7:=Lib.hid (B6.out.trans (hb.mono B6.out.size));have D7:=Lib.hid hd;have R7:=Lib.hid ((hb.block w4.heap.size (Mb R6.out)).trans R6.out);have L7:=Lib.hid (L6.out.keep (hb.block _ L6.out.lt));clear q0 q1 q2 q3;obtain ⟨q0,q1,q2,q3⟩:=HQ.out _ B7.out;clear hb hd)|(go_at_call 44;refine (HNW.out d _).mono ?_;rintro e w8 ⟨mm,pb,rfl,hb,m1,m2,m3,m4,m5⟩;have Z8:=Lib.hid hb.size;have B8:=Lib.hid (B7.out.trans (hb.mono B7.out.size));have M8:=Lib.hid (HMS.out d kb sb wb fb e0 e1 mm pb w6 w7 w8 D7.out hb m1 m2 m3 m4 m5);have R8:=Lib.hid ((hb.block w4.heap.size (Mb R7.out)).trans R7.out);have L8:=Lib.hid (L7.out.keep (hb.block _ L7.out.lt));clear q0 q1 q2 q3;obtain ⟨q0,q1,q2,q3⟩:=HQ.out _ B8.out;clear hb m1 m2 m3 m4 m5)|(go_at_call 45;refine (HRN.out w8 w4.heap.size R8.out).mono ?_;rintro e w9 ⟨R,rfl,r1,r2,r3,hb,r4⟩;have B9:=Lib.hid (B8.out.trans (hb.mono B8.out.size));have M9:=Lib.hid (M8.out.1.below hb);have L9:=Lib.hid (L8.out.keep (hb.block _ L8.out.lt));have R9:=Lib.hid (And.intro r1 (And.intro r2 (And.intro r3 r4)));clear hb r1 r2 r3 r4))
 have HLY:Hid (∃M0:Mv,qw W #[.int .i64 (th:Int), .int .i64 (sl:Int), .int .i64 (Ta:Int), .int .i64 (bu:Int), .slice a len cap] ⟨th,sl,Ta,bu⟩ (Nd M0 at_ wv 0) (je R at_ wv 0) l w9/\M0.m=mm/\M0.n=m/\M0.ck=0/\M0.seen=(fun _=>0)/\R.ck=0/\R.wm=0/\M0.wr=(fun _=>0)/\M0.wm=0/\0<M0.np/\R.seen=(fun _=>0)/\R.kept=(fun _=>0)/\R.pass=(fun _=>0)/\R.wr=(fun _=>0)):=Lib.hid (by
  have hs1:W1.heap.size=W.heap.size+1+1:=by rw [kY.out];simp
  have CP:=L3.out.1
  have iG:=L4.out.lt;have z4:=B4.out.size;have hs5:(w4.alloc (.cells (madeCells #[.int .u64 0] nw) 43)).heap.size=w4.heap.size+1:=by simp
  have z6:w4.heap.size<=w6.heap.size:=by have:=Z6.out;rw [hs5]at this;omega
  have z7:=Z7.out;have z8:=Z8.out;refine ⟨Mv.start mm d kb sb wb fb pb m th np e0 e1 fun _=>0,⟨?_,(B9.out.block _ (Mb HG1.out)).trans HG1.out,L9.out,M9.out,R9.out.1, ?_, ?_⟩,rfl,rfl,rfl,rfl,R9.out.2.1.ej,R9.out.2.2.2.1,rfl,rfl,HNP.out,R9.out.2.2.2.2.1,R9.out.2.2.2.2.2.1,R9.out.2.2.2.2.2.2.1,R9.out.2.2.2.2.2.2.2⟩
  . exact jh.out.trans (B9.out.mono jh.out.size)
  . exact (FJ mm d kb sb wb fb pb m th np e0 e1 (fun _=>0) (fun _=>⟨0,0,0,0,0,false⟩) R R9.out.2.1).1
  . refine ⟨by omega,fun k hk=> ?_,fun k hk=> ?_⟩
    . have h1:=M8.out.1.lt hk
      have h2:=M8.out.2 k hk
      refine ⟨by omega,by omega,fun hr=> ?_⟩;have:=R9.out.2.2.1 k hr
      omega
    . have:=R9.out.2.2.1 k hk
      omega)
 obtain ⟨M0,hly,FA,J2,hm3,F4,xQ,Zx,Kh,qg,iQ,hz4,hz5,hz6,hz7⟩:=HLY.out;have HZ:=Lib.hid (And.intro Kh (And.intro qg (And.intro iQ (And.intro hz4 (And.intro hz5 (And.intro hz6 hz7))))));clear Kh qg iQ hz4 hz5 hz6 hz7;have Lae:=Lib.hid hly;have oZ:=Lib.hid (And.intro FA (And.intro J2 (And.intro hm3 (And.intro F4 (And.intro xQ Zx)))));have ej:=fun k=>(Dg M0 at_ wv k).2.2.2.2
 have HCK:Hid (∀k:Nat,k<=100->(Nd M0 at_ wv k).ck<=1000000/\(je R at_ wv k).ck<=1000000):=Lib.hid fun k hk=>⟨by rw [ej k,hm3];omega,by have:=(Yi R at_ wv k).2.2.2;omega⟩
 have RT:Hid (∀k,(Nd M0 at_ wv k).m=mm/\(je R at_ wv k).m=R.m):=Lib.hid fun k=>⟨(Dg M0 at_ wv k).2.2.1.trans FA,(Yi R at_ wv k).2.1⟩
 have OY:Hid (∀(k:Nat) (w:World),k<len->Ba w (Nd M0 at_ wv k)->Calls Tryz.prog 46 #[.pointer (some ⟨mm,0,none⟩), .int .i64 0, .int .i64 (at_ k), .int .u64 (wv k)] w (Cq (Nd M0 at_ wv k) (Nd M0 at_ wv (k+1)) w)):=Lib.hid fun k w hk hm=>by
  obtain ⟨b,off,-,-,-,-,hb,-⟩:=HPU.out k hk;have h:=WQ (Nd M0 at_ wv k) 0 (at_ k) (wv k) hb.1 hb.2 w hm (HCK.out k (by have:=xN.out;omega)).1
  rw [(RT.out k).1]at h;exact h
 have HRS:Hid (∀(k:Nat) (w:World),k<len->ma w (je R at_ wv k)->Calls Tryz.prog 47 #[.pointer (some ⟨R.m,0,none⟩), .int .i64 2, .int .i64 0, .int .i64 (at_ k), .int .u64 0, .int .u64 (wv k)] w (Ch (je R at_ wv k) (je R at_ wv (k+1)) w)):=Lib.hid fun k w hk hm=>by
  obtain ⟨b,off,-,-,-,-,hb,-⟩:=HPU.out k hk;have h:=um (je R at_ wv k) 0 (at_ k) 0 (wv k) hb.1 hb.2 w hm (HCK.out k (by have:=xN.out;omega)).2
  rw [(RT.out k).2]at h;exact h
 have HML:Hid (∀k,(Nd M0 at_ wv (k+1)).own=(Nd M0 at_ wv k).own/\(je R at_ wv (k+1)).own=(je R at_ wv k).own):=Lib.hid fun k=>⟨(Dg M0 at_ wv (k+1)).1.trans (Dg M0 at_ wv k).1.symm,(Yi R at_ wv (k+1)).1.trans (Yi R at_ wv k).1.symm⟩
 have HLK:Hid (∀k,Alike (Nd M0 at_ wv k) (je R at_ wv k)):=Lib.hid fun k=>Kx hly.Lg at_ wv k
 clear hly FA J2 hm3 F4 xQ Zx ej HLY HFW HOF MP Q2 HOP HNW HMS HRN yP d1 d2 jh HG1 qt HQ B2 B3 L3 B4 L4 B5 HQ4 B6 R6 L6 B7 D7 R7 L7 B8 M8 R8 L8 B9 M9 L9 R9 kY Z6 Z7 Z8 q0 q1 q2 q3
 go_loopw [16] (fun i wr=>∃k:Nat,k<=len/\i= .int .i64 k/\Hid (qw W #[.int .i64 (th:Int), .int .i64 (sl:Int), .int .i64 (Ta:Int), .int .i64 (bu:Int), .slice a len cap] ⟨th,sl,Ta,bu⟩ (Nd M0 at_ wv k) (je R at_ wv k) l wr)) (fun i _=>len -(intOf i).toNat)
 case atStart=>exact ⟨0,Nat.zero_le _,rfl,Lae⟩
 case round=>
  obtain ⟨k,hk,rfl,HK⟩:=hrel;have q4:wr.cell? ⟨W.heap.size,4,none⟩=some (.slice a len cap):=ga HK.out.box 4 _ rfl;by_cases Ab:k<len
  . have d1:decide ((k:Int)<(len:Int))=true:=ca (by omega);have d2:decide (k<len)=true:=ca Ab;obtain ⟨b,off,ha,hb,c1,c2,hbd⟩:=HPU.out k Ab;have x1:=(HK.out.below.cell (p:=⟨b,off+k*2,none⟩) hb).trans c1
    have x2:=(HK.out.below.cell (p:=⟨b,off+k*2+1,none⟩) hb).trans c2
    rw [ha]at q4;have HA:=Lib.hid ha;have lS:=Lib.hid (And.intro hb (And.intro c1 c2));have Ah:=Lib.hid Ab;have i0:(0:Int)<=(k:Int):=by omega
    have i1:(k:Int)<(len:Int):=by omega
    clear ha hb c1 c2 hbd Ab
    go_wp2_with fail
    refine vg 0 13 (by kernel_rfl) (by kernel_rfl) (fun _ _ d _ _ h=>by cases d<;>exact h) ?_
    simp only [List.take_succ_cons,List.take_zero,List.drop_succ_cons,List.drop_zero,Nat.reduceAdd];refine wpQuiet_nil ?_
    repeat (first|go_big_quiet_skip|(go_big_quiet_want;go_big_quiet_op;go_big_quiet_on))
    refine wpQuiet_nil ?_
    rintro _ ⟨q,rfl⟩;have HK1:=Lib.hid (HK.out.grow (zb (Below.refl _ wr) q));clear q4 x1 x2;generalize wr.drewN q=wr1 at*
    go_wp2_with fail
    refine (OY.out k _ Ah.out HK1.out.mem).mono ?_
    rintro e wa ⟨⟨xv,rfl⟩,hm,ht⟩;have HMA:=Lib.hid (And.intro hm ht);have hA:=HK1.out.vF hm ht (HML.out k).1
    have q4:wa.cell? ⟨W.heap.size,4,none⟩=some (.slice (some ⟨b,off,none⟩) len cap):=by rw [<-HA.out];exact ga hA.2.1 4 _ rfl
    have x1:=(hA.1.cell (p:=⟨b,off+k*2,none⟩) lS.out.1).trans lS.out.2.1
    have x2:=(hA.1.cell (p:=⟨b,off+k*2+1,none⟩) lS.out.1).trans lS.out.2.2
    clear hm ht hA
    go_wp2_with fail
    refine vg 0 13 (by kernel_rfl) (by kernel_rfl) (fun _ _ d _ _ h=>by cases d<;>exact h) ?_
    simp only [List.take_succ_cons,List.take_zero,List.drop_succ_cons,List.drop_zero,Nat.reduceAdd];refine wpQuiet_nil ?_
    repeat (first|go_big_quiet_skip|(go_big_quiet_want;go_big_quiet_op;go_big_quiet_on))
    refine wpQuiet_nil ?_
    rintro _ ⟨q2,rfl⟩;have HBA:=Lib.hid (zb (Below.refl wa.heap.size wa) q2);have HRA:=Lib.hid ((HK1.out.vF HMA.out.1 HMA.out.2 (HML.out k).1).2.2.2.below HBA.out);clear q4 x1 x2;generalize wa.drewN q2=wa1 at*
    go_wp2_with fail
    refine (HRS.out k _ Ah.out HRA.out).mono ?_
    rintro e wb ⟨he,hr,DP⟩;obtain ⟨xr,hxr⟩:∃xr,xr=Value.agg (je R at_ wv (k+1)).la.cells:=⟨_,rfl⟩
    rw [<-hxr]at he;subst he;clear hxr;have HKB:=Lib.hid (HK1.out.both HMA.out.1 HMA.out.2 (HML.out k).1 HBA.out hr DP (HML.out k).2 (HLK.out (k+1)));clear hr DP
    go_wp2_with fail
    go_roundw
    case rel=>
     have hw:wrap64 ((k:Int)+1)=(k:Int)+1:=by have:=Ah.out;have:=xN.out;unfold wrap64;omega
     exact ⟨k+1,by have:=Ah.out;omega,by rw [hw];go_num,HKB⟩
    case measure=>
     have hw:wrap64 ((k:Int)+1)=(k:Int)+1:=by have:=Ah.out;have:=xN.out;unfold wrap64;omega
     rw [hw];have h:=Ah.out;have e1:(intOf (.int .i64 ((k:Int)+1))).toNat=k+1:=by show((k:Int)+1).toNat=k+1;omega
     have e2:(intOf (.int .i64 (k:Int))).toNat=k:=by show((k:Int)).toNat=k;omega
     rw [e1,e2];exact Nat.sub_lt_sub_left h (Nat.lt_succ_self k)
  . obtain rfl:k=len:=by omega
    have d1:decide ((k:Int)<(k:Int))=false:=by simp
    have d2:decide (k<k)=false:=by simp
    have HDV:=Lib.hid (uN (Nd M0 at_ wv k) wr HK.out.mem);have HSE:=Lib.hid (WR (Nd M0 at_ wv k) wr HK.out.mem);have X2:=Lib.hid (Dg M0 at_ wv k);rw [X2.out.2.2.1,oZ.out.1]at HDV;rw [X2.out.2.1,oZ.out.2.1,<-HM.out.1]at HSE;have jN:Hid (∀w',Below wr.heap.size wr w'->fU ⟨th,sl,Ta,bu⟩ at_ wv k W (.returned (.tuple #[.pointer (some ⟨l,0,none⟩), .pointer (some ⟨mm,0,none⟩), .pointer (some ⟨R.m,0,none⟩), .bool true])) w'):=Lib.hid fun w' hb=>by
     have hg:=HK.out.grow hb;refine .inr ⟨⟨HF.out,xN.out⟩,l,Nd M0 at_ wv k,je R at_ wv k,by rw [(RT.out k).1,(RT.out k).2], ?_⟩
     exact ⟨hg.below,hg.lay,hg.mem,hg.ref,hg.Lg,hg.lo,by rw [X2.out.2.1,oZ.out.2.1,<-HM.out.1];exact HNL.out,by rw [X2.out.2.2.2.2,oZ.out.2.2.1];omega,by rw [Yt M0 at_ wv oZ.out.2.2.2.1 k,X2.out.2.1],M0,R,rfl,rfl,HZ.out.1,HZ.out.2.1,HZ.out.2.2.1,HZ.out.2.2.2.1,HZ.out.2.2.2.2.1,HZ.out.2.2.2.2.2.1,HZ.out.2.2.2.2.2.2,oZ.out.2.2.2.2.2,oZ.out.2.2.2.2.1⟩
    generalize (Nd M0 at_ wv k).d=dv at*
    unfold Uz at HSE;clear HK OY HRS HML HLK HPU X2 HCK Lae Ab hk
    go_wp2_with (first|(go_at_call 48;refine HDV.out.mono ?_;rintro e w' ⟨rfl,rfl⟩)|(go_at_call 49;refine HSE.out.mono ?_;rintro e wz ⟨sg,sc,rfl,hb,-,-⟩;have HZ:=Lib.hid (jN.out _ hb);clear hb))
    (try simp only [Exit.inBlock,Exit.then])
    refine bodyPost_ret (jA rfl _ _ _) rfl ?_
    exact HZ.out
end Go.Proofs.YtfnkmolffhfpoaaGreat
