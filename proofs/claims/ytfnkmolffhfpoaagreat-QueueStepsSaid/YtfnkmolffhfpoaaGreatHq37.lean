/- -/
import Derived.WalkKit
import Derived.ProofKit
import Derived.OpenShut
import Derived.Deep.Slices
import Derived.Lib.Hide
import Derived.Test.YtfnkmolffhfpoaaGreatHq16
import Derived.Lib.SmallJoins
import Derived.Test.YtfnkmolffhfpoaaGreatHq36
import Derived.Test.YtfnkmolffhfpoaaGreatHq31
import Derived.Test.YtfnkmolffhfpoaaGreatHq22
import Derived.Test.YtfnkmolffhfpoaaGreatHq24
set_option linter.unusedVariables false
set_option linter.unusedSimpArgs false
namespace Go.Proofs.YtfnkmolffhfpoaaGreat
open Go.RowKit Go.ChangeShapes Go.WideShapes Go.Deep
def Kd(P:Program):Nat->TypeId->Nat->Option (Option IntKind)
 |0,_,_=>none
 |d+1,t,j=>
  match P.underlying t with
  |some (.int k)=>if j=0 then some (some k)else none
  |some .bool=>if j=0 then some none else none
  |some (.struct fs)=>
   match fs.toList.find? fun f=>decide (f.offset<=j)&&decide (j<f.offset+P.cellsOf f.type)with
   |some f=>Kd P d f.type (j -f.offset)
   |none=>none
  |some (.array n e)=>if 0<P.cellsOf e/\j<n*P.cellsOf e then Kd P d e (j %P.cellsOf e)else none
  |_=>none
def wI(k:Option IntKind)(v:Value):Prop:=
 match k with
 |some k=>∃n,v= .int k n/\(Lit.int k n).wf=true
 |none=>∃b,v= .bool b
section
variable{H:Type}{enc:TypeId×Value->H}{P:Program}{w:World}{base:Nat}{spare:Nat->Bool}{held:Bool}
theorem Ie:∀(d:Nat) (t:TypeId) (j:Nat) (k:Option IntKind) (fuel:Nat) (cs:List Value) (x:DataW H×List MemPlace),
  DataW.trod enc P w base spare held fuel t cs=some x->Kd P d t j=some k->∃v,cs[j]?=some v/\wI k v
 |0,_,_,_,_,_,_,_,hk=>by simp [Kd]at hk
 |d+1,t,j,k,fuel,cs,x,h,hk=>by
  unfold Kd at hk
  split at hk
  . rename_i q hu
    split at hk
    . rename_i hj;simp only [Option.some.injEq]at hk;subst hk hj;obtain ⟨n,rfl,-,hw⟩:=DataW.trod_int hu h;exact ⟨_,rfl,n,rfl,hw⟩
    . cases hk
  . rename_i hu
    split at hk
    . rename_i hj;simp only [Option.some.injEq]at hk;subst hk hj;obtain ⟨b,rfl,-⟩:=DataW.trod_bool hu h;exact ⟨_,rfl,b,rfl⟩
    . cases hk
  . rename_i fs hu
    split at hk
    . rename_i f hf;obtain ⟨xs,n,-,-,hlen,xy,Iaa⟩:=DataW.trod_struct hu h;have JM:=List.mem_of_find?_eq_some hf;have tal:=List.find?_some hf;simp only [Bool.and_eq_true,decide_eq_true_eq]at tal;obtain ⟨i,hi,rfl⟩:=List.mem_iff_getElem.1 JM
      have hfi:fs[i]?=some (fs.toList[i]):=by
       rw [<-Array.getElem?_toList];exact List.getElem?_eq_getElem hi
      have h1:=Iaa i _ hfi;have hix:i<xs.length:=by rw [xy];simpa using hi
      rw [List.getElem?_eq_getElem hix]at h1;obtain ⟨v,hv,hl⟩:=Ie d _ _ k n _ _ h1 hk;refine ⟨v, ?_,hl⟩;rw [List.getElem?_take]at hv
      split at hv
      . rw [List.getElem?_drop]at hv;rw [<-hv];congr 1;omega
      . cases hv
    . cases hk
  . rename_i n e hu
    split at hk
    . rename_i hc;obtain ⟨xs,m,-,-,hlen,xy,hel⟩:=DataW.trod_array hu h;have hi:j/P.cellsOf e<n:=Nat.div_lt_of_lt_mul (by rw [Nat.mul_comm];exact hc.2);have h1:=hel _ hi;rw [List.getElem?_eq_getElem (by omega)]at h1;obtain ⟨v,hv,hl⟩:=Ie d _ _ k m _ _ h1 hk;refine ⟨v, ?_,hl⟩;rw [List.getElem?_take]at hv
      split at hv
      . rw [List.getElem?_drop]at hv;rw [<-hv];congr 1;have:=Nat.div_add_mod j (P.cellsOf e);rw [Nat.mul_comm]at this;omega
      . cases hv
    . cases hk
  . cases hk
theorem Xk{t e:TypeId}{fuel:Nat}{cs:List Value}{x:DataW H×List MemPlace}(ht:P.underlying t=some (.slice e))(mU:0<P.cellsOf e)
  (hk0:∃d k,Kd P d e 0=some k)(h:DataW.trod enc P w base spare held fuel t cs=some x)(a:Option Addr)(len cap:Nat)(Ev:cs=[.slice a len cap]):
  len<=cap/\cap<=maxLen/\(len=0\/∃b off,a=some ⟨b,off,none⟩/\b<w.heap.size/\∀i,i<len->∀d j k,j<P.cellsOf e->Kd P d e j=some k->∃v,w.cell? ⟨b,off+i*P.cellsOf e+j,none⟩=some v/\wI k v):=by
 rcases open_slice ht h with⟨rfl,-⟩|⟨ad,CW,IM,m,n,D,Pl,rfl,hb,hl,hm,vO,hx,hi⟩
 . simp only [List.cons.injEq,Value.slice.injEq,and_true]at Ev;obtain ⟨rfl,rfl,rfl⟩:=Ev;exact ⟨Nat.le_refl _,Nat.zero_le _, .inl rfl⟩
 . simp only [List.cons.injEq,Value.slice.injEq,and_true]at Ev;obtain ⟨rfl,rfl,rfl⟩:=Ev;refine ⟨hl,hm, ?_⟩;by_cases h0:CW=0
   . exact .inl h0
   refine .inr ?_
   have hlm:CW<=m:=by rw [vO];split<;>omega
   have get:∀i,i<CW->∀d j k,j<P.cellsOf e->Kd P d e j=some k->∃v,w.cell? ((ad.add (i*P.cellsOf e)).add j)=some v/\wI k v:=by
    intro i mO d j k hj hk;obtain ⟨SD,hc,dm⟩:=hi i (by omega);obtain ⟨_,Aq,JB⟩:=World.cells?_some hc;obtain ⟨v,hv,hlf⟩:=Ie d e j k n SD _ dm hk;exact ⟨v,by rw [JB j hj];exact hv,hlf⟩
   obtain ⟨b,off,spot⟩:=ad;obtain ⟨d,k,hk0⟩:=hk0;obtain ⟨v0,YO,-⟩:=get 0 (by omega) d 0 k mU hk0;have ual:spot=none:=by
    have:=World.cell?_spot YO
    simpa [Addr.add]using this
   subst ual;have Fay:w.cell? ⟨b,off,none⟩=some v0:=by
    have:=YO;rw [Addr.add_lit,Addr.add_lit]at this
    simpa using this
   refine ⟨b,off,rfl,World.block_lt_of_cell? w _ Fay,fun i mO d j k hj hk=> ?_⟩;have:=get i mO d j k hj hk;rwa [Addr.add_lit,Addr.add_lit]at this
end
theorem yK:Tryz.prog.cellsOf 110=2:=by kernel_rfl
theorem NF:Kd Tryz.prog 3 110 0=some (some .i64):=by kernel_rfl
theorem ER:Kd Tryz.prog 3 110 1=some (some .u64):=by kernel_rfl
theorem FR:Kd Tryz.prog 4 26 0=some (some .i64):=by kernel_rfl
theorem GR:Kd Tryz.prog 4 26 1=some (some .i64):=by kernel_rfl
theorem JR:Kd Tryz.prog 4 26 2=some (some .i64):=by kernel_rfl
theorem KR:Kd Tryz.prog 4 26 3=some (some .i64):=by kernel_rfl
def vk(W:World)(a:Option Addr)(len:Nat)(at_ wv:Nat->Int):Prop:=
 ∀i,i<len->∃b off,a=some ⟨b,off,none⟩/\b<W.heap.size/\W.cell? ⟨b,off+i*2,none⟩=some (.int .i64 (at_ i))/\W.cell? ⟨b,off+i*2+1,none⟩=some (.int .u64 (wv i))/\
  (-9223372036854775808<=at_ i/\at_ i<=9223372036854775807)/\0<=wv i/\wv i<18446744073709551616
theorem vk.below{W W':World}{a:Option Addr}{len:Nat}{at_ wv:Nat->Int}(h:vk W a len at_ wv)(hb:Below W.heap.size W W'):vk W' a len at_ wv:=fun i hi=>by
 obtain ⟨b,off,e,hl,h1,h2,h3⟩:=h i hi;exact ⟨b,off,e,Nat.lt_of_lt_of_le hl hb.size,(World.cell?_of_block (hb.block b hl)).trans h1,(World.cell?_of_block (hb.block b hl)).trans h2,h3⟩
theorem KC{H:Type}{enc:TypeId×Value->H}{w:World}{base:Nat}{spare:Nat->Bool}{held:Bool}{fuel:Nat}{a:Option Addr}{len cap:Nat}{x:DataW H×List MemPlace}
  (h:DataW.trod enc Tryz.prog w base spare held fuel 24 [.slice a len cap]=some x):len<=cap/\cap<=maxLen/\∃at_ wv,vk w a len at_ wv:=by
 obtain ⟨h1,h2,h3⟩:=Xk (P:=Tryz.prog) Tryz.underlying24 (by rw [yK];decide) ⟨3,_,NF⟩ h a len cap rfl;refine ⟨h1,h2, ?_⟩;rcases h3 with rfl|⟨b,off,rfl,hb,hc⟩
 . exact ⟨fun _=>0,fun _=>0,fun i hi=>by omega⟩
 . rw [yK]at hc;have each:∀i,∃c:Int×Int,i<len->w.cell? ⟨b,off+i*2,none⟩=some (.int .i64 c.1)/\w.cell? ⟨b,off+i*2+1,none⟩=some (.int .u64 c.2)/\(-9223372036854775808<=c.1/\c.1<=9223372036854775807)/\0<=c.2/\c.2<18446744073709551616:=by
    intro i;by_cases hi:i<len
    . obtain ⟨_,c0,n0,rfl,f0⟩:=hc i hi 3 0 _ (by decide) NF;obtain ⟨_,c1,n1,rfl,f1⟩:=hc i hi 3 1 _ (by decide) ER;refine ⟨(n0,n1),fun _=>⟨c0,c1, ?_⟩⟩;simp [Lit.wf,IntKind.min,IntKind.max,IntKind.signed,IntKind.bits]at f0 f1;simp only;omega
    . exact ⟨(0,0),fun h=>absurd h hi⟩
   exact ⟨fun i=>(Classical.choose (each i)).1,fun i=>(Classical.choose (each i)).2,fun i hi=>⟨b,off,rfl,hb,Classical.choose_spec (each i) hi⟩⟩
set_option maxRecDepth 100000 in
theorem OF{H:Type}{enc:TypeId×Value->H}{w:World}{r:Reach}{b0 base:Nat}{spare:Nat->Bool}{held:Bool}{v:Value}{d:DataW H}{p:List MemPlace}
  (hv:Value.okWide Tryz.prog w r b0 26 v)(h:DataW.Trod enc Tryz.prog w base spare held 26 v d p):
  ∃(th sl Xa bu:Int) (a:Option Addr) (len cap:Nat) (at_ wv:Nat->Int),v= .agg #[.int .i64 th, .int .i64 sl, .int .i64 Xa, .int .i64 bu, .slice a len cap]/\len<=cap/\cap<=maxLen/\vk w a len at_ wv:=by
 obtain ⟨cs,rfl,Vh⟩:=okWide_struct Tryz.underlying26 hv;obtain ⟨fuel,hf⟩:=h;obtain ⟨y0,y1,n,-,-,-,h1⟩:=trod_struct2 Tryz.underlying26 hf;have hc:Tryz.prog.cellsOf 26=5:=by kernel_rfl
 rw [hc]at Vh;obtain ⟨_,g0,n0,rfl,-⟩:=Ie 4 26 0 _ fuel _ _ hf FR;obtain ⟨_,g1,n1,rfl,-⟩:=Ie 4 26 1 _ fuel _ _ hf GR;obtain ⟨_,g2,n2,rfl,-⟩:=Ie 4 26 2 _ fuel _ _ hf JR;obtain ⟨_,g3,n3,rfl,-⟩:=Ie 4 26 3 _ fuel _ _ hf KR;have Gay:Tryz.prog.cellsOf 24=1:=by kernel_rfl
 simp only [Value.cells]at g0 g1 g2 g3 h1;obtain ⟨l⟩:=cs
 match l,Vh with
 |[c0,c1,c2,c3,c4],_=>
  simp at g0 g1 g2 g3;subst g0 g1 g2 g3;have h1':DataW.trod enc Tryz.prog w base spare held n 24 [c4]=some y1:=by
   rw [Gay]at h1;exact h1
  have hs:∃a len cap,c4= .slice a len cap:=by
   rcases open_slice Tryz.underlying24 h1' with⟨e,-⟩|⟨ad,CW,IM,m,n,D,Pl,e,-⟩
   . cases e;exact ⟨_,_,_,rfl⟩
   . cases e;exact ⟨_,_,_,rfl⟩
  obtain ⟨a,len,cap,rfl⟩:=hs;obtain ⟨e1,e2,at_,wv,e3⟩:=KC h1';exact ⟨n0,n1,n2,n3,a,len,cap,at_,wv,rfl,e1,e2,e3⟩
end Go.Proofs.YtfnkmolffhfpoaaGreat
namespace Go.Proofs.YtfnkmolffhfpoaaGreat
open Go.RowKit Go.BigFrame
def Xd(M:Mv)(at_ wv:Nat->Int):Nat->Mv
 |0=>M
 |k+1=>(Xd M at_ wv k).store 0 (at_ k) (wv k)
def ze(R:Rv)(at_ wv:Nat->Int):Nat->Rv
 |0=>R
 |k+1=>(ze R at_ wv k).store 0 (at_ k) (wv k)
def DW(N:Nat)(f:Nat->Int)(a w:Int):Nat->Int:=if 0<=a/\a<(N:Int)then Mc f a.toNat w else f
def xI(N:Nat)(at_ wv:Nat->Int):Nat->Nat->Int
 |0=>fun _=>0
 |k+1=>DW N (xI N at_ wv k) (at_ k) (wv k)
theorem xA(M:Mv)(t a w:Int):(M.store t a w).own=M.own/\(M.store t a w).n=M.n/\(M.store t a w).m=M.m/\(M.store t a w).d=M.d/\(M.store t a w).ck=M.ck+1/\(M.store t a w).seen=DW (8*M.n) M.seen a w:=by
 refine ⟨Mv.bj _ _ _ _, ?_, ?_, ?_, ?_, ?_⟩
 . show(if((M.La a).2&&true)=true then M.put a w else M).n=M.n
   split
   . unfold Mv.put;split<;>rfl
   . rfl
 . show(if((M.La a).2&&true)=true then M.put a w else M).m=M.m
   split
   . exact Mv.AX _ _ _
   . rfl
 . show(if((M.La a).2&&true)=true then M.put a w else M).d=M.d
   split
   . exact Mv.zai _ _ _
   . rfl
 . show(if((M.La a).2&&true)=true then M.put a w else M).ck+1=M.ck+1
   split
   . rw [Mv.Fw]
   . rfl
 . show(if((M.La a).2&&true)=true then M.put a w else M).seen=DW (8*M.n) M.seen a w
   unfold DW;by_cases h0:0<=a
   . by_cases h1:a/8<(M.n:Int)
     . have hp:((M.La a).2&&true)=true:=by unfold Mv.La te;rw [if_pos h0,if_pos h1];rfl
       rw [if_pos hp,if_pos (show 0<=a/\a<((8*M.n:Nat):Int)from⟨h0,by omega⟩)];unfold Mv.put;rw [if_pos h0]
     . have hp:¬((M.La a).2&&true)=true:=by unfold Mv.La te;rw [if_pos h0,if_neg h1];decide
       rw [if_neg hp,if_neg (show¬(0<=a/\a<((8*M.n:Nat):Int))by omega)]
   . rw [if_neg (show¬(0<=a/\a<((8*M.n:Nat):Int))by omega)]
     split
     . unfold Mv.put;rw [if_neg h0]
     . rfl
theorem jh(M:Mv)(at_ wv:Nat->Int):∀k,(Xd M at_ wv k).own=M.own/\(Xd M at_ wv k).n=M.n/\(Xd M at_ wv k).m=M.m/\(Xd M at_ wv k).d=M.d/\(Xd M at_ wv k).ck=M.ck+k
 |0=>⟨rfl,rfl,rfl,rfl,by show M.ck=M.ck+0;omega⟩
 |k+1=>by
  obtain ⟨h1,h2,h3,h4,h5⟩:=jh M at_ wv k;obtain ⟨s1,s2,s3,s4,s5,-⟩:=xA (Xd M at_ wv k) 0 (at_ k) (wv k);exact ⟨s1.trans h1,s2.trans h2,s3.trans h3,s4.trans h4,by show((Xd M at_ wv k).store 0 (at_ k) (wv k)).ck=_;rw [s5,h5];omega⟩
theorem Kx(M:Mv)(at_ wv:Nat->Int)(h0:M.seen=fun _=>0):∀k,(Xd M at_ wv k).seen=xI (8*M.n) at_ wv k
 |0=>h0
 |k+1=>by
  have h:=(xA (Xd M at_ wv k) 0 (at_ k) (wv k)).2.2.2.2.2
  rw [Kx M at_ wv h0 k,(jh M at_ wv k).2.1]at h;exact h
theorem PF(R:Rv)(t a w:Int):R.store t a w=R.JE ⟨2,t,a,0,w,false⟩:=rfl
theorem Yk(R:Rv)(at_ wv:Nat->Int):∀k:Nat,(ze R at_ wv k).own=R.own/\(ze R at_ wv k).m=R.m/\(ze R at_ wv k).wm<=R.wm+k/\(ze R at_ wv k).ck<=R.ck+k
 |0=>⟨rfl,rfl,by show R.wm<=R.wm+0;omega,by show R.ck<=R.ck+0;omega⟩
 |k+1=>by
  obtain ⟨h1,h2,h3,h4⟩:=Yk R at_ wv k;obtain ⟨s1,s2,s3,s4⟩:=CN (ze R at_ wv k) ⟨2,0,at_ k,0,wv k,false⟩;rw [<-PF]at s1 s2 s3 s4;exact ⟨s1.trans h1,s2.trans h2,by show((ze R at_ wv k).store 0 (at_ k) (wv k)).wm<=_;omega,by show((ze R at_ wv k).store 0 (at_ k) (wv k)).ck<=_;omega⟩
theorem yA{M:Mv}{R:Rv}(h:Alike M R)(at_ wv:Nat->Int):∀k,Alike (Xd M at_ wv k) (ze R at_ wv k)
 |0=>h
 |k+1=>(yA h at_ wv k).Me _ _ _
def nwN(th sl Xa bu:Nat):Nat:=Sd (40+bu)+8*th+Sd Xa*th+8*sl
theorem Lx(th sl Xa bu:Nat):nwN th sl Xa bu=8*(5+(bu+7)/8+th+th*((Xa+7)/8)+sl):=by
 unfold nwN Sd;have e:(Xa+7)/8*8*th=8*(th*((Xa+7)/8)):=by
  rw [Nat.mul_comm ((Xa+7)/8) 8,Nat.mul_assoc,Nat.mul_comm ((Xa+7)/8) th]
 rw [e];generalize th*((Xa+7)/8)=x;omega
theorem wal(th sl Xa bu:Nat):((nwN th sl Xa bu:Nat):Int)=(⟨th,sl,Xa,bu⟩:Nc).lv.ln*8:=by
 rw [Lx]
 show _=(5+xb (bu:Int)+(th:Int)+(th:Int)*xb (Xa:Int)+(sl:Int))*8
 have e1:xb (bu:Int)=(((bu+7)/8:Nat):Int):=by unfold xb;omega
 have e2:xb (Xa:Int)=(((Xa+7)/8:Nat):Int):=by unfold xb;omega
 rw [e1,e2,<-Int.natCast_mul];generalize th*((Xa+7)/8)=x;generalize (bu+7)/8=y;omega
theorem xal(th sl Xa bu:Nat)(h1:th<=6)(h2:sl<=30)(h3:Xa<=8)(h4:bu<=8):nwN th sl Xa bu<=400:=by
 rw [Lx];have:th*((Xa+7)/8)<=6*1:=Nat.mul_le_mul h1 (by omega);omega
structure Yy(W0:World)(G:Array Value)(c:Nc)(M:Mv)(R:Rv)(l:Nat)(wr:World):Prop where
 below:Below W0.heap.size W0 wr
 box:wr.heap[W0.heap.size]?=some (.cells G 26 (0,0))
 lay:Kc wr l c.lv
 mem:za wr M
 ref:ua wr R
 ud:Alike M R
 lo:W0.heap.size+1<=l/\(∀k,M.own k->W0.heap.size+1<=k/\k≠l/\¬R.own k)/\∀k,R.own k->W0.heap.size+1<=k/\k≠l
theorem Yy.grow{W0:World}{G:Array Value}{c:Nc}{M:Mv}{R:Rv}{l:Nat}{wr w':World}(h:Yy W0 G c M R l wr)(hb:Below wr.heap.size wr w'):Yy W0 G c M R l w':=
 ⟨h.below.trans (hb.mono h.below.size),(hb.block _ (Db h.box)).trans h.box,h.lay.keep (hb.block _ h.lay.lt),h.mem.below hb,h.ref.below hb,h.ud,h.lo⟩
theorem Yy.yI{W0:World}{G:Array Value}{c:Nc}{M M':Mv}{R:Rv}{l:Nat}{wr w':World}(h:Yy W0 G c M R l wr)(hm:za w' M')(ht:Ba M.own wr w')(ho:M'.own=M.own):Below W0.heap.size W0 w'/\w'.heap[W0.heap.size]?=some (.cells G 26 (0,0))/\Kc w' l c.lv/\ua w' R:=by
 have hs:=h.below.size;refine ⟨h.below.trans (ht.below hs fun k hk ho=>by have:=(h.lo.2.1 k ho).1;omega), ?_, ?_, ?_⟩
 . exact (ht.block _ (Db h.box) fun ho=>by have:=(h.lo.2.1 _ ho).1;omega).trans h.box
 . exact h.lay.keep (ht.block _ h.lay.lt fun ho=>(h.lo.2.1 _ ho).2.1 rfl)
 . exact h.ref.v8 ht fun k hr ho=>(h.lo.2.1 k ho).2.2 hr
theorem Yy.both{W0:World}{G:Array Value}{c:Nc}{M M':Mv}{R R':Rv}{l:Nat}{wr w1 w2:World}(h:Yy W0 G c M R l wr)(hm:za w1 M')(ht:Ba M.own wr w1)(ho:M'.own=M.own){w1':World}(hb:Below w1.heap.size w1 w1')(hr:ua w2 R')(pU:Ba R.own w1' w2)(ho2:R'.own=R.own)(hl:Alike M' R'):Yy W0 G c M' R' l w2:=by
 obtain ⟨b1,b2,b3,b4⟩:=h.yI hm ht ho;have fW:=hm.below hb;have b1':=b1.trans (hb.mono b1.size);have b2':=(hb.block _ (Db b2)).trans b2
 have b3':=b3.keep (hb.block _ b3.lt);refine ⟨b1'.trans (pU.below b1'.size fun k hk ho=>by have:=(h.lo.2.2 k ho).1;omega), ?_, ?_, ?_,hr,hl, ?_⟩
 . exact (pU.block _ (Db b2') fun ho=>by have:=(h.lo.2.2 _ ho).1;omega).trans b2'
 . exact b3'.keep (pU.block _ b3'.lt fun ho=>(h.lo.2.2 _ ho).2 rfl)
 . exact fW.v8 pU fun k hk hr=>(h.lo.2.1 k (by rw [<-ho];exact hk)).2.2 hr
 . rw [ho,ho2];exact h.lo
structure Laid(c:Nc)(at_ wv:Nat->Int)(len:Nat)(W W':World)(l:Nat)(M:Mv)(R:Rv):Prop where
 below:Below W.heap.size W W'
 lay:Kc W' l c.lv
 mem:za W' M
 ref:ua W' R
 ud:Alike M R
 lo:W.heap.size+1<=l/\(∀k,M.own k->W.heap.size+1<=k/\k≠l/\¬R.own k)/\∀k,R.own k->W.heap.size+1<=k/\k≠l
 n:((8*M.n:Nat):Int)=c.lv.ln*8
 ck:M.ck=len
 seen:M.seen=xI (8*M.n) at_ wv len
 Dh:∃(M0:Mv) (R0:Rv),M=Xd M0 at_ wv len/\R=ze R0 at_ wv len/\M0.wr=(fun _=>0)/\M0.wm=0/\0<M0.np/\R0.seen=(fun _=>0)/\R0.kept=(fun _=>0)/\R0.pass=(fun _=>0)/\R0.wr=(fun _=>0)/\R0.wm=0/\R0.ck=0
def zK(c:Nc)(at_ wv:Nat->Int)(len:Nat)(W:World)(e:Ending)(W':World):Prop:=
 (¬(c.Ho/\len<=100)/\e= .returned (.tuple #[.pointer none, .pointer none, .pointer none, .bool false])/\Below W.heap.size W W')\/
 ((c.Ho/\len<=100)/\∃l M R,e= .returned (.tuple #[.pointer (some ⟨l,0,none⟩), .pointer (some ⟨M.m,0,none⟩), .pointer (some ⟨R.m,0,none⟩), .bool true])/\Laid c at_ wv len W W' l M R)
theorem QF(M:Mv)(W:World)(h:za W M):Calls Tryz.prog 48 #[.pointer (some ⟨M.m,0,none⟩)] W (Cc (.pointer (some ⟨M.d,0,none⟩)) W):=by
 have q0:=ja h.row 0 _ rfl;clear h
 go_enter Tryz.func48,Tryz.ntmps48
 go_wp2_with fail
 go_ret
 exact ⟨rfl,rfl⟩
def wk(c:Nc)(a:Option Addr)(len cap:Nat):Array Value:=#[.int .i64 c.th, .int .i64 c.sl, .int .i64 c.lo, .int .i64 c.bu, .slice a len cap]
theorem Xl{fn:Func}{t u v x:Tmp}(h:fn.results=#[.tmp t, .tmp u, .tmp v, .tmp x])(tmps:Array Value)(P:Program)(w:World):
  (results fn tmps).run P w= .ok (.tuple #[tmps.getD t undef,tmps.getD u undef,tmps.getD v undef,tmps.getD x undef]) w:=by
 simp [results,h]
set_option maxRecDepth 100000 in
theorem EW(c:Nc)(a:Option Addr)(len cap:Nat)(hl:len<=9223372036854775807)(at_ wv:Nat->Int)(W:World)(Ch:¬(c.Ho/\len<=100)):Calls Tryz.prog 6 #[.agg (wk c a len cap)] W (zK c at_ wv len W):=by
 have NR:=Lib.hid fun w=>CX c w
 have WJ:=Lib.hid Ch;have yF:Hid (∀w',Below W.heap.size W w'->zK c at_ wv len W (.returned (.tuple #[.pointer none, .pointer none, .pointer none, .bool false])) w'):=Lib.hid fun w' hb=> .inl ⟨WJ.out,rfl,hb⟩
 have Ih:Hid (c.Ho->100<len):=Lib.hid fun h=>by
  have:=WJ.out;exact Nat.lt_of_not_le fun h2=>this ⟨h,h2⟩
 obtain ⟨th,sl,Xa,bu⟩:=c;unfold wk;simp only;obtain ⟨W1,Ni⟩:∃W1,W1=(W.alloc (.cells #[.int .i64 th, .int .i64 sl, .int .i64 Xa, .int .i64 bu, .slice a len cap] 26)).alloc (.cells #[.int .i64 th, .int .i64 sl, .int .i64 Xa, .int .i64 bu] 23):=⟨_,rfl⟩
 have VJ:=Lib.hid Ni;have cj:Hid (Below W.heap.size W W1):=Lib.hid (by rw [Ni];exact ((Below.refl _ _).alloc (Nat.le_refl _) _).alloc (by simp) _);have BU:Hid (W1.heap[W.heap.size]?=some (.cells #[.int .i64 th, .int .i64 sl, .int .i64 Xa, .int .i64 bu, .slice a len cap] 26 (0,0))):=Lib.hid (by rw [Ni,Below.heap_alloc _ _ _ (by simp)];exact heap_alloc_new _ _);have E9:Hid (W1.heap[W.heap.size+1]?=some (.cells #[.int .i64 th, .int .i64 sl, .int .i64 Xa, .int .i64 bu] 23 (0,0))):=Lib.hid (by
  have:=heap_alloc_new (W.alloc (.cells #[.int .i64 th, .int .i64 sl, .int .i64 Xa, .int .i64 bu, .slice a len cap] 26)) (.cells #[.int .i64 th, .int .i64 sl, .int .i64 Xa, .int .i64 bu] 23);rw [World.size_alloc]at this;rw [Ni];exact this)
 clear Ni;by_cases hf:(⟨th,sl,Xa,bu⟩:Nc).Ho
 . have yal:=Ih.out hf;rw [ea hf]at NR;have d1:decide (100<(len:Int))=true:=ea (by omega);have d2:decide (100<len)=true:=ea yal;unfold Nc.cells at NR;clear Ch WJ Ih hf yal
   go_enter Tryz.func6,Tryz.ntmps6
   go_wp2_with (go_at_call 22;refine (NR.out _).mono ?_;rintro e w2 ⟨rfl,hb⟩;rw [<-VJ.out]at hb;have H2:=Lib.hid (cj.out.trans (hb.mono cj.out.size));have q4:w2.cell? ⟨W.heap.size,4,none⟩=some (.slice a len cap):=ja ((hb.block _ (Db BU.out)).trans BU.out) 4 _ rfl;clear hb)
   (try simp only [Exit.inBlock,Exit.then])
   refine bodyPost_ret (Xl rfl _ _ _) rfl ?_
   exact yF.out _ H2.out
 . rw [ta hf]at NR;unfold Nc.cells at NR;clear Ch WJ Ih hf
   go_enter Tryz.func6,Tryz.ntmps6
   go_wp2_with (go_at_call 22;refine (NR.out _).mono ?_;rintro e w2 ⟨rfl,hb⟩;rw [<-VJ.out]at hb;have H2:=Lib.hid (cj.out.trans (hb.mono cj.out.size));have q4:w2.cell? ⟨W.heap.size,4,none⟩=some (.slice a len cap):=ja ((hb.block _ (Db BU.out)).trans BU.out) 4 _ rfl;clear hb)
   (try simp only [Exit.inBlock,Exit.then])
   refine bodyPost_ret (Xl rfl _ _ _) rfl ?_
   exact yF.out _ H2.out
set_option maxRecDepth 100000 in
set_option maxHeartbeats 4000000 in
theorem RF(th sl Xa bu:Nat)(hf:(⟨th,sl,Xa,bu⟩:Nc).Ho)(a:Option Addr)(len cap:Nat)(hl:len<=100)(at_ wv:Nat->Int)(W:World)(hP:vk W a len at_ wv):Calls Tryz.prog 6 #[.agg (wk ⟨th,sl,Xa,bu⟩ a len cap)] W (zK ⟨th,sl,Xa,bu⟩ at_ wv len W):=by
 have NR:=Lib.hid fun w=>CX ⟨th,sl,Xa,bu⟩ w
 rw [ea hf]at NR;have HF:=Lib.hid hf;obtain ⟨⟨f1,f2,f3,f4,f5,f6,f7,f8⟩,f9,f10,f11,f12⟩:=hf;simp only at f1 f2 f3 f4 f5 f6 f7 f8 f9 f10 f11 f12;have HOF:=Lib.hid fun w=>Xaw ⟨th,sl,Xa,bu⟩ HF.out.1 w
 have D9:=Lib.hid fun w=>Wz th sl Xa bu (by omega) (by omega) (by omega) (by omega) w
 have HPA:=Lib.hid fun w=>Vz th sl Xa bu (by omega) (by omega) w
 have HNL:Hid (((nwN th sl Xa bu:Nat):Int)=(⟨th,sl,Xa,bu⟩:Nc).lv.ln*8):=Lib.hid (wal th sl Xa bu);have C7:=Lx th sl Xa bu;have nO:=xal th sl Xa bu (by omega) (by omega) (by omega) (by omega);obtain ⟨m,hm⟩:∃m,m=5+(bu+7)/8+th+th*((Xa+7)/8)+sl:=⟨_,rfl⟩;rw [<-hm]at C7;have m0:5<=m:=by omega
 change Hid (∀w,Calls Tryz.prog 41 _ w (iC (nwN th sl Xa bu) _ w))at D9;obtain ⟨nw,hnw⟩:∃nw,nw=nwN th sl Xa bu:=⟨_,rfl⟩;rw [<-hnw]at D9 HNL C7 nO;obtain ⟨np,aq⟩:∃np,np=2+th+sl:=⟨_,rfl⟩;rw [<-aq]at HPA;have HNP:Hid (0<np):=Lib.hid (by omega);have HM:Hid (nw=8*m/\nw<=400/\5<=m/\np<=100/\1<=th/\th<=64):=Lib.hid ⟨C7,nO,m0,by omega,by omega,by omega⟩;have Kaa:zh nw (th:Int)=0:=by
  unfold zh;have hw:Ig nw=0:=by unfold Ig;rw [if_neg (by omega),if_neg (by omega)]
  rw [if_neg (by omega),if_neg (by rw [hw];decide),if_neg (by omega)]
 have HOP:Hid (∀(w:World) (b:Nat),w.heap[b]?=some (.cells (madeCells #[.int .u64 0] nw) 43 (0,0))->Calls Tryz.prog 43 #[.slice (some ⟨b,0,none⟩) nw nw, .int .i64 (th:Int)] w fun e w'=>Below w.heap.size w w'/\∃d kb sb wb fb c0 c1,e= .returned (.tuple #[.pointer (some ⟨d,0,none⟩), .int .i64 0])/\vF w' w.heap.size d kb sb wb fb m th c0 c1 (fun _=>0)):=Lib.hid fun w b hw=>by
  have h:=mI (some ⟨b,0,none⟩) b 0 nw nw (fun _=>rfl) (Nat.le_refl _) (by omega) (th:Int) (fun _=>0) w Kaa (Db hw) (fun j hj=>by rw [Nat.zero_add,Oa hw];exact Jg _ _ _ hj);refine h.mono fun e w' hh=> ?_
  obtain ⟨hb,⟨h1,-⟩|⟨-,d,kb,sb,wb,fb,c0,c1,he,hd⟩⟩:=hh
  . exact absurd Kaa h1
  . rw [show nw/8=m by omega,Int.toNat_natCast]at hd;exact ⟨hb,d,kb,sb,wb,fb,c0,c1,he,hd⟩
 have HNW:=Lib.hid fun d w=>vN d np (by have:=HM.out;omega) w
 have HMS:Hid (∀d kb sb wb fb c0 c1 mm pb (w6 w7 w8:World),vF w7 w6.heap.size d kb sb wb fb m th c0 c1 (fun _=>0)->Below w7.heap.size w7 w8->w7.heap.size<=mm->w7.heap.size<=pb->mm≠pb->pk w8 mm (.pointer (some ⟨d,0,none⟩)) (.slice (some ⟨pb,0,none⟩) np np) 0 0 ⟨0,0,0,0,0,false⟩->Za w8 pb np (fun _=> .int .u64 0)->
   za w8 (Mv.start mm d kb sb wb fb pb m th np c0 c1 fun _=>0)/\∀k,(Mv.start mm d kb sb wb fb pb m th np c0 c1 fun _=>0).own k->w6.heap.size<=k\/w7.heap.size<=k):=Lib.hid fun d kb sb wb fb c0 c1 mm pb w6 w7 w8 hd hb h1 h2 h3 h4 h5=>
  wN hd hb h1 h2 h3 h4 h5 (by have:=HM.out;omega) (by have:=HM.out;omega) HM.out.2.2.2.2.2 (by have:=HM.out;omega)
 have HRN:Hid (∀(w:World) (b:Nat),w.heap[b]?=some (.cells (madeCells #[.int .u64 0] nw) 43 (0,0))->Calls Tryz.prog 45 #[.slice (some ⟨b,0,none⟩) nw nw, .int .i64 (th:Int), .int .i64 (np:Int)] w (Haa (fun _=>0) m th np w)):=Lib.hid fun w b hw=>by
  have h:=BW b 0 m nw th np (by omega) (by omega) (by omega) (by omega) (by omega) (fun _=>0) w (Db hw) (fun j hj=>by rw [Nat.zero_add,Oa hw];exact Jg _ _ _ (by omega));rw [<-C7]at h;exact h
 have jU:=Tp 99 43 _ _ 8 Tryz.underlying99 oK rfl nw (by omega) (by omega);have HPU:=Lib.hid hP;have OR:=Lib.hid hl;unfold wk;simp only;obtain ⟨W1,Ni⟩:∃W1,W1=(W.alloc (.cells #[.int .i64 (th:Int), .int .i64 (sl:Int), .int .i64 (Xa:Int), .int .i64 (bu:Int), .slice a len cap] 26)).alloc (.cells #[.int .i64 (th:Int), .int .i64 (sl:Int), .int .i64 (Xa:Int), .int .i64 (bu:Int)] 23):=⟨_,rfl⟩
 have VJ:=Lib.hid Ni;have cj:Hid (Below W.heap.size W W1):=Lib.hid (by rw [Ni];exact ((Below.refl _ _).alloc (Nat.le_refl _) _).alloc (by simp) _);have BU:Hid (W1.heap[W.heap.size]?=some (.cells #[.int .i64 (th:Int), .int .i64 (sl:Int), .int .i64 (Xa:Int), .int .i64 (bu:Int), .slice a len cap] 26 (0,0))):=Lib.hid (by rw [Ni,Below.heap_alloc _ _ _ (by simp)];exact heap_alloc_new _ _);have E9:Hid (W1.heap[W.heap.size+1]?=some (.cells #[.int .i64 (th:Int), .int .i64 (sl:Int), .int .i64 (Xa:Int), .int .i64 (bu:Int)] 23 (0,0))):=Lib.hid (by
  have:=heap_alloc_new (W.alloc (.cells #[.int .i64 (th:Int), .int .i64 (sl:Int), .int .i64 (Xa:Int), .int .i64 (bu:Int), .slice a len cap] 26)) (.cells #[.int .i64 (th:Int), .int .i64 (sl:Int), .int .i64 (Xa:Int), .int .i64 (bu:Int)] 23);rw [World.size_alloc]at this;rw [Ni];exact this)
 clear Ni;have HQ:Hid (∀w,Below W1.heap.size W1 w->w.cell? ⟨W.heap.size+1,0,none⟩=some (.int .i64 (th:Int))/\w.cell? ⟨W.heap.size+1,1,none⟩=some (.int .i64 (sl:Int))/\w.cell? ⟨W.heap.size+1,2,none⟩=some (.int .i64 (Xa:Int))/\w.cell? ⟨W.heap.size+1,3,none⟩=some (.int .i64 (bu:Int))):=Lib.hid fun w hb=>by
  have h:=(hb.block _ (Db E9.out)).trans E9.out
  exact ⟨ja h 0 _ rfl,ja h 1 _ rfl,ja h 2 _ rfl,ja h 3 _ rfl⟩
 have d1:decide (100<(len:Int))=false:=ta (by omega);have d2:decide (100<len)=false:=ta (by omega);unfold Nc.cells at NR HOF;clear hP hl f1 f2 f3 f4 f5 f6 f7 f8 f9 f10 f11 f12 C7 nO hm m0 hnw aq Kaa
 go_enter Tryz.func6,Tryz.ntmps6
 go_wp2_with (first|(go_at_call 22;refine (NR.out _).mono ?_;rintro e w2 ⟨rfl,hb⟩;rw [<-VJ.out]at hb;have B2:=Lib.hid hb;have q4:w2.cell? ⟨W.heap.size,4,none⟩=some (.slice a len cap):=ja ((hb.block _ (Db BU.out)).trans BU.out) 4 _ rfl;obtain ⟨q0,q1,q2,q3⟩:=HQ.out _ B2.out;clear hb)|(go_at_call 40;refine (HOF.out _).mono ?_;rintro e w3 ⟨l,rfl,hb,hl,zal⟩;have B3:=Lib.hid (B2.out.trans (hb.mono B2.out.size));have L3:=Lib.hid (And.intro (Nat.le_trans B2.out.size hl) zal);clear q4;clear q0 q1 q2 q3;obtain ⟨q0,q1,q2,q3⟩:=HQ.out _ B3.out;clear hb hl zal)|(go_at_call 41;refine (D9.out _).mono ?_;rintro e w4 ⟨v4,rfl,hb,ho⟩;obtain ⟨va,vc,rfl⟩:=Ua ho;have B4:=Lib.hid (B3.out.trans (hb.mono B3.out.size));have L4:=Lib.hid (L3.out.2.keep (hb.block _ L3.out.2.lt));have B5:=Lib.hid (B4.out.alloc B4.out.size (.cells (madeCells #[.int .u64 0] nw) 43));clear q0 q1 q2 q3;have HQ4:=Lib.hid (HQ.out _ B4.out);obtain ⟨q0,q1,q2,q3⟩:=HQ.out _ B5.out;clear hb ho)|(go_at_call 42;refine (HPA.out _).mono ?_;rintro e w6 ⟨v6,rfl,hb,ho⟩;obtain ⟨vd,ve,rfl⟩:=Ua ho;have Z6:=Lib.hid hb.size;have B6:=Lib.hid (B5.out.trans (hb.mono B5.out.size));have R6:=Lib.hid ((hb.block w4.heap.size (by simp)).trans (heap_alloc_new _ _));have L6:=Lib.hid ((L4.out.keep (Below.heap_alloc _ _ _ L4.out.lt)).keep (hb.block _ (by have:=L4.out.lt;simp;omega)));clear q0 q1 q2 q3;obtain ⟨q0,q1,q2,q3⟩:=HQ.out _ B6.out;clear hb ho)|(go_at_call 43;refine (HOP.out w6 w4.heap.size R6.out).mono ?_;rintro e w7 ⟨hb,d,kb,sb,wb,fb,e0,e1,rfl,hd⟩;have Z7:=Lib.hid hb.size;have B7:=Lib.hid (B6.out.trans (hb.mono B6.out.size));have D7:=Lib.hid hd;have R7:=Lib.hid ((hb.block w4.heap.size (Db R6.out)).trans R6.out);have L7:=Lib.hid (L6.out.keep (hb.block _ L6.out.lt));clear q0 q1 q2 q3;obtain ⟨q0,q1,q2,q3⟩:=HQ.out _ B7.out;clear hb hd)|(go_at_call 44;refine (HNW.out d _).mono ?_;rintro e w8 ⟨mm,pb,rfl,hb,m1,m2,m3,m4,m5⟩;have Z8:=Lib.hid hb.size;have B8:=Lib.hid (B7.out.trans (hb.mono B7.out.size));have M8:=Lib.hid (HMS.out d kb sb wb fb e0 e1 mm pb w6 w7 w8 D7.out hb m1 m2 m3 m4 m5);have R8:=Lib.hid ((hb.block w4.heap.size (Db R7.out)).trans R7.out);have L8:=Lib.hid (L7.out.keep (hb.block _ L7.out.lt));clear q0 q1 q2 q3;obtain ⟨q0,q1,q2,q3⟩:=HQ.out _ B8.out;clear hb m1 m2 m3 m4 m5)|(go_at_call 45;refine (HRN.out w8 w4.heap.size R8.out).mono ?_;rintro e w9 ⟨R,rfl,r1,r2,r3,hb,r4⟩;have B9:=Lib.hid (B8.out.trans (hb.mono B8.out.size));have M9:=Lib.hid (M8.out.1.below hb);have L9:=Lib.hid (L8.out.keep (hb.block _ L8.out.lt));have R9:=Lib.hid (And.intro r1 (And.intro r2 (And.intro r3 r4)));clear hb r1 r2 r3 r4))
 have HLY:Hid (∃M0:Mv,Yy W #[.int .i64 (th:Int), .int .i64 (sl:Int), .int .i64 (Xa:Int), .int .i64 (bu:Int), .slice a len cap] ⟨th,sl,Xa,bu⟩ (Xd M0 at_ wv 0) (ze R at_ wv 0) l w9/\M0.m=mm/\M0.n=m/\M0.ck=0/\M0.seen=(fun _=>0)/\R.ck=0/\R.wm=0/\M0.wr=(fun _=>0)/\M0.wm=0/\0<M0.np/\R.seen=(fun _=>0)/\R.kept=(fun _=>0)/\R.pass=(fun _=>0)/\R.wr=(fun _=>0)):=Lib.hid (by
  have hs1:W1.heap.size=W.heap.size+1+1:=by rw [VJ.out];simp
  have bP:=L3.out.1
  have zG:=L4.out.lt;have z4:=B4.out.size;have hs5:(w4.alloc (.cells (madeCells #[.int .u64 0] nw) 43)).heap.size=w4.heap.size+1:=by simp
  have z6:w4.heap.size<=w6.heap.size:=by have:=Z6.out;rw [hs5]at this;omega
  have z7:=Z7.out;have z8:=Z8.out;refine ⟨Mv.start mm d kb sb wb fb pb m th np e0 e1 fun _=>0,⟨?_,(B9.out.block _ (Db BU.out)).trans BU.out,L9.out,M9.out,R9.out.1, ?_, ?_⟩,rfl,rfl,rfl,rfl,R9.out.2.1.Mf,R9.out.2.2.2.1,rfl,rfl,HNP.out,R9.out.2.2.2.2.1,R9.out.2.2.2.2.2.1,R9.out.2.2.2.2.2.2.1,R9.out.2.2.2.2.2.2.2⟩
  . exact cj.out.trans (B9.out.mono cj.out.size)
  . exact (xN mm d kb sb wb fb pb m th np e0 e1 (fun _=>0) (fun _=>⟨0,0,0,0,0,false⟩) R R9.out.2.1).1
  . refine ⟨by omega,fun k hk=> ?_,fun k hk=> ?_⟩
    . have h1:=M8.out.1.lt hk
      have h2:=M8.out.2 k hk
      refine ⟨by omega,by omega,fun hr=> ?_⟩;have:=R9.out.2.2.1 k hr
      omega
    . have:=R9.out.2.2.1 k hk
      omega)
 obtain ⟨M0,hly,gD,hm2,hm3,hm4,mP,Ay,Kh,tg,LU,hz4,hz5,hz6,hz7⟩:=HLY.out;have HZ:=Lib.hid (And.intro Kh (And.intro tg (And.intro LU (And.intro hz4 (And.intro hz5 (And.intro hz6 hz7))))));clear Kh tg LU hz4 hz5 hz6 hz7;have Aal:=Lib.hid hly;have HM0:=Lib.hid (And.intro gD (And.intro hm2 (And.intro hm3 (And.intro hm4 (And.intro mP Ay)))));have Mf:=fun k=>(jh M0 at_ wv k).2.2.2.2
 have HCK:Hid (∀k:Nat,k<=100->(Xd M0 at_ wv k).ck<=1000000/\(ze R at_ wv k).ck<=1000000):=Lib.hid fun k hk=>⟨by rw [Mf k,hm3];omega,by have:=(Yk R at_ wv k).2.2.2;omega⟩
 have KX:Hid (∀k,(Xd M0 at_ wv k).m=mm/\(ze R at_ wv k).m=R.m):=Lib.hid fun k=>⟨(jh M0 at_ wv k).2.2.1.trans gD,(Yk R at_ wv k).2.1⟩
 have HST:Hid (∀(k:Nat) (w:World),k<len->za w (Xd M0 at_ wv k)->Calls Tryz.prog 46 #[.pointer (some ⟨mm,0,none⟩), .int .i64 0, .int .i64 (at_ k), .int .u64 (wv k)] w (Oq (Xd M0 at_ wv k) (Xd M0 at_ wv (k+1)) w)):=Lib.hid fun k w hk hm=>by
  obtain ⟨b,off,-,-,-,-,hb,-⟩:=HPU.out k hk;have h:=KJ (Xd M0 at_ wv k) 0 (at_ k) (wv k) hb.1 hb.2 w hm (HCK.out k (by have:=OR.out;omega)).1
  rw [(KX.out k).1]at h;exact h
 have HRS:Hid (∀(k:Nat) (w:World),k<len->ua w (ze R at_ wv k)->Calls Tryz.prog 47 #[.pointer (some ⟨R.m,0,none⟩), .int .i64 2, .int .i64 0, .int .i64 (at_ k), .int .u64 0, .int .u64 (wv k)] w (xi (ze R at_ wv k) (ze R at_ wv (k+1)) w)):=Lib.hid fun k w hk hm=>by
  obtain ⟨b,off,-,-,-,-,hb,-⟩:=HPU.out k hk;have h:=uk (ze R at_ wv k) 0 (at_ k) 0 (wv k) hb.1 hb.2 w hm (HCK.out k (by have:=OR.out;omega)).2
  rw [(KX.out k).2]at h;exact h
 have HML:Hid (∀k,(Xd M0 at_ wv (k+1)).own=(Xd M0 at_ wv k).own/\(ze R at_ wv (k+1)).own=(ze R at_ wv k).own):=Lib.hid fun k=>⟨(jh M0 at_ wv (k+1)).1.trans (jh M0 at_ wv k).1.symm,(Yk R at_ wv (k+1)).1.trans (Yk R at_ wv k).1.symm⟩
 have HLK:Hid (∀k,Alike (Xd M0 at_ wv k) (ze R at_ wv k)):=Lib.hid fun k=>yA hly.ud at_ wv k
 clear hly gD hm2 hm3 hm4 mP Ay Mf HLY NR HOF D9 HPA HOP HNW HMS HRN jU d1 d2 cj BU E9 HQ B2 B3 L3 B4 L4 B5 HQ4 B6 R6 L6 B7 D7 R7 L7 B8 M8 R8 L8 B9 M9 L9 R9 VJ Z6 Z7 Z8 q0 q1 q2 q3
 go_loopw [16] (fun i wr=>∃k:Nat,k<=len/\i= .int .i64 k/\Hid (Yy W #[.int .i64 (th:Int), .int .i64 (sl:Int), .int .i64 (Xa:Int), .int .i64 (bu:Int), .slice a len cap] ⟨th,sl,Xa,bu⟩ (Xd M0 at_ wv k) (ze R at_ wv k) l wr)) (fun i _=>len -(intOf i).toNat)
 case atStart=>exact ⟨0,Nat.zero_le _,rfl,Aal⟩
 case round=>
  obtain ⟨k,hk,rfl,HK⟩:=hrel;have q4:wr.cell? ⟨W.heap.size,4,none⟩=some (.slice a len cap):=ja HK.out.box 4 _ rfl;by_cases zb:k<len
  . have d1:decide ((k:Int)<(len:Int))=true:=ea (by omega);have d2:decide (k<len)=true:=ea zb;obtain ⟨b,off,ha,hb,c1,c2,hbd⟩:=HPU.out k zb;have x1:=(HK.out.below.cell (p:=⟨b,off+k*2,none⟩) hb).trans c1
    have x2:=(HK.out.below.cell (p:=⟨b,off+k*2+1,none⟩) hb).trans c2
    rw [ha]at q4;have HA:=Lib.hid ha;have FW:=Lib.hid (And.intro hb (And.intro c1 c2));have Ih:=Lib.hid zb;have i0:(0:Int)<=(k:Int):=by omega
    have i1:(k:Int)<(len:Int):=by omega
    clear ha hb c1 c2 hbd zb
    go_wp2_with fail
    refine ae 0 13 (by kernel_rfl) (by kernel_rfl) (fun _ _ d _ _ h=>by cases d<;>exact h) ?_
    simp only [List.take_succ_cons,List.take_zero,List.drop_succ_cons,List.drop_zero,Nat.reduceAdd];refine wpQuiet_nil ?_
    repeat (first|go_big_quiet_skip|(go_big_quiet_want;go_big_quiet_op;go_big_quiet_on))
    refine wpQuiet_nil ?_
    rintro _ ⟨q,rfl⟩;have HK1:=Lib.hid (HK.out.grow (ab (Below.refl _ wr) q));clear q4 x1 x2;generalize wr.drewN q=wr1 at*
    go_wp2_with fail
    refine (HST.out k _ Ih.out HK1.out.mem).mono ?_
    rintro e wa ⟨⟨xv,rfl⟩,hm,ht⟩;have HMA:=Lib.hid (And.intro hm ht);have hA:=HK1.out.yI hm ht (HML.out k).1
    have q4:wa.cell? ⟨W.heap.size,4,none⟩=some (.slice (some ⟨b,off,none⟩) len cap):=by rw [<-HA.out];exact ja hA.2.1 4 _ rfl
    have x1:=(hA.1.cell (p:=⟨b,off+k*2,none⟩) FW.out.1).trans FW.out.2.1
    have x2:=(hA.1.cell (p:=⟨b,off+k*2+1,none⟩) FW.out.1).trans FW.out.2.2
    clear hm ht hA
    go_wp2_with fail
    refine ae 0 13 (by kernel_rfl) (by kernel_rfl) (fun _ _ d _ _ h=>by cases d<;>exact h) ?_
    simp only [List.take_succ_cons,List.take_zero,List.drop_succ_cons,List.drop_zero,Nat.reduceAdd];refine wpQuiet_nil ?_
    repeat (first|go_big_quiet_skip|(go_big_quiet_want;go_big_quiet_op;go_big_quiet_on))
    refine wpQuiet_nil ?_
    rintro _ ⟨q2,rfl⟩;have HBA:=Lib.hid (ab (Below.refl wa.heap.size wa) q2);have HRA:=Lib.hid ((HK1.out.yI HMA.out.1 HMA.out.2 (HML.out k).1).2.2.2.below HBA.out);clear q4 x1 x2;generalize wa.drewN q2=wa1 at*
    go_wp2_with fail
    refine (HRS.out k _ Ih.out HRA.out).mono ?_
    rintro e wb ⟨he,hr,pU⟩;obtain ⟨xr,hxr⟩:∃xr,xr=Value.agg (ze R at_ wv (k+1)).la.cells:=⟨_,rfl⟩
    rw [<-hxr]at he;subst he;clear hxr;have HKB:=Lib.hid (HK1.out.both HMA.out.1 HMA.out.2 (HML.out k).1 HBA.out hr pU (HML.out k).2 (HLK.out (k+1)));clear hr pU
    go_wp2_with fail
    go_roundw
    case rel=>
     have hw:wrap64 ((k:Int)+1)=(k:Int)+1:=by have:=Ih.out;have:=OR.out;unfold wrap64;omega
     exact ⟨k+1,by have:=Ih.out;omega,by rw [hw];go_num,HKB⟩
    case measure=>
     have hw:wrap64 ((k:Int)+1)=(k:Int)+1:=by have:=Ih.out;have:=OR.out;unfold wrap64;omega
     rw [hw];have h:=Ih.out;have e1:(intOf (.int .i64 ((k:Int)+1))).toNat=k+1:=by show((k:Int)+1).toNat=k+1;omega
     have e2:(intOf (.int .i64 (k:Int))).toNat=k:=by show((k:Int)).toNat=k;omega
     rw [e1,e2];exact Nat.sub_lt_sub_left h (Nat.lt_succ_self k)
  . obtain rfl:k=len:=by omega
    have d1:decide ((k:Int)<(k:Int))=false:=by simp
    have d2:decide (k<k)=false:=by simp
    have HDV:=Lib.hid (QF (Xd M0 at_ wv k) wr HK.out.mem);have HSE:=Lib.hid (pK (Xd M0 at_ wv k) wr HK.out.mem);have HPM:=Lib.hid (jh M0 at_ wv k);rw [HPM.out.2.2.1,HM0.out.1]at HDV;rw [HPM.out.2.1,HM0.out.2.1,<-HM.out.1]at HSE;have yF:Hid (∀w',Below wr.heap.size wr w'->zK ⟨th,sl,Xa,bu⟩ at_ wv k W (.returned (.tuple #[.pointer (some ⟨l,0,none⟩), .pointer (some ⟨mm,0,none⟩), .pointer (some ⟨R.m,0,none⟩), .bool true])) w'):=Lib.hid fun w' hb=>by
     have hg:=HK.out.grow hb;refine .inr ⟨⟨HF.out,OR.out⟩,l,Xd M0 at_ wv k,ze R at_ wv k,by rw [(KX.out k).1,(KX.out k).2], ?_⟩
     exact ⟨hg.below,hg.lay,hg.mem,hg.ref,hg.ud,hg.lo,by rw [HPM.out.2.1,HM0.out.2.1,<-HM.out.1];exact HNL.out,by rw [HPM.out.2.2.2.2,HM0.out.2.2.1];omega,by rw [Kx M0 at_ wv HM0.out.2.2.2.1 k,HPM.out.2.1],M0,R,rfl,rfl,HZ.out.1,HZ.out.2.1,HZ.out.2.2.1,HZ.out.2.2.2.1,HZ.out.2.2.2.2.1,HZ.out.2.2.2.2.2.1,HZ.out.2.2.2.2.2.2,HM0.out.2.2.2.2.2,HM0.out.2.2.2.2.1⟩
    generalize (Xd M0 at_ wv k).d=dv at*
    unfold Pu at HSE;clear HK HST HRS HML HLK HPU HPM HCK Aal zb hk
    go_wp2_with (first|(go_at_call 48;refine HDV.out.mono ?_;rintro e w' ⟨rfl,rfl⟩)|(go_at_call 49;refine HSE.out.mono ?_;rintro e wz ⟨sg,sc,rfl,hb,-,-⟩;have HZ:=Lib.hid (yF.out _ hb);clear hb))
    (try simp only [Exit.inBlock,Exit.then])
    refine bodyPost_ret (Xl rfl _ _ _) rfl ?_
    exact HZ.out
end Go.Proofs.YtfnkmolffhfpoaaGreat
