/- -/
import Derived.Test.YtfnkmolffhfpoaaGreatHp15
import Derived.IntWalk
import Derived.Test.YtfnkmolffhfpoaaGreatHp14
set_option linter.unusedVariables false
set_option linter.unusedSimpArgs false
namespace Go.Proofs.YtfnkmolffhfpoaaGreat
open Go.RowKit Go.BigFrame
theorem Ja.drawn{F:Nat->Prop}{a w:World}(h:Ja F a w)(n:Nat):Ja F a {w with drawn:=n}:=⟨h.os,h.tape,h.output,h.size,h.block⟩
theorem za.drew{w:World}{M:Rv}(h:za w M):za w.drew M:=h.keep fun _ _=>rfl
set_option maxRecDepth 100000 in
set_option maxHeartbeats 4000000 in
theorem iA(M:Rv)(t:Nat)(ht:t<M.nt)(W:World)(h:za W M)(hw:M.wm<=999999):
  Calls Tryz.prog 70 #[.pointer (some ⟨M.d,0,none⟩), .int .i64 1, .int .i64 t, .int .i64 0] W (yn M (M.fenced t) (.int .i64 0) W):=by
 obtain ⟨y0,y1,y2,y3⟩:=Mb h.dev;have vL:=h.n1;have uL:=h.t1;have HH:=Lib.hid h;have HT:=Lib.hid ht;have i0:(0:Int)<=(t:Int):=by omega
 have i1:(t:Int)<(M.nt:Int):=by omega
 have d0:decide ((t:Int)<0)=false:=ua (by omega);have d1:decide (M.nt<=t)=false:=ua (by omega);have HWM:=Lib.hid hw;clear h ht hw
 go_enter Tryz.func70,Tryz.ntmps70
 go_wp2_with fail
 go_loopw [9] (fun i wr=>∃k:Nat,k<=M.n/\i= .int .i64 k/\Hid (za wr (M.upto t k)/\Ja M.own W wr)) (fun i _=>M.n -(intOf i).toNat)
 case atStart=>exact ⟨0,Nat.zero_le _,rfl,Lib.hid ⟨Saf HH.out t,Ja.refl _ _⟩⟩
 case round=>
  obtain ⟨k,hk,rfl,HB⟩:=hrel;obtain ⟨wo,rfl⟩:∃wo:World,wo=wr:=⟨_,rfl⟩;clear y0 y1 y2 y3;obtain ⟨w0,w1,w2,w3⟩:=Mb HB.out.1.dev
  have y0:wo.cell? ⟨M.d,0,none⟩=some (.slice (some ⟨M.kb,0,none⟩) (8*M.n) M.c0):=w0;have y1:wo.cell? ⟨M.d,1,none⟩=some (.slice (some ⟨M.sb,0,none⟩) (8*M.n) M.c1):=w1;have y2:wo.cell? ⟨M.d,2,none⟩=some (.slice (some ⟨M.wb,0,none⟩) M.n M.c2):=w2;have y3:wo.cell? ⟨M.d,3,none⟩=some (.slice (some ⟨M.fb,0,none⟩) M.nt M.c3):=w3;clear w0 w1 w2 w3;have j0:(0:Int)<=(k:Int):=by omega
  by_cases Db:k<M.n
  . have j1:(k:Int)<(M.n:Int):=by omega
    have j2:decide ((k:Int)<(M.n:Int))=true:=ga j1;have g1:wo.cell? ⟨M.fb,t,none⟩=some (.slice (some ⟨M.fg t,0,none⟩) M.n (M.fc t)):=HB.out.1.fb.cell HT.out
    have g2:wo.cell? ⟨M.fg t,k,none⟩=some (.bool (M.fl t k)):=(HB.out.1.fl t HT.out).cell Db
    cases hf:M.fl t k with
    |false=>
     rw [hf]at g2;have HE:=Lib.hid (rZ M t k hf);clear hf
     go_wp2_with fail
     go_roundw
     case rel=>exact ⟨k+1,by omega,by go_num,Lib.hid (by rw [HE.out];exact HB.out)⟩
     case measure=>simp [intOf];omega
    |true=>
     rw [hf]at g2;have HE:=Lib.hid (NS M t k hf);clear hf
     go_wp2_with fail
     go_loopw [10] (fun i wr=>∃j:Nat,j<=8/\i= .int .i64 j/\Hid (za wr (M.Uh t k j)/\Ja M.own W wr)) (fun i _=>8 -(intOf i).toNat)
     case atStart=>exact ⟨0,Nat.zero_le _,rfl,Lib.hid ⟨by rw [qZ];exact HB.out.1,HB.out.2⟩⟩
     case round=>
      obtain ⟨j,hj,rfl,HC⟩:=hrel;clear y0 y1 y2 y3 g1 g2;obtain ⟨w0,w1,w2,w3⟩:=Mb HC.out.1.dev
      have y0:wr.cell? ⟨M.d,0,none⟩=some (.slice (some ⟨M.kb,0,none⟩) (8*M.n) M.c0):=w0;have y1:wr.cell? ⟨M.d,1,none⟩=some (.slice (some ⟨M.sb,0,none⟩) (8*M.n) M.c1):=w1;have y2:wr.cell? ⟨M.d,2,none⟩=some (.slice (some ⟨M.wb,0,none⟩) M.n M.c2):=w2;clear w0 w1 w2 w3;by_cases hj8:j<8
      . have e2:decide ((j:Int)<8)=true:=ga (by omega);have z1:wr.cell? ⟨M.sb,8*k+j,none⟩=some (.int .u64 (M.seen (8*k+j))):=HC.out.1.seen.cell (by show _<8*M.n;omega)
        have z2:=HC.out.1.kept.cell (k:=8*k+j) (by show _<8*M.n;omega)
        have z2:wr.cell? ⟨M.kb,8*k+j,none⟩=some (.int .u64 ((M.Uh t k j).kept (8*k+j))):=z2;have z3:wr.frozen? ⟨M.kb,8*k+j,none⟩=false:=HC.out.1.kept.free _
        have HS:=Lib.hid (HC.out.1.UF (8*k+j) (M.seen (8*k+j)));rw [YI M t k j hj8]at HS;generalize (M.Uh t k j).kept (8*k+j)=u at*
        generalize M.seen (8*k+j)=v at*;obtain ⟨q,hq⟩:∃q,q=8*k+j:=⟨_,rfl⟩;obtain ⟨N,hN⟩:∃N,N=8*M.n:=⟨_,rfl⟩;rw [<-hq]at z1 z2 z3 HS;rw [<-hN]at y0 y1;have m1:IntKind.i64.wrap (8*(k:Int))=8*(k:Int):=IntWalk.i64_in _ (by omega);have m2:IntKind.i64.wrap (8*(k:Int)+(j:Int))=(q:Int):=by rw [IntWalk.i64_in _ (by omega)];omega
        have m3:(0:Int)<=(q:Int):=by omega
        have m4:(q:Int)<(N:Int):=by omega
        have m5:q<N:=by omega
        clear hq hN
        go_wp2_with fail
        go_region
        go_wp2_with fail
        go_roundw
        case rel=>exact ⟨j+1,by omega,by go_num,Lib.hid ⟨HS.out.drew,((HC.out.2.set (fun _=>Or.inl (by simp [Rv.blocks])) _ _).drawn _)⟩⟩
        case measure=>simp [intOf];omega
      . obtain rfl:j=8:=by omega
        have e2:decide (((8:Nat):Int)<8)=false:=by simp
        have z1:wr.cell? ⟨M.wb,k,none⟩=some (.int .i64 ((M.Uh t k 8).wr k)):=HC.out.1.wr.cell Db
        have z3:wr.frozen? ⟨M.wb,k,none⟩=false:=HC.out.1.wr.free _
        have z4:(M.Uh t k 8).wr k=M.wr k:=by show(if k<k/\M.fl t k=true then M.wr k+1 else M.wr k)=M.wr k;rw [if_neg (by omega)]
        rw [z4]at z1;have z5:=HH.out.ZA k Db;have z6:=HWM.out;have HS:=Lib.hid (HC.out.1.MS k (M.wr k+1) (by omega) (by show M.wr k+1<=M.wm+1;omega));rw [HE.out]at HS;generalize M.wr k=v at*;have m1:IntKind.i64.wrap (v+1)=v+1:=IntWalk.i64_in _ (by omega)
        go_wp2_with fail
        go_region
        go_wp2_with fail
        go_roundw
        case rel=>exact ⟨k+1,by omega,by go_num,Lib.hid ⟨HS.out.drew,((HC.out.2.set (fun _=>Or.inl (by simp [Rv.blocks])) _ _).drawn _)⟩⟩
        case measure=>simp [intOf];omega
  . obtain rfl:k=M.n:=by omega
    have j2:decide ((M.n:Int)<(M.n:Int))=false:=by simp
    have Vh:Hid (za wo (M.upto t M.n)/\Ja M.own W wo):=HB;clear HB;obtain ⟨R,hR⟩:∃R,R=M.upto t M.n:=⟨_,rfl⟩;have HRn:Hid (R.n=M.n/\R.nt=M.nt/\R.d=M.d/\R.fb=M.fb/\R.fg=M.fg/\R.fc=M.fc/\R.own=M.own/\R.c2=M.c2/\R.wb=M.wb/\R.c3=M.c3):=Lib.hid (by rw [hR];exact ⟨rfl,rfl,rfl,rfl,rfl,rfl,rfl,rfl,rfl,rfl⟩);have HF:Hid (M.fenced t=R.Zd t R.nt 0):=Lib.hid (by rw [hR];rfl);rw [<-hR]at Vh;clear hR
    go_wp2_with fail
    go_loopw [11] (fun i wr=>∃k:Nat,k<=M.nt/\i= .int .i64 k/\Hid (za wr (R.Zd t k 0)/\Ja M.own W wr)) (fun i _=>M.nt -(intOf i).toNat)
    case atStart=>exact ⟨0,Nat.zero_le _,rfl,Lib.hid ⟨by rw [OS];exact Vh.out.1,Vh.out.2⟩⟩
    case round=>
     obtain ⟨a,ha,rfl,HC⟩:=hrel;obtain ⟨wb,rfl⟩:∃wb:World,wb=wr:=⟨_,rfl⟩;clear y0 y1 y2 y3;obtain ⟨w0,w1,w2,w3⟩:=Mb HC.out.1.dev
     obtain ⟨r1,r2,r3,r4,r5,r6,r7,r8,r9,r10⟩:=HRn.out;have y1:wb.cell? ⟨M.d,1,none⟩=some (.slice (some ⟨R.sb,0,none⟩) (8*M.n) R.c1):=by rw [<-r3,<-r1];exact w1
     have y2:wb.cell? ⟨M.d,2,none⟩=some (.slice (some ⟨M.wb,0,none⟩) M.n M.c2):=by rw [<-r3,<-r1,<-r8,<-r9];exact w2
     have y3:wb.cell? ⟨M.d,3,none⟩=some (.slice (some ⟨M.fb,0,none⟩) M.nt M.c3):=by rw [<-r3,<-r2,<-r4,<-r10];exact w3
     clear w0 w1 w2 w3 r1 r2 r3 r4 r5 r6 r7 r8 r9 r10;by_cases Pu:a<M.nt
     . have e2:decide ((a:Int)<(M.nt:Int))=true:=ga (by omega)
       go_wp2_with fail
       go_loopw [12] (fun i wr=>∃b:Nat,b<=M.n/\i= .int .i64 b/\Hid (za wr (R.Zd t a b)/\Ja M.own W wr)) (fun i _=>M.n -(intOf i).toNat)
       case atStart=>exact ⟨0,Nat.zero_le _,rfl,HC⟩
       case round=>
        obtain ⟨b,hb,rfl,HD⟩:=hrel;clear y1 y2 y3;obtain ⟨w0,w1,w2,w3⟩:=Mb HD.out.1.dev
        obtain ⟨r1,r2,r3,r4,r5,r6,r7,r8,r9,r10⟩:=HRn.out;have y2:wr.cell? ⟨M.d,2,none⟩=some (.slice (some ⟨M.wb,0,none⟩) M.n M.c2):=by rw [<-r3,<-r1,<-r8,<-r9];exact w2
        have y3:wr.cell? ⟨M.d,3,none⟩=some (.slice (some ⟨M.fb,0,none⟩) M.nt M.c3):=by rw [<-r3,<-r2,<-r4,<-r10];exact w3
        by_cases YX:b<M.n
        . have e3:decide ((b:Int)<(M.n:Int))=true:=ga (by omega);by_cases av:a=t
          . subst av;have g1:wr.cell? ⟨M.fb,a,none⟩=some (.slice (some ⟨M.fg a,0,none⟩) M.n (M.fc a)):=by
             have:=HD.out.1.fb.cell (k:=a) (by show a<R.nt;rw [r2];exact Pu)
             rw [<-r4,<-r5,<-r1,<-r6];exact this
            have g2:wr.cell? ⟨M.fg a,b,none⟩=some (.bool ((R.Zd a a b).fl a b)):=by
             have:=(HD.out.1.fl a (by show a<R.nt;rw [r2];exact Pu)).cell (k:=b) (by show b<R.n;rw [r1];exact YX)
             rw [<-r5];exact this
            have g3:wr.frozen? ⟨M.fg a,b,none⟩=false:=by
             have:=(HD.out.1.fl a (by show a<R.nt;rw [r2];exact Pu)).free b
             rw [<-r5];exact this
            have HS:=Lib.hid (HD.out.1.Ps (t:=a) (by show a<R.nt;rw [r2];exact Pu) b false);have HO:Hid (M.own (M.fg a)):=Lib.hid (Or.inr ⟨a,Pu,rfl⟩);rw [ZI R a b (by rw [r1];exact YX)]at HS;have VI:Hid (za (wr.setCell ⟨M.fg a,b,none⟩ (.bool false)) (R.Zd a a (b+1))):=Lib.hid (by rw [<-r5];exact HS.out);generalize (R.Zd a a b).fl a b=u at*
            generalize M.fg a=g at*;have f1:((a:Int)==(a:Int))=true:=by simp
            clear w0 w1 w2 w3 r1 r2 r3 r4 r5 r6 r7 r8 r9 r10 HS
            go_wp2_with fail
            go_roundw
            case rel=>exact ⟨b+1,by omega,by go_num,Lib.hid ⟨VI.out,HD.out.2.set (fun _=>HO.out) _ _⟩⟩
            case measure=>simp [intOf];omega
          . have f1:((a:Int)==(t:Int))=false:=by simp;omega
            have HE:=Lib.hid (aD R t a b av);clear w0 w1 w2 w3 r1 r2 r3 r4 r5 r6 r7 r8 r9 r10
            go_wp2_with fail
            go_roundw
            case rel=>exact ⟨b+1,by omega,by go_num,Lib.hid (by rw [HE.out];exact HD.out)⟩
            case measure=>simp [intOf];omega
        . obtain rfl:b=M.n:=by omega
          have e3:decide ((M.n:Int)<(M.n:Int))=false:=by simp
          have HE:=Lib.hid (VF R t a);rw [r1]at HE;clear w0 w1 w2 w3 r1 r2 r3 r4 r5 r6 r7 r8 r9 r10
          go_wp2_with fail
          go_roundw
          case rel=>exact ⟨a+1,by omega,by go_num,Lib.hid (by rw [<-HE.out];exact HD.out)⟩
          case measure=>simp [intOf];omega
     . obtain rfl:a=M.nt:=by omega
       have e2:decide ((M.nt:Int)<(M.nt:Int))=false:=by simp
       have HZ:Hid (za wb (M.fenced t)):=Lib.hid (by rw [HF.out,HRn.out.2.1];exact HC.out.1)
       go_wp2_with fail
       go_loop [13] (fun i=>∃q:Nat,q<=8*M.n/\i= .int .i64 q) (fun i=>8*M.n -(intOf i).toNat)
       case atStart=>exact ⟨0,Nat.zero_le _,rfl⟩
       case round=>
        obtain ⟨q,hq,rfl⟩:=hrel;obtain ⟨N,hN⟩:∃N,N=8*M.n:=⟨_,rfl⟩;rw [<-hN]at y1 hq⊢;have VO:N<=2097152:=by omega
        clear hN;by_cases hqn:q<N
        . have e3:decide ((q:Int)<(N:Int))=true:=ga (by omega)
          go_wp2_with fail
          go_round
          case rel=>exact ⟨q+1,by omega,by go_num⟩
          case measure=>simp [intOf];omega
        . obtain rfl:q=N:=by omega
          have e3:decide ((q:Int)<(q:Int))=false:=by simp
          go_wp2_with fail
          go_ret
          exact ⟨rfl,HZ.out,HC.out.2⟩
def Rv.note(M:Rv)(x:Acc)(is:Bool):Rv:={M with ck:=M.ck+1,bd:=if is then M.bd else M.bd+1,la:=x}
def Rv.put(M:Rv)(at_ v:Int):Rv:=if 0<=at_ then{M with seen:=nd M.seen at_.toNat v}else{M with pass:=nd M.pass (-1 -at_).toNat v}
theorem za.note{W W':World}{M:Rv}(h:za W M)(x:Acc)(is:Bool)
  (hr:W'.heap[M.m]?=some (.cells #[.pointer (some ⟨M.d,0,none⟩), .slice (some ⟨M.pb,0,none⟩) M.np M.c4, .int .i64 (M.ck+1), .int .i64 (if is then M.bd else M.bd+1), .int .i64 x.ki, .int .i64 x.th, .int .i64 x.pl, .int .u64 x.ol, .int .u64 x.ne, .bool x.dn] 141 (0,0)))
  (hb:∀k,M.own k->k≠M.m->W'.heap[k]?=W.heap[k]?):za W' (M.note x is):=by
 have n:=h.ne;have i:∀k,k∈M.blocks->M.own k:=fun k hk=>Or.inl hk
 exact {h with
  row:=hr
  dev:=(hb _ (i _ (by simp [Rv.blocks])) (Ne.symm n.md)).trans h.dev
  kept:=h.kept.keep (hb _ (i _ (by simp [Rv.blocks])) (Ne.symm n.mkb))
  seen:=h.seen.keep (hb _ (i _ (by simp [Rv.blocks])) (Ne.symm n.ms))
  wr:=h.wr.keep (hb _ (i _ (by simp [Rv.blocks])) (Ne.symm n.mw))
  fb:=h.fb.keep (hb _ (i _ (by simp [Rv.blocks])) (Ne.symm n.mf))
  pass:=h.pass.keep (hb _ (i _ (by simp [Rv.blocks])) (Ne.symm n.mp))
  fl:=fun t ht=>(h.fl t ht).keep (hb _ (Or.inr ⟨t,ht,rfl⟩) fun e=>h.alone t ht (by rw [e];simp [Rv.blocks]))
  Cm:=by have:=h.Cm;simp only [Rv.note];omega
  fA:=by have:=h.fA;simp only [Rv.note];split<;>omega
  Mu:=by have:=h.Mu;simp only [Rv.note];split<;>omega}
theorem za.pn{W:World}{M:Rv}(h:za W M)(k:Nat)(v:Int):za (W.setCell ⟨M.sb,k,none⟩ (.int .u64 v)) {M with seen:=nd M.seen k v}:=by
 have n:=h.ne;exact {h with
  row:=(aa n.ms).trans h.row
  dev:=(aa n.ds).trans h.dev
  kept:=h.kept.keep (aa n.ks)
  seen:=by
   have:=h.seen.set k (.int .u64 v);simp only [Aj];exact this
  wr:=h.wr.keep (aa (Ne.symm n.sw))
  fb:=h.fb.keep (aa (Ne.symm n.sf))
  pass:=h.pass.keep (aa (Ne.symm n.sp))
  fl:=fun t ht=>(h.fl t ht).keep (aa fun e=>h.alone t ht (by rw [e];simp [Rv.blocks]))}
theorem za.qn{W:World}{M:Rv}(h:za W M)(k:Nat)(v:Int):za (W.setCell ⟨M.pb,k,none⟩ (.int .u64 v)) {M with pass:=nd M.pass k v}:=by
 have n:=h.ne;exact {h with
  row:=(aa n.mp).trans h.row
  dev:=(aa n.dp).trans h.dev
  kept:=h.kept.keep (aa n.kp)
  seen:=h.seen.keep (aa n.sp)
  wr:=h.wr.keep (aa n.wp)
  fb:=h.fb.keep (aa n.fp)
  pass:=by
   have:=h.pass.set k (.int .u64 v);simp only [Aj];exact this
  fl:=fun t ht=>(h.fl t ht).keep (aa fun e=>h.alone t ht (by rw [e];simp [Rv.blocks]))}
def di(w:World)(b:Nat):List (Nat×Value)->World
 |[]=>w
 |(j,v)::l=>di (w.setCell ⟨b,j,none⟩ v) b l
theorem Xi{b g:Nat}(h:g≠b):∀(l:List (Nat×Value)) (w:World),(di w b l).heap[g]?=w.heap[g]?
 |[],_=>rfl
 |(j,v)::l,w=>by rw [di,Xi h l,aa h]
theorem Rs{F:Nat->Prop}{a:World}{b:Nat}(hb:b<a.heap.size->F b):∀(l:List (Nat×Value)) (w:World),Ja F a w->Ja F a (di w b l)
 |[],_,h=>h
 |(j,v)::l,w,h=>Rs hb l _ (h.set hb j v)
def PS(x:Acc):List (Nat×Value):=[(4, .int .i64 x.ki),(5, .int .i64 x.th),(6, .int .i64 x.pl),(7, .int .u64 x.ol),(8, .int .u64 x.ne),(9, .bool x.dn)]
def Pap(x:Acc):List (Nat×Value):=[(0, .int .i64 x.ki),(1, .int .i64 x.th),(2, .int .i64 x.pl),(3, .int .u64 x.ol),(4, .int .u64 x.ne),(5, .bool x.dn)]
def eu(w:World)(m b:Nat)(ck bd:Int)(x:Acc)(is:Bool):World:=
 di (di w m ((2, .int .i64 (ck+1))::(if is then[]else[(3, .int .i64 (bd+1))])++PS x)) b (Pap x)
theorem WO{w:World}{M:Rv}(h:za w M)(b:Nat)(hb:b≠M.m)(x:Acc)(is:Bool):
  (eu w M.m b M.ck M.bd x is).heap[M.m]?=some (.cells #[.pointer (some ⟨M.d,0,none⟩), .slice (some ⟨M.pb,0,none⟩) M.np M.c4, .int .i64 (M.ck+1), .int .i64 (if is then M.bd else M.bd+1), .int .i64 x.ki, .int .i64 x.th, .int .i64 x.pl, .int .u64 x.ol, .int .u64 x.ne, .bool x.dn] 141 (0,0)):=by
 unfold eu;rw [Xi (Ne.symm hb)];cases is with
 |true=>
  show(di w M.m [(2, .int .i64 (M.ck+1)),(4, .int .i64 x.ki),(5, .int .i64 x.th),(6, .int .i64 x.pl),(7, .int .u64 x.ol),(8, .int .u64 x.ne),(9, .bool x.dn)]).heap[M.m]?=_
  simp only [di];have h2:=heap_set (j:=2) (.int .i64 (M.ck+1)) h.row;have h4:=heap_set (j:=4) (.int .i64 x.ki) h2;have h5:=heap_set (j:=5) (.int .i64 x.th) h4;have h6:=heap_set (j:=6) (.int .i64 x.pl) h5;have h7:=heap_set (j:=7) (.int .u64 x.ol) h6;have h8:=heap_set (j:=8) (.int .u64 x.ne) h7;have h9:=heap_set (j:=9) (.bool x.dn) h8;rw [h9];simp only [List.setIfInBounds_toArray,List.set_cons_succ,List.set_cons_zero];rfl
 |false=>
  show(di w M.m [(2, .int .i64 (M.ck+1)),(3, .int .i64 (M.bd+1)),(4, .int .i64 x.ki),(5, .int .i64 x.th),(6, .int .i64 x.pl),(7, .int .u64 x.ol),(8, .int .u64 x.ne),(9, .bool x.dn)]).heap[M.m]?=_
  simp only [di];have h2:=heap_set (j:=2) (.int .i64 (M.ck+1)) h.row;have h3:=heap_set (j:=3) (.int .i64 (M.bd+1)) h2;have h4:=heap_set (j:=4) (.int .i64 x.ki) h3;have h5:=heap_set (j:=5) (.int .i64 x.th) h4;have h6:=heap_set (j:=6) (.int .i64 x.pl) h5;have h7:=heap_set (j:=7) (.int .u64 x.ol) h6;have h8:=heap_set (j:=8) (.int .u64 x.ne) h7;have h9:=heap_set (j:=9) (.bool x.dn) h8;rw [h9];simp only [List.setIfInBounds_toArray,List.set_cons_succ,List.set_cons_zero];rfl
theorem Od{w:World}{m b:Nat}{k0 k1 k2 k3 k4 k5:Value}{t:TypeId}(hb:b≠m)(h:w.heap[b]?=some (.cells #[k0,k1,k2,k3,k4,k5] t (0,0)))(ck bd:Int)(x:Acc)(is:Bool):(eu w m b ck bd x is).heap[b]?=some (.cells x.cells t (0,0)):=by
 have h0:(di w m ((2, .int .i64 (ck+1))::(if is then[]else[(3, .int .i64 (bd+1))])++PS x)).heap[b]?=some (.cells #[k0,k1,k2,k3,k4,k5] t (0,0)):=by rw [Xi hb];exact h
 unfold eu;generalize di w m ((2, .int .i64 (ck+1))::(if is then[]else[(3, .int .i64 (bd+1))])++PS x)=w1 at*;simp only [Pap,di];rw [qv h0];rfl
theorem cd{W w:World}{M R:Rv}{b:Nat}(hR:za w R)(hT:Ja M.own W w)(hm:M.m=R.m)(ho:R.own=M.own)(hb:W.heap.size<=b)(hM:za W M)(x:Acc)(is:Bool):
  za (eu w R.m b R.ck R.bd x is) (R.note x is)/\Ja M.own W (eu w R.m b R.ck R.bd x is):=by
 have hmo:M.own R.m:=by rw [<-hm];exact Or.inl (by simp [Rv.blocks])
 have hbm:b≠R.m:=fun e=>by have:=hM.lt hmo;omega
 refine ⟨hR.note x is (WO hR b hbm x is) fun k hk e=> ?_, ?_⟩
 . have:k≠b:=fun e'=>by rw [ho]at hk;have:=hM.lt hk;omega
   unfold eu;rw [Xi this,Xi e]
 . unfold eu;exact Rs (fun e=>by omega) _ _ (Rs (fun _=>hmo) _ _ hT)
def Rv.res(M:Rv)(x:Acc)(pu:Bool):Acc:=if(M.Ua x.pl).2 then⟨x.ki,x.th,x.pl,(M.Ua x.pl).1,x.ne,pu||x.ki==1⟩else x
def Rv.Ye(M:Rv)(x:Acc)(nw:Int)(pu:Bool):Rv:=(if(M.Ua x.pl).2&&pu then M.put x.pl nw else M).note (M.res x pu) (M.Ua x.pl).2
def Rv.load(M:Rv)(t at_:Int):Rv:=M.Ye ⟨1,t,at_,0,0,false⟩ 0 false
def Rv.store(M:Rv)(t at_ w:Int):Rv:=M.Ye ⟨2,t,at_,0,w,false⟩ w true
def Rv.swap(M:Rv)(t at_ old w:Int):Rv:=M.Ye ⟨3,t,at_,0,w,false⟩ w ((M.Ua at_).1==old)
def Rv.Ka(M:Rv)(t at_:Int):Rv:=
 if 0<=at_/\M.Nb t (at_/8)=0 then(M.Rc t (at_/8)).note ⟨4,t,at_,0,0,true⟩ true else M.note ⟨4,t,at_,0,0,false⟩ false
def Rv.Ma(M:Rv)(t:Int):Rv:=if Hb M.nt t=0 then(M.fenced t.toNat).note ⟨5,t,0,0,0,true⟩ true else M.note ⟨5,t,0,0,0,false⟩ false
def Yi(M M':Rv)(W:World)(e:Ending)(W':World):Prop:=e= .returned (.agg M'.la.cells)/\za W' M'/\Ja M.own W W'
def Mv.taken(M:Mv)(t:Nat):Mv:={M with fl:=nd M.fl t [],fv:=nd M.fv t (.slice none 0 0)}
def Mv.fenced(M:Mv)(t:Int):Mv:=(M.taken t.toNat).Ck (M.fl t.toNat)
def br(M:Mv)(t:Int)(W:World)(e:Ending)(W':World):Prop:=
 e= .returned (.int .i64 (Hb M.nt t))/\(Hb M.nt t≠0/\Se M M W W'\/Hb M.nt t=0/\Se M (M.fenced t) W W')
theorem aJ(M:Mv)(t:Int)(W:World)(h:Ga W M)(hn:Hb M.nt t≠0):
  Calls Tryz.prog 172 #[.pointer (some ⟨M.d,0,none⟩), .int .i64 t] W (br M t W):=by
 have HT:=Lib.hid (Wq M.d (some ⟨M.fb,0,none⟩) M.nt M.c3 t W (by rw [Wa h.dev];rfl));have HM:=Lib.hid h;have HN:=Lib.hid hn;have e1:Hb M.nt t=1:=by unfold Hb at*;split at hn<;>simp_all
 have HE:=Lib.hid e1;rw [e1]at HT;clear h hn e1
 go_enter Tryz.func172,Tryz.ntmps172
 go_wp2_with fail
 refine HT.out.mono ?_
 rintro e w ⟨rfl,hw⟩;cases hw
 go_wp2_with fail
 go_ret
 exact ⟨by rw [HE.out];rfl,Or.inl ⟨HN.out,Se.refl HM.out⟩⟩
theorem wL(M:Mv)(t:Nat)(ht:t<M.nt)(W:World)(h:Ga W M):
  Calls Tryz.prog 257 #[.pointer (some ⟨M.fb,t,none⟩)] W fun e W'=>e= .returned (M.fv t)/\Se M (M.taken t) W W'/\lg W' (M.fv t) (M.fl t):=by
 obtain ⟨a,n,c,hv⟩:=(h.fl t ht).slice
 have hc:=h.fb.cell ht;rw [hv]at hc;refine (Maf M.fb t a n c W hc (h.fb.free t)).mono ?_
 rintro e W' ⟨rfl,rfl⟩;refine ⟨by rw [hv],h.Ps ht (v':= .slice none 0 0) (l':=[]) (Ja.refl _ _) (Or.inl ⟨rfl,rfl⟩) (fun g hg=>by cases hg) List.Pairwise.nil (fun x hx=>by cases hx), ?_⟩;exact (h.fl t ht).keep fun g hg=>aa fun(e:g=M.fb)=>h.alone t ht g hg (by rw [e];simp [Mv.blocks])
theorem bJ{W:World}{M:Mv}(h:Ga W M){t:Nat}(ht:t<M.nt){g:Nat}(hg:(M.fv t).ownBlock=some g):¬(M.taken t).own g:=by
 rintro (hb|⟨t',um,e⟩)
 . exact h.alone t ht g hg hb
 . have e:(nd M.fv t (.slice none 0 0) t').ownBlock=some g:=e
   by_cases c:t'=t
   . rw [c,Wb]at e;cases e
   . rw [Kb _ _ c]at e;exact h.lone t ht t' um (Ne.symm c) g hg e
theorem lg.at{W:World}{v:Value}{l:List Int}(h:lg W v l){k:Nat}(hk:k<l.length):∃g cap,v= .slice (some ⟨g,0,none⟩) l.length cap/\v.ownBlock=some g/\W.cell? ⟨g,k,none⟩=some (.int .i64 (l.getD k 0)):=by
 rcases h with⟨rfl,rfl⟩|⟨g,cap,c,rfl,h1,h2,h3,h4,h5,h6⟩
 . simp at hk
 . exact ⟨g,cap,rfl,rfl,by rw [Wa h1];exact h6 k hk⟩
theorem lg.len{W:World}{v:Value}{l:List Int}(h:lg W v l):∃a cap,v= .slice a l.length cap:=by
 rcases h with⟨rfl,rfl⟩|⟨g,cap,c,rfl,_⟩
 . exact ⟨_,_,rfl⟩
 . exact ⟨_,_,rfl⟩
theorem zn(l:List Int)(k:Nat)(hk:k<l.length):l.take (k+1)=l.take k++[l.getD k 0]:=by
 rw [List.take_succ_eq_append_getElem hk,List.getD_eq_getElem?_getD,List.getElem?_eq_getElem hk];rfl
theorem cJ(l:List Int)(hs:l.Pairwise (·<·))(k:Nat)(hk:k<l.length):l.getD k 0∉l.take k:=by
 intro hm;have h:=zn l k hk;have hp:(l.take (k+1)).Pairwise (·<·):=hs.sublist (List.take_sublist _ _)
 rw [h,List.pairwise_append]at hp;have:=hp.2.2 _ hm (l.getD k 0) (by simp)
 omega
set_option maxRecDepth 100000 in
set_option maxHeartbeats 1000000 in
theorem XF(M:Mv)(t:Int)(W:World)(h:Ga W M)(hw:M.wm<=999999)(hn:Hb M.nt t=0):
  Calls Tryz.prog 172 #[.pointer (some ⟨M.d,0,none⟩), .int .i64 t] W (br M t W):=by
 have HT:=Lib.hid (Wq M.d (some ⟨M.fb,0,none⟩) M.nt M.c3 t W (by rw [Wa h.dev];rfl));have HN:=Lib.hid hn;rw [hn]at HT;have a0:0<=t/\t<M.nt:=by unfold Hb at hn;split at hn;cases hn;omega
 obtain ⟨k0,rfl⟩:=Int.eq_ofNat_of_zero_le a0.1
 have b0:(0:Int)<=(k0:Int):=by omega
 have b1:(k0:Int)<(M.nt:Int):=a0.2
 have ht:k0<M.nt:=by omega
 have HP:=Lib.hid (wL M k0 ht W h);have hd:W.cell? ⟨M.d,3,none⟩=some (.slice (some ⟨M.fb,0,none⟩) M.nt M.c3):=by rw [Wa h.dev];rfl
 have HF:Hid (∀g,(M.fv k0).ownBlock=some g->¬(M.taken k0).own g):=Lib.hid fun g hg=>bJ h ht hg
 have HI:=Lib.hid (h.inn k0 ht);have HR:=Lib.hid (h.SI k0 ht);have PK:=h.LS ht;have vL:=h.n1;obtain ⟨L,hL⟩:∃L,L=M.fl k0:=⟨_,rfl⟩;obtain ⟨v,hv⟩:∃v,v=M.fv k0:=⟨_,rfl⟩;obtain ⟨M0,sZ⟩:∃M0,M0=M.taken k0:=⟨_,rfl⟩;have HE:Hid (M.fenced (k0:Int)=M0.Ck L):=Lib.hid (by rw [sZ,hL];rfl);have HNN:Hid (M0.n=M.n):=Lib.hid (by rw [sZ];rfl);have HDD:Hid (M0.d=M.d):=Lib.hid (by rw [sZ];rfl);have HWM:Hid (M0.wm=M.wm):=Lib.hid (by rw [sZ];rfl);have uI:L.length<=262144:=by rw [hL];omega
 rw [<-hL,<-hv,<-sZ]at HP;rw [<-hv,<-sZ]at HF;rw [<-hL]at HI HR;have HWW:=Lib.hid hw;clear h hn a0 hL hv sZ PK vL hw ht
 go_enter Tryz.func172,Tryz.ntmps172
 go_wp2_with fail
 refine HT.out.mono ?_
 rintro e w ⟨rfl,hw⟩;cases hw
 go_wp2_with fail
 refine HP.out.mono ?_
 rintro e W1 ⟨rfl,hi,hl⟩;obtain ⟨a,cap,hv⟩:=hl.len;subst hv;have HI1:=Lib.hid hi;have dY:=Lib.hid hl;clear hi hl
 go_wp2_with fail
 go_loopw [7,22] (fun u i wr=>∃k:Nat,k<=L.length/\i= .int .i64 k/\Hid (Ga wr (M0.Ck (L.take k))/\Ja M0.own W1 wr)) (fun _ i _=>L.length -(intOf i).toNat)
 case atStart=>exact ⟨0,Nat.zero_le _,rfl,Lib.hid ⟨by rw [List.take_zero];exact TO HI1.out.1,Ja.refl _ _⟩⟩
 case round=>
  obtain ⟨k,hk,rfl,HB⟩:=hrel;by_cases Db:k<L.length
  . obtain ⟨g,XO,e1,e2,hc⟩:=dY.out.at Db;cases e1;have jx:wr.cell? ⟨g,k,none⟩=some (.int .i64 (L.getD k 0)):=by
     rw [cell_of_heap (HB.out.2.block g (dY.out.lt e2) (HF.out g e2))];exact hc
    have ox:L.getD k 0∈L:=by rw [List.getD_eq_getElem?_getD,List.getElem?_eq_getElem Db];exact List.getElem_mem _
    have Bg:=HI.out _ ox;have RQ:=cJ L HR.out k Db;have wY:=zn L k Db;obtain ⟨x,hx⟩:∃x,x=L.getD k 0:=⟨_,rfl⟩;rw [<-hx]at jx Bg RQ wY;clear hx ox hc;obtain ⟨q,rfl⟩:=Int.eq_ofNat_of_zero_le Bg.1
    have HC:Hid (Calls Tryz.prog 174 #[.pointer (some ⟨M.d,0,none⟩), .int .i64 q] wr (Xq (M0.Ck (L.take k)) (M0.Ck (L.take (k+1))) wr)):=Lib.hid (by
     rw [wY,<-XI _ _ _ RQ];have:=tL (M0.Ck (L.take k)) q (by show q<M0.n;rw [HNN.out];omega) wr HB.out.1 (by
      have e:(M0.Ck (L.take k)).wr q=M0.wr q:=by
       show(if(L.take k).contains (q:Int)then M0.wr q+1 else M0.wr q)=M0.wr q
       rw [if_neg (by simpa using RQ)]
      rw [e];have:=HI1.out.1.ZA q (by rw [HNN.out];omega)
      show M0.wr q<M0.wm+1
      omega) (by show M0.wm+1<=1000000;have:=HWW.out;rw [HWM.out];omega)
     have e:(M0.Ck (L.take k)).d=M.d:=HDD.out
     rw [e]at this;exact this)
    have HS:Hid (Ja M0.own W1 wr):=Lib.hid HB.out.2
    have i0:(0:Int)<=(k:Int):=by omega
    have i1:(k:Int)<(L.length:Int):=by omega
    have i2:decide ((k:Int)<(L.length:Int))=true:=ga i1;clear Bg RQ wY
    go_wp2_with fail
    refine HC.out.mono ?_
    rintro e w2 ⟨⟨u,rfl⟩,hm,ht⟩;have Kg:=Lib.hid hm;have HT2:Hid (Ja M0.own W1 w2):=Lib.hid (HS.out.trans ht (fun _ _ h=>h));clear hm ht
    go_wp2_with fail
    go_roundw
    case rel=>exact ⟨k+1,by omega,by go_num,Lib.hid ⟨Kg.out,HT2.out⟩⟩
    case measure=>simp [intOf];omega
  . obtain rfl:k=L.length:=by omega
    have i2:decide ((L.length:Int)<(L.length:Int))=false:=by simp
    go_wp2_with fail
    go_ret
    refine ⟨by rw [HN.out];rfl,Or.inr ⟨HN.out,HI1.out.trans ?_⟩⟩;rw [HE.out];have:=HB.out;rw [List.take_length]at this;exact ⟨this.1,this.2,fun k hk=>Or.inl hk⟩
theorem xL(M:Mv)(t:Int)(W:World)(h:Ga W M)(hw:M.wm<=999999):
  Calls Tryz.prog 172 #[.pointer (some ⟨M.d,0,none⟩), .int .i64 t] W (br M t W):=by
 by_cases hn:Hb M.nt t=0
 . exact XF M t W h hw hn
 . exact aJ M t W h hn
def Mv.Ka(M:Mv)(t at_:Int)(v:Value):Mv:=
 if 0<=at_/\M.Nb t (at_/8)=0 then(M.Rc t (at_/8) v).note ⟨4,t,at_,0,0,true⟩ true else M.note ⟨4,t,at_,0,0,false⟩ false
def Mv.Ma(M:Mv)(t:Int):Mv:=if Hb M.nt t=0 then(M.fenced t).note ⟨5,t,0,0,0,true⟩ true else M.note ⟨5,t,0,0,0,false⟩ false
def Ends(M:Mv)(f:Value->Mv)(W:World)(e:Ending)(W':World):Prop:=(∃x,e= .returned x)/\∃v,Se M (f v) W W'
theorem Se.note{M M':Mv}{W W1 W2:World}{x:Acc}{is:Bool}{e:Ending}(h:Se M M' W W1)(k:Xq M' (M'.note x is) W1 e W2):Se M (M'.note x is) W W2:=
 h.trans ⟨k.2.1,k.2.2,fun i hi=>Or.inl hi⟩
set_option maxRecDepth 100000 in
theorem tZ(M:Mv)(t at_:Int)(q1:at_<=9223372036854775807)(W:World)(h:Ga W M)(hc:M.ck<=1000000):
  Calls Tryz.prog 66 #[.pointer (some ⟨M.m,0,none⟩), .int .i64 t, .int .i64 at_] W (Ends M (M.Ka t at_) W):=by
 by_cases h0:at_<0
 . have d0:decide (at_<0)=true:=ga h0;have HL:=Lib.hid (qp M ⟨4,t,at_,0,0,false⟩ 5 W h hc);have HE:Hid (∀v,M.Ka t at_ v=M.note ⟨4,t,at_,0,0,false⟩ false):=Lib.hid fun v=>by unfold Mv.Ka;rw [if_neg (by omega)]
   have HM:=Lib.hid h;simp only [Acc.cells]at HL;clear h h0
   go_enter Tryz.func66,Tryz.ntmps66
   go_wp2_with fail
   refine HL.out.mono ?_
   rintro e w ⟨⟨x,rfl⟩,hm,ht⟩;have HI:Hid (Se M (M.note ⟨4,t,at_,0,0,false⟩ false) W w):=Lib.hid ⟨hm,ht,fun k hk=>Or.inl hk⟩;clear hm ht
   go_wp2_with fail
   go_end0
   exact ⟨⟨_,rfl⟩, .slice none 0 0,by rw [HE.out];exact HI.out⟩
 . have d0:decide (at_<0)=false:=ua h0;have e8:at_.tdiv 8=at_/8:=Int.tdiv_eq_ediv_of_nonneg (by omega);have hd:W.cell? ⟨M.m,0,none⟩=some (.pointer (some ⟨M.d,0,none⟩)):=(qd h.row).1
   obtain ⟨E,hE⟩:∃E,E=M.Nb t (at_/8):=⟨_,rfl⟩;have HF:=Lib.hid (sL M t (at_/8) W h);unfold Yq at HF;rw [<-hE]at HF;have HX:Hid (∀W1,(E≠0/\Se M M W W1\/E=0/\∃v,Se M (M.Rc t (at_/8) v) W W1)->Calls Tryz.prog 170 #[.pointer (some ⟨M.m,0,none⟩), .agg (Acc.cells ⟨4,t,at_,0,0,false⟩), .int .i64 E] W1 (Ends M (M.Ka t at_) W)):=Lib.hid fun W1 hw=>by
    rcases hw with⟨h1,hi⟩|⟨h1,v,hi⟩
    . have e0:(E==0)=false:=by simpa using h1
      have:=qp M ⟨4,t,at_,0,0,false⟩ E W1 hi.1 hc
      refine this.mono ?_
      rintro e w hd;refine ⟨hd.1, .slice none 0 0, ?_⟩;unfold Mv.Ka;rw [if_neg (by rw [<-hE];omega)];rw [e0]at hd;exact hi.note hd
    . subst h1;have:=qp (M.Rc t (at_/8) v) ⟨4,t,at_,0,0,false⟩ 0 W1 hi.1 hc
      refine this.mono ?_
      rintro e w hd;refine ⟨hd.1,v, ?_⟩;unfold Mv.Ka;rw [if_pos ⟨by omega,hE.symm⟩];exact hi.note hd
   simp only [Acc.cells]at HX;have q0:0<=at_:=by omega
   clear h h0 hE;generalize Mv.Ka M t at_=N at*
   go_enter Tryz.func66,Tryz.ntmps66
   go_wp2_with fail
   with_reducible refine HF.out.mono ?_
   rintro e w ⟨rfl,hw⟩;have HC:=Lib.hid (HX.out w hw);clear hw HX
   go_wp2_with fail
   with_reducible refine HC.out.mono ?_
   rintro e w' hp;obtain ⟨x,rfl⟩:=hp.1
   have HP:=Lib.hid hp.2
   clear hp
   go_wp2_with fail
   go_end0
   exact ⟨⟨_,rfl⟩,HP.out⟩
set_option maxRecDepth 100000 in
theorem uZ(M:Mv)(t:Int)(W:World)(h:Ga W M)(hc:M.ck<=1000000)(hw:M.wm<=999999):
  Calls Tryz.prog 67 #[.pointer (some ⟨M.m,0,none⟩), .int .i64 t] W (Ends M (fun _=>M.Ma t) W):=by
 have hd:W.cell? ⟨M.m,0,none⟩=some (.pointer (some ⟨M.d,0,none⟩)):=(qd h.row).1
 obtain ⟨E,hE⟩:∃E,E=Hb M.nt t:=⟨_,rfl⟩;have HF:=Lib.hid (xL M t W h hw);unfold br at HF;rw [<-hE]at HF;have HX:Hid (∀W1,(E≠0/\Se M M W W1\/E=0/\Se M (M.fenced t) W W1)->Calls Tryz.prog 170 #[.pointer (some ⟨M.m,0,none⟩), .agg (Acc.cells ⟨5,t,0,0,0,false⟩), .int .i64 E] W1 (Ends M (fun _=>M.Ma t) W)):=Lib.hid fun W1 hw=>by
  rcases hw with⟨h1,hi⟩|⟨h1,hi⟩
  . have e0:(E==0)=false:=by simpa using h1
    refine (qp M ⟨5,t,0,0,0,false⟩ E W1 hi.1 hc).mono ?_
    rintro e w hd;refine ⟨hd.1, .slice none 0 0, ?_⟩;unfold Mv.Ma;rw [if_neg (by rw [<-hE];exact h1)];rw [e0]at hd;exact hi.note hd
  . subst h1;refine (qp (M.fenced t) ⟨5,t,0,0,0,false⟩ 0 W1 hi.1 hc).mono ?_
    rintro e w hd;refine ⟨hd.1, .slice none 0 0, ?_⟩;unfold Mv.Ma;rw [if_pos hE.symm];exact hi.note hd
 simp only [Acc.cells]at HX;clear h hE;generalize Mv.Ma M t=N at*
 go_enter Tryz.func67,Tryz.ntmps67
 go_wp2_with fail
 with_reducible refine HF.out.mono ?_
 rintro e w ⟨rfl,hw⟩;have HC:=Lib.hid (HX.out w hw);clear hw HX
 go_wp2_with fail
 with_reducible refine HC.out.mono ?_
 rintro e w' hp;obtain ⟨x,rfl⟩:=hp.1
 have HP:=Lib.hid hp.2
 clear hp
 go_wp2_with fail
 go_end0
 exact ⟨⟨_,rfl⟩,HP.out⟩
structure Alike(M:Mv)(R:Rv):Prop where
 n:M.n=R.n
 nt:M.nt=R.nt
 np:M.np=R.np
 seen:∀k,k<8*M.n->M.seen k=R.seen k
 kept:∀k,k<8*M.n->M.kept k=R.kept k
 pass:∀k,k<M.np->M.pass k=R.pass k
 fl:∀t,t<M.nt->∀j,j<M.n->(R.fl t j=true<->(j:Int)∈M.fl t)
 ck:M.ck=R.ck
 bd:M.bd=R.bd
 la:M.la=R.la
theorem Alike.Ua{M:Mv}{R:Rv}(h:Alike M R)(at_:Int):M.Ua at_=R.Ua at_:=by
 unfold Mv.Ua Rv.Ua Je;rw [<-h.n,<-h.np];by_cases h0:0<=at_
 . rw [if_pos h0,if_pos h0];by_cases h1:at_/8<(M.n:Int)
   . rw [if_pos h1,if_pos h1,h.seen _ (by omega)]
   . rw [if_neg h1,if_neg h1]
 . rw [if_neg h0,if_neg h0];by_cases h1:-1 -at_<(M.np:Int)
   . rw [if_pos h1,if_pos h1,h.pass _ (by omega)]
   . rw [if_neg h1,if_neg h1]
theorem Alike.note{M:Mv}{R:Rv}(h:Alike M R)(x:Acc)(is:Bool):Alike (M.note x is) (R.note x is):=
 {h with
  ck:=by show M.ck+1=R.ck+1;rw [h.ck]
  bd:=by show(if is then M.bd else M.bd+1)=(if is then R.bd else R.bd+1);rw [h.bd]
  la:=rfl}
theorem Alike.put{M:Mv}{R:Rv}(h:Alike M R)(at_ v:Int):Alike (M.put at_ v) (R.put at_ v):=by
 unfold Mv.put Rv.put;by_cases h0:0<=at_
 . rw [if_pos h0,if_pos h0];refine {h with seen:=fun k hk=> ?_}
   show nd M.seen at_.toNat v k=nd R.seen at_.toNat v k
   unfold nd
   split
   . rfl
   . exact h.seen k hk
 . rw [if_neg h0,if_neg h0];refine {h with pass:=fun k hk=> ?_}
   show nd M.pass (-1 -at_).toNat v k=nd R.pass (-1 -at_).toNat v k
   unfold nd
   split
   . rfl
   . exact h.pass k hk
theorem Alike.Ye{M:Mv}{R:Rv}(h:Alike M R)(x:Acc)(nw:Int)(pu:Bool):Alike (M.Ye x nw pu) (R.Ye x nw pu):=by
 unfold Mv.Ye Rv.Ye Mv.res Rv.res;rw [h.Ua];refine Alike.note ?_ _ _
 split
 . exact h.put _ _
 . exact h
theorem Alike.Rc{M:Mv}{R:Rv}(h:Alike M R)(t l:Int)(v:Value)(ht:0<=t/\t<M.nt)(hl:0<=l/\l<M.n):Alike (M.Rc t l v) (R.Rc t l):=by
 obtain ⟨a,rfl⟩:=Int.eq_ofNat_of_zero_le ht.1
 obtain ⟨b,rfl⟩:=Int.eq_ofNat_of_zero_le hl.1
 exact {h with
  fl:=fun x hx j hj=>by
   show nd R.fl a (nd (R.fl a) b true) x j=true<->(j:Int)∈nd M.fl a (bx (M.fl a) b) x
   by_cases e:x=a
   . rw [e,Wb,Wb,RF];by_cases e':j=b
     . rw [e',Wb];simp
     . rw [Kb _ _ e',h.fl a (by omega) j hj];constructor
       . exact Or.inr
       . rintro (q|q)
         . omega
         . exact q
   . rw [Kb _ _ e,Kb _ _ e];exact h.fl x hx j hj}
theorem Alike.Nb{M:Mv}{R:Rv}(h:Alike M R)(t l:Int):M.Nb t l=R.Nb t l:=by
 unfold Mv.Nb Rv.Nb;rw [h.n,h.nt]
theorem YO{M:Mv}{t l:Int}(h:M.Nb t l=0):(0<=t/\t<M.nt)/\(0<=l/\l<M.n):=by
 unfold Mv.Nb Hb Rh at h;by_cases h0:t<0\/(M.nt:Int)<=t
 . rw [if_pos h0,if_neg (by omega)]at h;omega
 . rw [if_neg h0,if_pos rfl]at h;by_cases h1:l<0\/(M.n:Int)<=l
   . rw [if_pos h1]at h;omega
   . omega
theorem Alike.Ka{M:Mv}{R:Rv}(h:Alike M R)(t at_:Int)(v:Value):Alike (M.Ka t at_ v) (R.Ka t at_):=by
 unfold Mv.Ka Rv.Ka;rw [<-h.Nb]
 split
 . rename_i c;obtain ⟨a,b⟩:=YO c.2
   exact (h.Rc t (at_/8) v a b).note _ _
 . exact h.note _ _
theorem Alike.fenced{M:Mv}{R:Rv}(h:Alike M R)(t:Int)(ht:0<=t/\t<M.nt):Alike (M.fenced t) (R.fenced t.toNat):=by
 obtain ⟨a,rfl⟩:=Int.eq_ofNat_of_zero_le ht.1
 have ha:a<M.nt:=by omega
 show Alike ((M.taken a).Ck (M.fl a)) (R.fenced a)
 exact {h with
  kept:=fun i hi=>by
   show(if(M.fl a).contains ((i/8:Nat):Int)then M.seen i else M.kept i)=if i/8<R.n/\R.fl a (i/8)=true then R.seen i else R.kept i
   have hi:i<8*M.n:=hi;have h8:i/8<M.n:=by omega
   have:=h.fl a ha (i/8) h8;by_cases c:R.fl a (i/8)=true
   . rw [if_pos (by simpa using this.1 c),if_pos ⟨by rw [<-h.n];exact h8,c⟩,h.seen i hi]
   . rw [if_neg (fun q=>c (this.2 (by simpa using q))),if_neg (fun q=>c q.2),h.kept i hi]
  fl:=fun x hx j hj=>by
   show(if x=a/\j<R.n/\(x<R.nt\/x=R.nt/\j<0)then false else R.fl x j)=true<->(j:Int)∈nd M.fl a [] x
   have hx:x<M.nt:=hx;have hj:j<M.n:=hj;by_cases e:x=a
   . rw [if_pos ⟨e,by rw [<-h.n];exact hj,Or.inl (by rw [<-h.nt];exact hx)⟩,e,Wb];simp
   . rw [if_neg (fun q=>e q.1),Kb _ _ e];exact h.fl x hx j hj}
theorem Alike.Ma{M:Mv}{R:Rv}(h:Alike M R)(t:Int):Alike (M.Ma t) (R.Ma t):=by
 unfold Mv.Ma Rv.Ma;rw [<-h.nt]
 split
 . rename_i c;refine (h.fenced t ?_).note _ _
   unfold Hb at c;by_cases q:t<0\/(M.nt:Int)<=t
   . rw [if_pos q]at c;omega
   . omega
 . exact h.note _ _
def Rv.YF(M:Rv)(a:Acc):Rv:=
 if a.ki=1 then M.load a.th a.pl
 else if a.ki=2 then M.store a.th a.pl a.ne
 else if a.ki=3 then M.swap a.th a.pl (if a.dn then a.ol else 18446744073709551615 -a.ol) a.ne
 else if a.ki=4 then M.Ka a.th a.pl
 else if a.ki=5 then M.Ma a.th
 else M
def dJ(x y:Acc):Bool:=x.ki==y.ki&&x.th==y.th&&x.pl==y.pl&&x.ol==y.ol&&x.ne==y.ne&&x.dn==y.dn
def ZO(R:Rv)(l:Nat->Acc):Nat->Rv×Nat
 |0=>(R,0)
 |k+1=>((ZO R l k).1.YF (l k),if(ZO R l k).2=k/\(1<=(l k).ki/\(l k).ki<=5)/\dJ ((ZO R l k).1.YF (l k)).la (l k)=true then k+1 else(ZO R l k).2)
theorem An(M:Mv)(x:Acc)(nw:Int)(pu:Bool):(M.Ye x nw pu).wm=M.wm/\(M.Ye x nw pu).m=M.m/\(M.Ye x nw pu).d=M.d:=by
 unfold Mv.Ye Mv.note
 show(if _ then _ else _:Mv).wm=_/\(if _ then _ else _:Mv).m=_/\(if _ then _ else _:Mv).d=_
 split
 . unfold Mv.put;split<;>exact ⟨rfl,rfl,rfl⟩
 . exact ⟨rfl,rfl,rfl⟩
end Go.Proofs.YtfnkmolffhfpoaaGreat
