/- -/
import Derived.Test.YtfnkmolffhfpoaaGreatHp30
import Derived.Test.YtfnkmolffhfpoaaGreatHp16
import Derived.Test.YtfnkmolffhfpoaaGreatHp24
import Derived.Test.YtfnkmolffhfpoaaGreatHp18
import Derived.Laws.CopyRow
import Derived.Test.YtfnkmolffhfpoaaGreatHp29
import Derived.Lib.SliceRun
import Derived.Test.YtfnkmolffhfpoaaGreatHp28
import Derived.Test.YtfnkmolffhfpoaaGreatHp26
set_option linter.unusedVariables false
set_option linter.unusedSimpArgs false
namespace Go.Proofs.YtfnkmolffhfpoaaGreat
open Go.RowKit Go.BigFrame
def Rv.Xe(M:Rv)(q:Nat):Rv:={M with pass:=fun i=>if i<q then 0 else M.pass i}
theorem G1(M:Rv):M.Xe 0=M:=by
 unfold Rv.Xe;have:(fun i=>if i<0 then 0 else M.pass i)=M.pass:=by funext i;rw [if_neg (by omega)]
 rw [this]
theorem cK(M:Rv)(q:Nat):{M.Xe q with pass:=nd (M.Xe q).pass q 0}=M.Xe (q+1):=by
 have:nd (M.Xe q).pass q 0=(M.Xe (q+1)).pass:=by
  funext i
  show nd (fun i=>if i<q then 0 else M.pass i) q 0 i=if i<q+1 then 0 else M.pass i
  by_cases e:i=q
  . rw [e,Wb,if_pos (by omega)]
  . rw [Kb _ _ e];by_cases c:i<q
    . rw [if_pos c,if_pos (by omega)]
    . rw [if_neg c,if_neg (by omega)]
 rw [this];rfl
theorem za.PU{W W':World}{M:Rv}(h:za W M)(x:Acc)
  (hr:W'.heap[M.m]?=some (.cells #[.pointer (some ⟨M.d,0,none⟩), .slice (some ⟨M.pb,0,none⟩) M.np M.c4, .int .i64 M.ck, .int .i64 M.bd, .int .i64 x.ki, .int .i64 x.th, .int .i64 x.pl, .int .u64 x.ol, .int .u64 x.ne, .bool x.dn] 141 (0,0)))
  (hb:∀k,M.own k->k≠M.m->W'.heap[k]?=W.heap[k]?):za W' {M with la:=x}:=by
 have n:=h.ne;have i:∀k,k∈M.blocks->M.own k:=fun k hk=>Or.inl hk
 exact {h with
  row:=hr
  dev:=(hb _ (i _ (by simp [Rv.blocks])) (Ne.symm n.md)).trans h.dev
  kept:=h.kept.keep (hb _ (i _ (by simp [Rv.blocks])) (Ne.symm n.mkb))
  seen:=h.seen.keep (hb _ (i _ (by simp [Rv.blocks])) (Ne.symm n.ms))
  wr:=h.wr.keep (hb _ (i _ (by simp [Rv.blocks])) (Ne.symm n.mw))
  fb:=h.fb.keep (hb _ (i _ (by simp [Rv.blocks])) (Ne.symm n.mf))
  pass:=h.pass.keep (hb _ (i _ (by simp [Rv.blocks])) (Ne.symm n.mp))
  fl:=fun t ht=>(h.fl t ht).keep (hb _ (Or.inr ⟨t,ht,rfl⟩) (fun e=>h.alone t ht (by rw [e];simp [Rv.blocks])))}
def Rv.crashed(M:Rv):Rv:={M.Rn.Xe M.np with la:=⟨0,0,0,0,0,false⟩}
set_option maxRecDepth 100000 in
set_option maxHeartbeats 4000000 in
theorem hH(M:Rv)(W:World)(h:za W M):
  Calls Tryz.prog 71 #[.pointer (some ⟨M.m,0,none⟩)] W (yn M M.crashed undef W):=by
 have hd:W.cell? ⟨M.m,0,none⟩=some (.pointer (some ⟨M.d,0,none⟩)):=(qd h.row).1
 have HC:=Lib.hid (uA M W h);have HP:=Lib.hid h.p1;have HF:Hid (∀N,N=M.Rn->M.crashed={N.Xe N.np with la:=⟨0,0,0,0,0,false⟩}/\N.m=M.m/\N.own=M.own/\N.np=M.np):=Lib.hid fun N e=>by subst e;exact ⟨rfl,rfl,rfl,rfl⟩
 clear h
 go_enter Tryz.func71,Tryz.ntmps71
 go_wp2_with fail
 refine HC.out.mono ?_
 rintro e w ⟨rfl,hm,ht⟩;obtain ⟨N,hN⟩:∃N,N=M.Rn:=⟨_,rfl⟩;rw [<-hN]at hm;obtain ⟨f1,f2,f3,f4⟩:=HF.out N hN;have HE:=Lib.hid f1;have HO:=Lib.hid f3;have HQ:=Lib.hid f4;have HM:=Lib.hid hm;have HT:=Lib.hid ht;clear hm ht hd f1 f3 f4 HF HC hN
 go_wp2_with fail
 go_loopw [2] (fun i wr=>∃q:Nat,q<=N.np/\i= .int .i64 q/\Hid (za wr (N.Xe q)/\Ja M.own W wr)) (fun i _=>N.np -(intOf i).toNat)
 case atStart=>exact ⟨0,Nat.zero_le _,rfl,Lib.hid ⟨by rw [G1];exact HM.out,HT.out⟩⟩
 case round=>
  obtain ⟨q,hq,rfl,HD⟩:=hrel;obtain ⟨x0,x1,x2,x3,x4,x5,x6,x7,x8,x9,xf⟩:=qd HD.out.1.row
  have y1:wr.cell? ⟨M.m,1,none⟩=some (.slice (some ⟨N.pb,0,none⟩) N.np N.c4):=by rw [<-f2];exact x1
  have YQ:(N.Xe q).m=M.m:=f2
  rw [YQ]at x0 x1 x2 x3 x4 x5 x6 x7 x8 x9 xf;have hO:M.own N.pb:=by rw [<-HO.out];exact Or.inl (by simp [Rv.blocks])
  have HOp:=Lib.hid hO;have hO2:M.own N.m:=by rw [<-HO.out];exact Or.inl (by simp [Rv.blocks])
  have HOm:=Lib.hid hO2;have hp:=HP.out;rw [<-HQ.out]at hp;clear hO hO2;by_cases hqn:q<N.np
  . have z1:wr.cell? ⟨N.pb,q,none⟩=some (.int .u64 ((N.Xe q).pass q)):=HD.out.1.pass.cell (k:=q) hqn
    have z3:wr.frozen? ⟨N.pb,q,none⟩=false:=HD.out.1.pass.free q
    have HS:=Lib.hid (HD.out.1.qn q 0);rw [cK N q]at HS;have VI:Hid (za (wr.setCell ⟨N.pb,q,none⟩ (.int .u64 0)) (N.Xe (q+1))):=Lib.hid HS.out;generalize (N.Xe q).pass q=u at*
    have e3:decide ((q:Int)<(N.np:Int))=true:=ga (by omega);have m4:(q:Int)<(N.np:Int):=by omega
    clear HS x0 x1 x2 x3 x4 x5 x6 x7 x8 x9 xf
    go_wp2_with fail
    go_roundw
    case rel=>exact ⟨q+1,by omega,by go_num,Lib.hid ⟨VI.out,HD.out.2.set (fun _=>HOp.out) _ _⟩⟩
    case measure=>simp [intOf];omega
  . obtain rfl:q=N.np:=by omega
    have e3:decide ((N.np:Int)<(N.np:Int))=false:=by simp
    go_wp2_with fail
    go_end0
    have o:∀k,k≠M.m->(((((((wr.setCell ⟨M.m,4,none⟩ (.int .i64 0)).setCell ⟨M.m,5,none⟩ (.int .i64 0)).setCell ⟨M.m,6,none⟩ (.int .i64 0)).setCell ⟨M.m,7,none⟩ (.int .u64 0)).setCell ⟨M.m,8,none⟩ (.int .u64 0)).setCell ⟨M.m,9,none⟩ (.bool false)):World).heap[k]?=wr.heap[k]?:=fun k hk=>
     (aa hk).trans ((aa hk).trans ((aa hk).trans ((aa hk).trans ((aa hk).trans (aa hk)))))
    have qi:=HD.out.1.row
    rw [YQ]at qi;refine ⟨rfl, ?_, ?_⟩
    . rw [HE.out];refine HD.out.1.PU ⟨0,0,0,0,0,false⟩ ?_ (fun k hk Jc=>o k (by rw [YQ]at Jc;exact Jc))
      rw [YQ];exact heap_set _ (heap_set _ (heap_set _ (heap_set _ (heap_set _ (heap_set _ qi)))))
    . have ho:M.own M.m:=Or.inl (by simp [Rv.blocks]);exact (((((HD.out.2.set (fun _=>ho) _ _).set (fun _=>ho) _ _).set (fun _=>ho) _ _).set (fun _=>ho) _ _).set (fun _=>ho) _ _).set (fun _=>ho) _ _
theorem tb.setCells{b n:Nat}:∀(cs:List Value) (o:Nat) (W:World) (f:Nat->Value),tb W b n f->tb (W.setCells b o cs) b n (fun k=>if o<=k/\k<o+cs.length then cs.getD (k -o) undef else f k)
 |[],o,W,f,h=>h.congr fun k _=>by simp only [List.length_nil,Nat.add_zero];rw [if_neg (by omega)]
 |v::r,o,W,f,h=>by
  refine (tb.setCells r (o+1) _ _ (h.set o v)).congr fun k hk=> ?_
  simp only [List.length_cons];by_cases e:k=o
  . subst e;rw [if_neg (by omega),if_pos (by omega),Wb];simp
  . by_cases c:o+1<=k/\k<o+1+r.length
    . rw [if_pos c,if_pos (by omega)];obtain ⟨j,rfl⟩:∃j,k=o+1+j:=⟨k -(o+1),by omega⟩;rw [show o+1+j -(o+1)=j by omega,show o+1+j -o=j+1 by omega];rfl
    . rw [if_neg c,Kb _ _ e,if_neg (by omega)]
theorem Ja.vt{F:Nat->Prop}{a:World}{b:Nat}(hb:b<a.heap.size->F b):∀(cs:List Value) (o:Nat) (w:World),Ja F a w->Ja F a (w.setCells b o cs)
 |[],_,_,h=>h
 |v::r,o,w,h=>Ja.vt hb r (o+1) _ (h.set hb o v)
theorem jj{b k:Nat}(hk:k≠b):∀(cs:List Value) (o:Nat) (w:World),(w.setCells b o cs).heap[k]?=w.heap[k]?
 |[],_,_=>rfl
 |v::r,o,w=>(jj hk r (o+1) _).trans (aa hk)
theorem vA{P:Program}(w:World)(dT sT ty elem:TypeId)(b o Tah laK:Nat)(a:Addr)(gF AR z:Nat)(cs:List Value)
  (hu:P.underlying dT=some (.slice elem))(hs:(P.info? elem).map (·.size)=some z)(hn:cs.length=Nat.min gF Tah*z)
  (maK:∀j v,cs[j]?=some v->w.cell? (a.add j)=some v)(hc:∀j,j<cs.length->(w.cell? ⟨b,o+j,none⟩).isSome=true)(hf:∀j,j<cs.length->w.frozen? ⟨b,o+j,none⟩=false)(h1:∀v∈cs,v.oneCell'=true):
  (Builtin.copy_ #[dT,sT] ty #[.slice (some ⟨b,o,none⟩) Tah laK, .slice (some a) gF AR]).run P w= .ok (goInt (Nat.min gF Tah)) (w.setCells b o cs):=by
 have hl:=run_loadCells_list (P:=P) w a cs maK;have KA:=run_storeCells_cells (P:=P) b o cs 0 w (by simpa using hc) (by simpa using hf) h1;cases hq:P.info? elem with
 |none=>simp [hq]at hs
 |some i=>
  have hi:i.size=z:=by simpa [hq]using hs
  simp [Builtin.copy_,run_underlying hu,Builtin.lenOf,Builtin.firstCells,sizeOf,typeInfo,hq,hi,<-hn,hl,KA]
theorem QU(M:Mv)(i:Nat)(hi:i<M.n)(W:World)(h:Ga W M)(hw:M.wr i<M.wm)(hm:M.wm<=1000000):
  Calls Tryz.prog 68 #[.pointer (some ⟨M.d,0,none⟩), .int .i64 i] W (Xq M (M.Zq i) W):=by
 have HL:=Lib.hid (Ns M.d (some ⟨M.sb,0,none⟩) M.n M.c1 i W (by rw [Wa h.dev];rfl));have HB:=Lib.hid (tL M i hi W h hw hm);have e1:Rh M.n (i:Int)=0:=by unfold Rh;rw [if_neg (by omega)]
 rw [e1]at HL;clear h hw hm e1 hi
 go_enter Tryz.func68,Tryz.ntmps68
 go_wp2_with fail
 refine HL.out.mono ?_
 rintro e w1 ⟨rfl,hw⟩;cases hw
 go_wp2_with fail
 refine HB.out.mono ?_
 rintro e w1 ⟨⟨x,rfl⟩,hm,ht⟩;have HM:=Lib.hid hm;have HT:=Lib.hid ht;clear hm ht
 go_wp2_with fail
 go_ret
 exact ⟨⟨_,rfl⟩,HM.out,HT.out⟩
def Mv.kj(M:Mv)(k:Nat):Mv:={M with fl:=fun t=>if t<k then[]else M.fl t,fv:=fun t=>if t<k then .slice none 0 0 else M.fv t}
theorem dK(M:Mv):M.kj 0=M:=by simp [Mv.kj]
theorem eK(M:Mv)(k:Nat):(M.kj k).taken k=M.kj (k+1):=by
 unfold Mv.kj Mv.taken
 congr 1
 . funext t
   by_cases e:t=k
   . subst e;rw [Wb,if_pos (by omega)]
   . rw [Kb _ _ e]
     show(if t<k then[]else M.fl t)=_
     by_cases c:t<k
     . rw [if_pos c,if_pos (by omega)]
     . rw [if_neg c,if_neg (by omega)]
 . funext t
   by_cases e:t=k
   . subst e;rw [Wb,if_pos (by omega)]
   . rw [Kb _ _ e]
     show(if t<k then Value.slice none 0 0 else M.fv t)=_
     by_cases c:t<k
     . rw [if_pos c,if_pos (by omega)]
     . rw [if_neg c,if_neg (by omega)]
def Mv.wi(M:Mv):Mv:={M with seen:=M.kept}
def Mv.Fg(M:Mv):Mv:=M.wi.kj M.nt
def zm(M:Mv):List Value:=(List.range (8*M.n)).map fun k=> .int .u64 (M.kept k)
theorem Oo(M:Mv):(zm M).length=8*M.n:=by simp [zm]
theorem EB(M:Mv)(j:Nat)(h:j<8*M.n):(zm M)[j]?=some (.int .u64 (M.kept j)):=by simp [zm,h]
theorem jQ(M:Mv):∀u∈zm M,u.oneCell'=true:=fun u hu=>by
 obtain ⟨_,_,rfl⟩:=List.mem_map.1 hu;rfl
theorem kQ(M:Mv)(W:World)(h:Ga W M):Ga (W.setCells M.sb 0 (zm M)) M.wi:=by
 have n:=h.ne;have o:∀k,k≠M.sb->(W.setCells M.sb 0 (zm M)).heap[k]?=W.heap[k]?:=fun k hk=>jj hk _ _ _
 exact {h with
  row:=(o _ n.ms).trans h.row
  dev:=(o _ n.ds).trans h.dev
  kept:=h.kept.keep (o _ n.ks)
  seen:=by
   refine tb.congr (tb.setCells (zm M) 0 W _ h.seen) fun k hk=> ?_
   have hk:k<8*M.n:=hk;rw [Oo,if_pos (by omega),Nat.sub_zero,List.getD_eq_getElem?_getD,EB M k hk];rfl
  wr:=h.wr.keep (o _ (Ne.symm n.sw))
  fb:=h.fb.keep (o _ (Ne.symm n.sf))
  pass:=h.pass.keep (o _ (Ne.symm n.sp))
  fl:=fun t ht=>(h.fl t ht).keep fun g hg=>o g (fun e=>h.alone t ht g hg (by rw [e];simp [Mv.blocks]))}
set_option maxRecDepth 100000 in
set_option maxHeartbeats 1000000 in
theorem iH(M:Mv)(W:World)(h:Ga W M):
  Calls Tryz.prog 175 #[.pointer (some ⟨M.d,0,none⟩)] W fun e W'=>e= .returned (.tuple #[])/\Se M M.Fg W W':=by
 have hp:∀nq ty,(Builtin.copy_ #[176,176] ty #[.slice (some ⟨M.sb,0,none⟩) M.n M.c1, .slice (some ⟨M.kb,0,none⟩) M.n M.c0]).run Tryz.prog (W.drewN nq)= .ok (goInt (Nat.min M.n M.n)) ((W.drewN nq).setCells M.sb 0 (zm M)):=fun nq ty=>
  vA (P:=Tryz.prog) (W.drewN nq) 176 176 ty 259 M.sb 0 M.n M.c1 ⟨M.kb,0,none⟩ M.n M.c0 8 (zm M) Tryz.underlying176 (by kernel_rfl) (by rw [Oo];show 8*M.n=min M.n M.n*8;rw [Nat.min_self];omega)
   (fun j v hv=>by
     have hj:j<8*M.n:=by have:=(List.getElem?_eq_some_iff.1 hv).1;rwa [Oo]at this
     rw [EB M j hj]at hv;cases hv;have:=h.kept.cell hj;unfold Addr.add
     split
     . rename_i e;subst e;exact this
     . simpa using this)
   (fun j hj=>by rw [Oo]at hj;have:=h.seen.cell hj;rw [Nat.zero_add];exact (congrArg Option.isSome this).trans rfl)
   (fun j hj=>by rw [Nat.zero_add];exact h.seen.free j) (jQ M)
 have q0:=ma h.dev 0 _ rfl;have q1:=ma h.dev 1 _ rfl;have HA:Hid (∀nq,Se M M.wi W ((W.drewN nq).setCells M.sb 0 (zm M))):=Lib.hid fun nq=>by
  have hb:Below W.heap.size W (W.drewN nq):=⟨rfl,rfl,rfl,Nat.le_refl _,fun _ _=>rfl⟩;have ht:Ja M.own W (W.drewN nq):=Ja.jc hb;exact ⟨kQ M _ (h.below hb),Ja.vt (fun _=>Or.inl (by simp [Mv.blocks])) _ _ _ ht,fun k hk=>Or.inl hk⟩
 obtain ⟨cs,Cs⟩:∃cs,cs=zm M:=⟨_,rfl⟩;rw [<-Cs]at HA hp;have hnt:=h.t1;clear h Cs
 go_enter Tryz.func175,Tryz.ntmps175
 go_wp2_with fail
 refine Be 0 8 (by kernel_rfl) (by kernel_rfl) (fun _ _ d _ _ h=>by cases d<;>exact h) ?_
 simp only [List.take_succ_cons,List.take_zero,List.drop_succ_cons,List.drop_zero,Nat.reduceAdd]
 repeat (first|go_big_quiet_skip|(go_big_quiet_want;go_big_quiet_op;go_big_quiet_on))
 refine wpQuiet_nil ?_
 repeat (first|go_big_quiet_skip|(go_big_quiet_want;go_big_quiet_op;first|go_big_quiet_on))
 refine wpQuiet_nil ?_
 rintro _ ⟨nq,rfl⟩;have WH:=hp nq;have HI:=Lib.hid (HA.out nq);clear hp;generalize (W.drewN nq).setCells M.sb 0 cs=W1 at*
 have r3:W1.cell? ⟨M.d,3,none⟩=some (.slice (some ⟨M.fb,0,none⟩) M.nt M.c3):=ma HI.out.1.dev 3 _ rfl
 have HZ:Hid (Se M (M.wi.kj 0) W W1):=Lib.hid (by rw [dK];exact HI.out);have HE:Hid (M.Fg=M.wi.kj M.nt):=Lib.hid rfl;clear HA q0 q1
 go_wp2_with fail
 go_loopw [19] (fun i wr=>∃k:Nat,k<=M.nt/\i= .int .i64 k/\Hid (Se M (M.wi.kj k) W wr)) (fun i _=>M.nt -(intOf i).toNat)
 case atStart=>exact ⟨0,Nat.zero_le _,rfl,HZ⟩
 case round=>
  obtain ⟨k,hk,rfl,HK⟩:=hrel;by_cases Db:k<M.nt
  . have r3:wr.cell? ⟨M.d,3,none⟩=some (.slice (some ⟨M.fb,0,none⟩) M.nt M.c3):=ma HK.out.1.dev 3 _ rfl
    have HT:=Lib.hid (wL (M.wi.kj k) k Db wr HK.out.1);rw [eK]at HT;have cY:(M.wi.kj k).fb=M.fb:=rfl
    rw [cY]at HT;have i0:(0:Int)<=(k:Int):=by omega
    have i1:(k:Int)<(M.nt:Int):=by omega
    have i2:decide ((k:Int)<(M.nt:Int))=true:=ga i1;generalize (M.wi.kj k).fv k=vv at*
    go_wp2_with fail
    refine HT.out.mono ?_
    rintro e w2 ⟨rfl,hm,hl⟩;have HK2:=Lib.hid (HK.out.trans hm);clear hm hl
    go_wp2_with fail
    go_roundw
    case rel=>exact ⟨k+1,by omega,by go_num,HK2⟩
    case measure=>simp [intOf];omega
  . obtain rfl:k=M.nt:=by omega
    have i2:decide ((M.nt:Int)<(M.nt:Int))=false:=by simp
    go_wp2_with fail
    go_end0
    exact ⟨rfl,by rw [HE.out];exact HK.out⟩
theorem RU{W:World}{m:Nat}{k0 k1 k2 k3 k4 k5 k6 k7 k8 k9 a4 a5 a6 a7 a8 a9:Value}{t:TypeId}{f:Nat×Nat}(h:W.heap[m]?=some (.cells #[k0,k1,k2,k3,k4,k5,k6,k7,k8,k9] t f)):
  ((((((W.setCell ⟨m,4,none⟩ a4).setCell ⟨m,5,none⟩ a5).setCell ⟨m,6,none⟩ a6).setCell ⟨m,7,none⟩ a7).setCell ⟨m,8,none⟩ a8).setCell ⟨m,9,none⟩ a9).heap[m]?=some (.cells #[k0,k1,k2,k3,a4,a5,a6,a7,a8,a9] t f):=by
 have h4:=heap_set (j:=4) a4 h;have h5:=heap_set (j:=5) a5 h4;have h6:=heap_set (j:=6) a6 h5;have h7:=heap_set (j:=7) a7 h6;have h8:=heap_set (j:=8) a8 h7;have h9:=heap_set (j:=9) a9 h8;rw [h9];rfl
def Uah:Acc:=⟨0,0,0,0,0,false⟩
def Mv.su(M:Mv):Mv:={M.Fg with pass:=fun _=>0,la:=Uah}
def Xe(n:Nat):List Value:=List.replicate n (.int .u64 0)
theorem lQ(M:Mv)(W:World)(h:Ga W M):Ga (W.setCells M.pb 0 (Xe M.np)) {M with pass:=fun _=>0}:=by
 have n:=h.ne;have o:∀k,k≠M.pb->(W.setCells M.pb 0 (Xe M.np)).heap[k]?=W.heap[k]?:=fun k hk=>jj hk _ _ _
 exact {h with
  row:=(o _ n.mp).trans h.row
  dev:=(o _ n.dp).trans h.dev
  kept:=h.kept.keep (o _ n.kp)
  seen:=h.seen.keep (o _ n.sp)
  wr:=h.wr.keep (o _ n.wp)
  fb:=h.fb.keep (o _ n.fp)
  pass:=by
   refine tb.congr (tb.setCells (Xe M.np) 0 W _ h.pass) fun k hk=> ?_
   have hk:k<M.np:=hk;rw [Xe,List.length_replicate,if_pos (by omega),Nat.sub_zero,List.getD_eq_getElem?_getD,List.getElem?_replicate,if_pos hk];rfl
  fl:=fun t ht=>(h.fl t ht).keep fun g hg=>o g (fun e=>h.alone t ht g hg (by rw [e];simp [Mv.blocks]))}
theorem I1(M:Mv)(W:World)(h:Ga W M):Ga ((((((W.setCell ⟨M.m,4,none⟩ (.int .i64 0)).setCell ⟨M.m,5,none⟩ (.int .i64 0)).setCell ⟨M.m,6,none⟩ (.int .i64 0)).setCell ⟨M.m,7,none⟩ (.int .u64 0)).setCell ⟨M.m,8,none⟩ (.int .u64 0)).setCell ⟨M.m,9,none⟩ (.bool false)) {M with la:=Uah}:=by
 have n:=h.ne;have o:∀k,k≠M.m->((((((W.setCell ⟨M.m,4,none⟩ (.int .i64 0)).setCell ⟨M.m,5,none⟩ (.int .i64 0)).setCell ⟨M.m,6,none⟩ (.int .i64 0)).setCell ⟨M.m,7,none⟩ (.int .u64 0)).setCell ⟨M.m,8,none⟩ (.int .u64 0)).setCell ⟨M.m,9,none⟩ (.bool false)).heap[k]?=W.heap[k]?:=fun k hk=>
  (aa hk).trans ((aa hk).trans ((aa hk).trans ((aa hk).trans ((aa hk).trans (aa hk)))))
 exact {h with
  row:=RU h.row
  dev:=(o _ (Ne.symm n.md)).trans h.dev
  kept:=h.kept.keep (o _ (Ne.symm n.mkb))
  seen:=h.seen.keep (o _ (Ne.symm n.ms))
  wr:=h.wr.keep (o _ (Ne.symm n.mw))
  fb:=h.fb.keep (o _ (Ne.symm n.mf))
  pass:=h.pass.keep (o _ (Ne.symm n.mp))
  fl:=fun t ht=>(h.fl t ht).keep fun g hg=>o g (fun e=>h.alone t ht g hg (by rw [e];simp [Mv.blocks]))}
set_option maxRecDepth 100000 in
theorem J1(M:Mv)(W:World)(h:Ga W M)(Zj:0<M.np):
  Calls Tryz.prog 69 #[.pointer (some ⟨M.m,0,none⟩)] W fun e W'=>e= .returned (.tuple #[])/\Se M M.su W W':=by
 have HC:=Lib.hid (iH M W h);have q0:=ma h.row 0 _ rfl;have HE:Hid (M.su={{M.Fg with pass:=fun _=>0}with la:=Uah}):=Lib.hid rfl;clear h
 go_enter Tryz.func69,Tryz.ntmps69
 go_wp2_with fail
 refine HC.out.mono ?_
 rintro e w1 ⟨rfl,hi⟩;have r1:w1.cell? ⟨M.m,1,none⟩=some (.slice (some ⟨M.pb,0,none⟩) M.np M.c4):=ma hi.1.row 1 _ rfl
 have Iq:∀ty,(Builtin.clear_ #[99] ty #[.slice (some ⟨M.pb,0,none⟩) M.np M.c4]).run Tryz.prog w1= .ok (.tuple #[]) (w1.setCells M.pb 0 (Xe M.np)):=fun ty=>
  Lib.run_clear_slice w1 99 43 ty (.int .u64 0) Tryz.underlying99 (fun w=>by kernel_rfl) rfl rfl M.pb 0 M.np M.c4 Zj
   (fun j hj=>by have:=hi.1.pass.cell hj;rw [Nat.zero_add];exact (congrArg Option.isSome this).trans rfl)
   (fun j hj=>by rw [Nat.zero_add];exact hi.1.pass.free j)
 have HI:Hid (Se M {M.Fg with pass:=fun _=>0} W (w1.setCells M.pb 0 (Xe M.np))):=Lib.hid
  (hi.trans ⟨lQ M.Fg w1 hi.1,Ja.vt (fun _=>Or.inl (by simp [Mv.blocks,Mv.Fg,Mv.kj,Mv.wi])) _ _ _ (Ja.refl _ _),fun k hk=>Or.inl hk⟩)
 clear hi q0;obtain ⟨cs,Cs⟩:∃cs,cs=Xe M.np:=⟨_,rfl⟩;rw [<-Cs]at Iq HI;clear Cs;generalize w1.setCells M.pb 0 cs=w2 at*;have HL:=Lib.hid (I1 _ w2 HI.out.1);have rf:∀j,w2.frozen? ⟨M.m,j,none⟩=false:=fun j=>by unfold World.frozen?;rw [show w2.heap[M.m]?=_ from HI.out.1.row];simp
 have r4:w2.cell? ⟨M.m,4,none⟩=_:=ma HI.out.1.row 4 _ rfl
 have r5:w2.cell? ⟨M.m,5,none⟩=_:=ma HI.out.1.row 5 _ rfl
 have r6:w2.cell? ⟨M.m,6,none⟩=_:=ma HI.out.1.row 6 _ rfl
 have r7:w2.cell? ⟨M.m,7,none⟩=_:=ma HI.out.1.row 7 _ rfl
 have r8:w2.cell? ⟨M.m,8,none⟩=_:=ma HI.out.1.row 8 _ rfl
 have r9:w2.cell? ⟨M.m,9,none⟩=_:=ma HI.out.1.row 9 _ rfl
 go_wp2_with fail
 go_end0
 refine ⟨rfl, ?_⟩;rw [HE.out];refine HI.out.trans ⟨HL.out, ?_,fun k hk=>Or.inl hk⟩;have hm:Mv.own {M.Fg with pass:=fun _=>0} M.m:=Or.inl (by simp [Mv.blocks,Mv.Fg,Mv.kj,Mv.wi]);exact ((((((Ja.refl _ _).set (fun _=>hm) 4 _).set (fun _=>hm) 5 _).set (fun _=>hm) 6 _).set (fun _=>hm) 7 _).set (fun _=>hm) 8 _).set (fun _=>hm) 9 _
end Go.Proofs.YtfnkmolffhfpoaaGreat
namespace Go.Proofs.YtfnkmolffhfpoaaGreat
namespace Sk
open Go.RowKit Go.BigFrame
set_option maxRecDepth 100000 in
theorem SU(M:Mv)(i:Int)(hi:¬(0<=i/\i<(M.n:Int)))(W:World)(h:Ga W M):
  Calls Tryz.prog 68 #[.pointer (some ⟨M.d,0,none⟩), .int .i64 i] W fun e W'=>(∃v,e= .returned v)/\W'=W:=by
 obtain ⟨x,hx⟩:∃x,x=Rh M.n i:=⟨_,rfl⟩;have HL:=Lib.hid (Ns M.d (some ⟨M.sb,0,none⟩) M.n M.c1 i W (by rw [Wa h.dev];rfl));have Jc:x≠0:=by rw [hx];unfold Rh;rw [if_pos (by omega)];decide
 rw [<-hx]at HL;have d1:(x != 0)=true:=by simp [Jc]
 clear hx hi h
 go_enter Tryz.func68,Tryz.ntmps68
 go_wp2_with fail
 refine HL.out.mono ?_
 rintro e w1 ⟨rfl,hw⟩;cases hw
 go_wp2_with fail
 go_ret
 exact ⟨⟨_,rfl⟩,rfl⟩
set_option maxRecDepth 100000 in
theorem xt(M:Rv)(l:Int)(hi:¬(0<=l/\l<(M.n:Int)))(W:World)(h:za W M):
  Calls Tryz.prog 70 #[.pointer (some ⟨M.d,0,none⟩), .int .i64 2, .int .i64 0, .int .i64 l] W fun e W'=>(∃v,e= .returned v)/\W'=W:=by
 obtain ⟨y0,y1,y2,y3⟩:=Mb h.dev;by_cases h0:l<0
 . have d0:decide (l<0)=true:=ga h0;clear h0 hi h
   go_enter Tryz.func70,Tryz.ntmps70
   go_wp2_with fail
   go_ret
   exact ⟨⟨_,rfl⟩,rfl⟩
 . have d0:decide (l<0)=false:=ua h0;have d1:decide ((M.n:Int)<=l)=true:=ga (by omega);clear h0 hi h
   go_enter Tryz.func70,Tryz.ntmps70
   go_wp2_with fail
   go_ret
   exact ⟨⟨_,rfl⟩,rfl⟩
def pf(A:Rv)(k t a o x:Int):Rv:=
 if k=1 then A.load t a else if k=2 then A.store t a x else if k=3 then A.swap t a o x else if k=4 then A.Ka t a else if k=5 then A.Ma t
 else if k=6 then(if 0<=a/\a<(A.n:Int)then A.Tj (fun j=>decide (j=a.toNat)) A.n else A)else A.crashed
theorem Qas{W:World}{M:Mv}(h:Ga W M):Ga W {M with wm:=M.wm+1}:={h with ZA:=fun k hk=>by have:=h.ZA k hk;exact ⟨this.1,by show M.wr k<=M.wm+1;omega⟩}
theorem jd.jH{M:Mv}{A:Rv}(h:jd M A)(i:Nat)(hi:i<M.n):jd (({M with wm:=M.wm+1}:Mv).Zq i) (A.Tj (fun j=>decide (j=i)) A.n):=by
 have hn:=h.Md.n;unfold Mv.Zq Rv.Tj;refine ⟨⟨h.Md.n,h.Md.nt,h.Md.np,h.Md.seen,fun k hk=> ?_,h.Md.pass,h.Md.fl,h.Md.ck,h.Md.bd,h.Md.la⟩,fun k hk=> ?_, ?_⟩
 . show(if k/8=i then M.seen k else M.kept k)=(if k/8<A.n/\decide (k/8=i)=true then A.seen k else A.kept k)
   have hk:k<8*M.n:=hk;by_cases e:k/8=i
   . rw [if_pos e,if_pos ⟨by omega,decide_eq_true e⟩,h.Md.seen k hk]
   . rw [if_neg e,if_neg (fun x=>e (of_decide_eq_true x.2)),h.Md.kept k hk]
 . show nd M.wr i (M.wr i+1) k=(if k<A.n/\decide (k=i)=true then A.wr k+1 else A.wr k)
   have hk:k<M.n:=hk;unfold nd;by_cases e:k=i
   . rw [if_pos e,if_pos ⟨by omega,decide_eq_true e⟩,<-h.wr k hk,e]
   . rw [if_neg e,if_neg (fun x=>e (of_decide_eq_true x.2)),h.wr k hk]
 . show M.wm+1<=A.wm+1
   have:=h.wm;omega
theorem jd.su{M:Mv}{A:Rv}(h:jd M A):jd M.su A.crashed:=by
 have hn:=h.Md.n;unfold Mv.su Mv.Fg Mv.kj Mv.wi Rv.crashed Rv.Xe Rv.Rn Rv.back Rv.gone;refine ⟨⟨h.Md.n,h.Md.nt,h.Md.np,fun k hk=> ?_,h.Md.kept,fun k hk=> ?_,fun t ht j hj=> ?_,h.Md.ck,h.Md.bd,rfl⟩,h.wr,h.wm⟩
 . show M.kept k=(if k<8*A.n then A.kept k else A.seen k)
   have hk:k<8*M.n:=hk;rw [if_pos (by omega),h.Md.kept k hk]
 . show(0:Int)=(if k<A.np then 0 else A.pass k)
   have hk:k<M.np:=hk;have:=h.Md.np;rw [if_pos (by omega)]
 . show((if j<A.n/\(t<A.nt\/t=A.nt/\j<0)then false else A.fl t j)=true<->(j:Int)∈(if t<M.nt then[]else M.fl t))
   have ht:t<M.nt:=ht;have hj:j<M.n:=hj;have:=h.Md.nt;rw [if_pos ⟨by omega, .inl (by omega)⟩,if_pos ht];simp
theorem Rb.jH{R A:Rv}(h:Rb R A)(i:Nat):Rb (R.Tj (fun j=>decide (j=i)) R.n) (A.Tj (fun j=>decide (j=i)) A.n):=by
 unfold Rv.Tj;constructor
 all_goals first|exact h.n|exact h.nt|exact h.np|exact h.seen|exact h.pass|exact h.fl|exact h.ck|exact h.bd|exact h.la|(show R.wm+1=A.wm+1;rw [h.wm])|skip
 . show(fun i'=>if i'/8<R.n/\_ then R.seen i' else R.kept i')=(fun i'=>if i'/8<A.n/\_ then A.seen i' else A.kept i')
   rw [h.n,h.seen,h.kept]
 . show(fun j=>if j<R.n/\_ then R.wr j+1 else R.wr j)=(fun j=>if j<A.n/\_ then A.wr j+1 else A.wr j)
   rw [h.n,h.wr]
theorem Rb.crashed{R A:Rv}(h:Rb R A):Rb R.crashed A.crashed:=by
 obtain ⟨h1,h2,h3,h4,h5,h6,h7,h8,h9,h10,h11,h12⟩:=h;unfold Rv.crashed Rv.Xe Rv.Rn Rv.back Rv.gone;refine ⟨h1,h2,h3,h4, ?_, ?_,h7, ?_,h9,h10,rfl,h12⟩
 . show(fun i=>if i<8*R.n then R.kept i else R.seen i)=(fun i=>if i<8*A.n then A.kept i else A.seen i)
   rw [h1,h4,h5]
 . show(fun i=>if i<R.np then 0 else R.pass i)=(fun i=>if i<A.np then 0 else A.pass i)
   rw [h3,h6]
 . show(fun x y=>if y<R.n/\(x<R.nt\/x=R.nt/\y<0)then false else R.fl x y)=(fun x y=>if y<A.n/\(x<A.nt\/x=A.nt/\y<0)then false else A.fl x y)
   rw [h1,h2,h8]
theorem Wd.jH{A:Rv}(h:Wd A)(i:Nat)(hw:A.wm<=1999999):Wd (A.Tj (fun j=>decide (j=i)) A.n):=by
 unfold Rv.Tj;refine ⟨h.seen,fun k=> ?_,h.pass,h.Cm,h.ck, ?_, ?_⟩
 . show ud (if k/8<A.n/\decide (k/8=i)=true then A.seen k else A.kept k)
   split
   . exact h.seen k
   . exact h.kept k
 . show 0<=A.wm+1
   have:=h.WQ;omega
 . show A.wm+1<=2000000
   omega
theorem Wd.crashed{A:Rv}(h:Wd A):Wd A.crashed:=by
 unfold Rv.crashed Rv.Xe Rv.Rn Rv.back Rv.gone;refine ⟨fun k=> ?_,h.kept,fun k=> ?_,h.Cm,h.ck,h.WQ,h.wm⟩
 . show ud (if k<8*A.n then A.kept k else A.seen k)
   split
   . exact h.kept k
   . exact h.seen k
 . show ud (if k<A.np then 0 else A.pass k)
   split
   . exact u0
   . exact h.pass k
def zt(M:Mv)(A:Rv)(W:World)(W':World):Prop:=∃M':Mv,Ga W' M'/\M'.m=M.m/\jd M' A/\(∀j,M'.own j->M.own j\/W.heap.size<=j)/\Ja M.own W W'
theorem zt.from{M:Mv}{A:Rv}{W W1 W':World}(ht:Ja M.own W W1)(h:zt M A W1 W'):zt M A W W':=by
 obtain ⟨M',h1,h2,h3,h4,h5⟩:=h;refine ⟨M',h1,h2,h3,fun j hj=>(h4 j hj).imp id fun k=>Nat.le_trans ht.size k,ht.trans h5 fun k _ hk=>hk⟩
set_option maxHeartbeats 1000000 in
set_option maxRecDepth 100000 in
theorem naK(M:Mv)(A:Rv)(k t a o x:Int)(q0:-9223372036854775808<=a)(q1:a<=9223372036854775807)(W:World)(h:Ga W M)(hl:jd M A)(hw:Wd A)(hc:A.ck<=999900)(hm:A.wm<=999900)(Zj:0<M.np):
  Calls Tryz.prog 12 #[.pointer (some ⟨M.m,0,none⟩), .agg #[.int .i64 k, .int .i64 t, .int .i64 a, .int .u64 o, .int .u64 x]] W fun e W'=>(∃v,e= .returned v)/\zt M (pf A k t a o x) W W':=by
 have jg:M.ck<=1000000:=by rw [hl.Md.ck];omega
 have ct:M.wm<=999999:=by have:=hl.wm;omega
 have hn:=hl.Md.n;obtain ⟨W1,mg⟩:∃W1,W1=(W.alloc (.cells #[.int .i64 k, .int .i64 t, .int .i64 a, .int .u64 o, .int .u64 x] 45)):=⟨_,rfl⟩;have Jm:W1.heap[W.heap.size]?=some (.cells #[.int .i64 k, .int .i64 t, .int .i64 a, .int .u64 o, .int .u64 x] 45 (0,0)):=by rw [mg];exact heap_alloc_new _ _
 have z0:=ma Jm 0 _ rfl;have z1:=ma Jm 1 _ rfl;have z2:=ma Jm 2 _ rfl;have z3:=ma Jm 3 _ rfl;have z4:=ma Jm 4 _ rfl;have h1:Ga W1 M:=by rw [mg];exact h.below ((Below.refl _ _).alloc (Nat.le_refl _) _)
 have HT:Hid (Ja M.own W W1):=Lib.hid (by rw [mg];exact (Ja.refl _ _).alloc _);have HH:=Lib.hid h1;have HW:=Lib.hid mg;have HG:Hid (∀(f:Value->Mv) (W':World) (A':Rv),(∃v,Se M (f v) W1 W')->(∀v,(f v).m=M.m)->(∀v,jd (f v) A')->zt M A' W1 W'):=Lib.hid fun f W' A' ⟨v,i1,i2,i3⟩ j1 j2=>⟨f v,i1,j1 v,j2 v,i3,i2⟩
 have HD:Hid (∀(M':Mv) (W':World) (A':Rv),Ga W' M'->Ja M.own W1 W'->M'.own=M.own->M'.m=M.m->jd M' A'->zt M A' W1 W'):=Lib.hid fun M' W' A' i1 i2 i3 i4 i5=>⟨M',i1,i4,i5,fun j hj=> .inl (by rw [i3]at hj;exact hj),i2⟩
 have ZQ:∀v,(M.Ka t a v).m=M.m:=fun v=>by unfold Mv.Ka;split<;>rfl
 have aR:(M.Ma t).m=M.m:=by unfold Mv.Ma;split<;>rfl
 clear Jm mg h;by_cases c1:k=1
 . subst c1;have HC:=Lib.hid (JS M t a q0 q1 W1 h1 jg);have HA:Hid (pf A 1 t a o x=A.load t a):=Lib.hid (by simp [pf]);have HL:Hid ((M.load t a).m=M.m/\jd (M.load t a) (A.load t a)):=Lib.hid (⟨(An M _ _ _).2.1,hl.Ye _ _ _⟩);clear h1 hl hw hc hm Zj jg ct hn ZQ aR
   go_enter Tryz.func12,Tryz.ntmps12
   go_upto_region 1 with fail
   rw [<-HW.out]
   go_wp2_with fail
   refine HC.out.mono ?_
   rintro e w1 ⟨rfl,m1,m2⟩;have HM:=Lib.hid (HD.out _ _ _ m1 m2 (by unfold Mv.load;exact Mv.Bj _ _ _ _) HL.out.1 HL.out.2);clear m1 m2
   go_wp2_with fail
   go_end0
   exact ⟨⟨_,rfl⟩,by rw [HA.out];exact HM.out.from HT.out⟩
 by_cases c2:k=2
 . subst c2;have HC:=Lib.hid (oL M t a x q0 q1 W1 h1 jg);have HA:Hid (pf A 2 t a o x=A.store t a x):=Lib.hid (by simp [pf]);have HL:Hid ((M.store t a x).m=M.m/\jd (M.store t a x) (A.store t a x)):=Lib.hid (⟨(An M _ _ _).2.1,hl.Ye _ _ _⟩);clear h1 hl hw hc hm Zj jg ct hn ZQ aR
   go_enter Tryz.func12,Tryz.ntmps12
   go_upto_region 1 with fail
   rw [<-HW.out]
   go_wp2_with fail
   refine HC.out.mono ?_
   rintro e w1 ⟨⟨u,rfl⟩,m1,m2⟩;have HM:=Lib.hid (HD.out _ _ _ m1 m2 (by unfold Mv.store;exact Mv.Bj _ _ _ _) HL.out.1 HL.out.2);clear m1 m2
   go_wp2_with fail
   go_end0
   exact ⟨⟨_,rfl⟩,by rw [HA.out];exact HM.out.from HT.out⟩
 by_cases c3:k=3
 . subst c3;have HC:=Lib.hid (KS M t a o x q0 q1 W1 h1 jg);have HA:Hid (pf A 3 t a o x=A.swap t a o x):=Lib.hid (by simp [pf]);have HL:Hid ((M.swap t a o x).m=M.m/\jd (M.swap t a o x) (A.swap t a o x)):=Lib.hid (⟨(An M _ _ _).2.1,hl.swap _ _ _ _⟩);clear h1 hl hw hc hm Zj jg ct hn ZQ aR
   go_enter Tryz.func12,Tryz.ntmps12
   go_upto_region 1 with fail
   rw [<-HW.out]
   go_wp2_with fail
   refine HC.out.mono ?_
   rintro e w1 ⟨rfl,m1,m2⟩;have HM:=Lib.hid (HD.out _ _ _ m1 m2 (by unfold Mv.swap;exact Mv.Bj _ _ _ _) HL.out.1 HL.out.2);clear m1 m2
   go_wp2_with fail
   go_end0
   exact ⟨⟨_,rfl⟩,by rw [HA.out];exact HM.out.from HT.out⟩
 by_cases c4:k=4
 . subst c4;have HC:=Lib.hid (tZ M t a q1 W1 h1 jg);have HA:Hid (pf A 4 t a o x=A.Ka t a):=Lib.hid (by simp [pf]);have HL:Hid ((∀v,(M.Ka t a v).m=M.m)/\∀v,jd (M.Ka t a v) (A.Ka t a)):=Lib.hid (⟨ZQ,fun v=>hl.Ka t a v⟩);clear h1 hl hw hc hm Zj jg ct hn ZQ aR
   go_enter Tryz.func12,Tryz.ntmps12
   go_upto_region 1 with fail
   rw [<-HW.out]
   go_wp2_with fail
   refine HC.out.mono ?_
   rintro e w1 ⟨⟨u,rfl⟩,m1⟩;have HM:=Lib.hid (HG.out _ _ _ m1 HL.out.1 HL.out.2);clear m1
   go_wp2_with fail
   go_end0
   exact ⟨⟨_,rfl⟩,by rw [HA.out];exact HM.out.from HT.out⟩
 by_cases c5:k=5
 . subst c5;have HC:=Lib.hid (uZ M t W1 h1 jg ct);have HA:Hid (pf A 5 t a o x=A.Ma t):=Lib.hid (by simp [pf]);have HL:Hid ((∀v:Value,(M.Ma t).m=M.m)/\∀v:Value,jd (M.Ma t) (A.Ma t)):=Lib.hid (⟨fun _=>aR,fun _=>hl.Ma t⟩);clear h1 hl hw hc hm Zj jg ct hn ZQ aR
   go_enter Tryz.func12,Tryz.ntmps12
   go_upto_region 1 with fail
   rw [<-HW.out]
   go_wp2_with fail
   refine HC.out.mono ?_
   rintro e w1 ⟨⟨u,rfl⟩,m1⟩;have HM:=Lib.hid (HG.out _ _ _ m1 HL.out.1 HL.out.2);clear m1
   go_wp2_with fail
   go_end0
   exact ⟨⟨_,rfl⟩,by rw [HA.out];exact HM.out.from HT.out⟩
 by_cases c6:k=6
 . subst c6;have hB:Hid (∀j,Below W1.heap.size W1 (W1.drewN j)):=Lib.hid fun j=>xb (Below.refl _ _) j
   have HDV:Hid (∀j,Calls Tryz.prog 48 #[.pointer (some ⟨M.m,0,none⟩)] (W1.drewN j) (Gc (.pointer (some ⟨M.d,0,none⟩)) (W1.drewN j))):=Lib.hid fun j=>dH M _ (h1.below (hB.out j))
   have HTJ:Hid (∀j,Ja M.own W1 (W1.drewN j)):=Lib.hid fun j=>⟨rfl,rfl,rfl,Nat.le_refl _,fun _ _ _=>rfl⟩
   by_cases hi:0<=a/\a<(A.n:Int)
   . obtain ⟨i,rfl⟩:=Int.eq_ofNat_of_zero_le hi.1
     have ZX:i<M.n:=by omega
     have HC:Hid (∀j,Calls Tryz.prog 68 #[.pointer (some ⟨M.d,0,none⟩), .int .i64 (i:Int)] (W1.drewN j) (Xq M (({M with wm:=M.wm+1}:Mv).Zq i) (W1.drewN j))):=Lib.hid fun j=>QU {M with wm:=M.wm+1} i ZX _ (Qas (h1.below (hB.out j))) (by show M.wr i<M.wm+1;have:=(h1.ZA i ZX).2;omega) (by show M.wm+1<=1000000;omega)
     have HA:Hid (pf A 6 t (i:Int) o x=A.Tj (fun j=>decide (j=i)) A.n):=Lib.hid (by
      show(if(0:Int)<=(i:Int)/\(i:Int)<(A.n:Int)then A.Tj (fun j=>decide (j=(i:Int).toNat)) A.n else A)=_
      rw [if_pos hi,Int.toNat_natCast])
     have HL:Hid (jd (({M with wm:=M.wm+1}:Mv).Zq i) (A.Tj (fun j=>decide (j=i)) A.n)):=Lib.hid (hl.jH i ZX);clear h1 hl hw hc hm Zj jg ct hn ZQ aR hi ZX
     go_enter Tryz.func12,Tryz.ntmps12
     go_upto_region 1 with fail
     rw [<-HW.out]
     go_wp2_with fail
     refine Be 0 4 (by kernel_rfl) (by kernel_rfl) (fun _ _ d _ _ h=>by cases d<;>exact h) ?_
     simp only [List.take_succ_cons,List.take_zero,List.drop_succ_cons,List.drop_zero,Nat.reduceAdd];refine wpQuiet_nil ?_
     repeat (first|go_big_quiet_skip|(go_big_quiet_want;go_big_quiet_op;first|go_big_quiet_on|go_big_quiet_call ((go_at_call 48;exact Calls.quiet_of_same (HDV.out _)))))
     refine wpQuiet_nil ?_
     rintro _ ⟨j,rfl⟩
     go_wp2_with fail
     refine (HC.out j).mono ?_
     rintro e w1 ⟨⟨u,rfl⟩,m1,m2⟩;have HM:=Lib.hid (HD.out _ _ _ m1 ((HTJ.out j).trans m2 fun k _ hk=>hk) rfl rfl HL.out);clear m1 m2
     go_wp2_with fail
     go_end0
     exact ⟨⟨_,rfl⟩,by rw [HA.out];exact HM.out.from HT.out⟩
   . have HC:Hid (∀j,Calls Tryz.prog 68 #[.pointer (some ⟨M.d,0,none⟩), .int .i64 a] (W1.drewN j) fun e W'=>(∃v,e= .returned v)/\W'=W1.drewN j):=Lib.hid fun j=>SU M a (by rw [hn];exact hi) _ (h1.below (hB.out j))
     have HA:Hid (pf A 6 t a o x=A):=Lib.hid (by
      show(if 0<=a/\a<(A.n:Int)then _ else A)=A
      rw [if_neg hi])
     have HL:=Lib.hid hl;clear h1 hl hw hc hm Zj jg ct hn ZQ aR hi
     go_enter Tryz.func12,Tryz.ntmps12
     go_upto_region 1 with fail
     rw [<-HW.out]
     go_wp2_with fail
     refine Be 0 4 (by kernel_rfl) (by kernel_rfl) (fun _ _ d _ _ h=>by cases d<;>exact h) ?_
     simp only [List.take_succ_cons,List.take_zero,List.drop_succ_cons,List.drop_zero,Nat.reduceAdd];refine wpQuiet_nil ?_
     repeat (first|go_big_quiet_skip|(go_big_quiet_want;go_big_quiet_op;first|go_big_quiet_on|go_big_quiet_call ((go_at_call 48;exact Calls.quiet_of_same (HDV.out _)))))
     refine wpQuiet_nil ?_
     rintro _ ⟨j,rfl⟩
     go_wp2_with fail
     refine (HC.out j).mono ?_
     rintro e w1 ⟨⟨u,rfl⟩,hw1⟩;cases hw1;have HM:=Lib.hid (HD.out M _ _ (HH.out.below (hB.out j)) (HTJ.out j) rfl rfl HL.out)
     go_wp2_with fail
     go_end0
     exact ⟨⟨_,rfl⟩,by rw [HA.out];exact HM.out.from HT.out⟩
 . have HC:=Lib.hid (J1 M W1 h1 Zj);have HA:Hid (pf A k t a o x=A.crashed):=Lib.hid (by unfold pf;rw [if_neg c1,if_neg c2,if_neg c3,if_neg c4,if_neg c5,if_neg c6]);have HL:Hid (jd M.su A.crashed):=Lib.hid hl.su;have b1:(k==1)=false:=by simp [c1]
   have b2:(k==2)=false:=by simp [c2]
   have b3:(k==3)=false:=by simp [c3]
   have b4:(k==4)=false:=by simp [c4]
   have b5:(k==5)=false:=by simp [c5]
   have b6:(k==6)=false:=by simp [c6]
   clear h1 hl hw hc hm Zj jg ct hn ZQ aR
   go_enter Tryz.func12,Tryz.ntmps12
   go_upto_region 1 with fail
   rw [<-HW.out]
   go_wp2_with fail
   refine HC.out.mono ?_
   rintro e w1 ⟨rfl,m1⟩;have HM:=Lib.hid (HG.out (fun _=>M.su) _ _ ⟨undef,m1⟩ (fun _=>rfl) (fun _=>HL.out));clear m1
   go_wp2_with fail
   go_end0
   exact ⟨⟨_,rfl⟩,by rw [HA.out];exact HM.out.from HT.out⟩
def vy(R:Rv)(A:Rv)(W:World)(W':World):Prop:=∃R':Rv,za W' R'/\R'.m=R.m/\Rb R' A/\(∀j,R'.own j->R.own j)/\Ja R.own W W'
theorem vy.from{R:Rv}{A:Rv}{W W1 W':World}(ht:Ja R.own W W1)(h:vy R A W1 W'):vy R A W W':=by
 obtain ⟨R',h1,h2,h3,h4,h5⟩:=h;exact ⟨R',h1,h2,h3,h4,ht.trans h5 fun k _ hk=>hk⟩
theorem fK{W:World}{M:Rv}(h:za W M):W.cell? ⟨M.m,0,none⟩=some (.pointer (some ⟨M.d,0,none⟩)):=ma h.row 0 _ rfl
theorem kH(R:Rv):R.crashed.own=R.own/\R.crashed.m=R.m:=by
 unfold Rv.crashed Rv.Xe Rv.Rn Rv.back Rv.gone;exact ⟨rfl,rfl⟩
set_option maxHeartbeats 1000000 in
set_option maxRecDepth 100000 in
theorem Vah(R:Rv)(A:Rv)(k t a o x:Int)(q0:-9223372036854775808<=a)(q1:a<=9223372036854775807)(W:World)(h:za W R)(hl:Rb R A)(hc:A.ck<=999900)(hm:A.wm<=999900):
  Calls Tryz.prog 13 #[.pointer (some ⟨R.m,0,none⟩), .agg #[.int .i64 k, .int .i64 t, .int .i64 a, .int .u64 o, .int .u64 x]] W fun e W'=>(∃v,e= .returned v)/\vy R (pf A k t a o x) W W':=by
 have jg:R.ck<=1000000:=by rw [hl.ck];omega
 have ct:R.wm<=999999:=by rw [hl.wm];omega
 have hn:=hl.n;obtain ⟨W1,mg⟩:∃W1,W1=(W.alloc (.cells #[.int .i64 k, .int .i64 t, .int .i64 a, .int .u64 o, .int .u64 x] 45)):=⟨_,rfl⟩;have Jm:W1.heap[W.heap.size]?=some (.cells #[.int .i64 k, .int .i64 t, .int .i64 a, .int .u64 o, .int .u64 x] 45 (0,0)):=by rw [mg];exact heap_alloc_new _ _
 have z0:=ma Jm 0 _ rfl;have z1:=ma Jm 1 _ rfl;have z2:=ma Jm 2 _ rfl;have z3:=ma Jm 3 _ rfl;have z4:=ma Jm 4 _ rfl;have h1:za W1 R:=by rw [mg];exact h.below ((Below.refl _ _).alloc (Nat.le_refl _) _)
 have y0:=fK h1;have HT:Hid (Ja R.own W W1):=Lib.hid (by rw [mg];exact (Ja.refl _ _).alloc _);have HH:=Lib.hid h1;have HW:=Lib.hid mg;have HD:Hid (∀(R':Rv) (W':World) (A':Rv),za W' R'->Ja R.own W1 W'->R'.own=R.own/\R'.m=R.m->Rb R' A'->vy R A' W1 W'):=Lib.hid fun R' W' A' i1 i2 i3 i5=>⟨R',i1,i3.2,i5,fun j hj=>by rw [i3.1]at hj;exact hj,i2⟩
 clear Jm mg h;by_cases c1:k=1
 . subst c1;have HC:=Lib.hid (Dr R t a o x q0 q1 W1 h1 jg);have HA:Hid (pf A 1 t a o x=A.load t a):=Lib.hid (by simp [pf]);have HL:Hid (((R.load t a).own=R.own/\(R.load t a).m=R.m)/\Rb (R.load t a) (A.load t a)):=Lib.hid ⟨Ve _ _ _ _,hl.Ye _ _ _⟩;clear h1 hl hc hm jg ct hn y0
   go_enter Tryz.func13,Tryz.ntmps13
   go_upto_region 1 with fail
   rw [<-HW.out]
   go_wp2_with fail
   refine HC.out.mono ?_
   rintro e w1 ⟨rfl,m1,m2⟩;have HM:=Lib.hid (HD.out _ _ _ m1 m2 HL.out.1 HL.out.2);clear m1 m2
   go_wp2_with fail
   refine bodyPost_ret (results_none Tryz.results13 _ _ _) rfl ?_
   exact ⟨⟨_,rfl⟩,by rw [HA.out];exact HM.out.from HT.out⟩
 by_cases c2:k=2
 . subst c2;have HC:=Lib.hid (Qj R t a o x q0 q1 W1 h1 jg);have HA:Hid (pf A 2 t a o x=A.store t a x):=Lib.hid (by simp [pf]);have HL:Hid (((R.store t a x).own=R.own/\(R.store t a x).m=R.m)/\Rb (R.store t a x) (A.store t a x)):=Lib.hid ⟨Ve _ _ _ _,hl.Ye _ _ _⟩;clear h1 hl hc hm jg ct hn y0
   go_enter Tryz.func13,Tryz.ntmps13
   go_upto_region 1 with fail
   rw [<-HW.out]
   go_wp2_with fail
   refine HC.out.mono ?_
   rintro e w1 ⟨rfl,m1,m2⟩;have HM:=Lib.hid (HD.out _ _ _ m1 m2 HL.out.1 HL.out.2);clear m1 m2
   go_wp2_with fail
   refine bodyPost_ret (results_none Tryz.results13 _ _ _) rfl ?_
   exact ⟨⟨_,rfl⟩,by rw [HA.out];exact HM.out.from HT.out⟩
 by_cases c3:k=3
 . subst c3;have HC:=Lib.hid (rh R t a o x q0 q1 W1 h1 jg);have HA:Hid (pf A 3 t a o x=A.swap t a o x):=Lib.hid (by simp [pf]);have HL:Hid (((R.swap t a o x).own=R.own/\(R.swap t a o x).m=R.m)/\Rb (R.swap t a o x) (A.swap t a o x)):=Lib.hid ⟨Ve _ _ _ _,hl.swap _ _ _ _⟩;clear h1 hl hc hm jg ct hn y0
   go_enter Tryz.func13,Tryz.ntmps13
   go_upto_region 1 with fail
   rw [<-HW.out]
   go_wp2_with fail
   refine HC.out.mono ?_
   rintro e w1 ⟨rfl,m1,m2⟩;have HM:=Lib.hid (HD.out _ _ _ m1 m2 HL.out.1 HL.out.2);clear m1 m2
   go_wp2_with fail
   refine bodyPost_ret (results_none Tryz.results13 _ _ _) rfl ?_
   exact ⟨⟨_,rfl⟩,by rw [HA.out];exact HM.out.from HT.out⟩
 by_cases c4:k=4
 . subst c4;have HC:=Lib.hid (yp R t a o x q0 q1 W1 h1 jg);have HA:Hid (pf A 4 t a o x=A.Ka t a):=Lib.hid (by simp [pf]);have HL:Hid (((R.Ka t a).own=R.own/\(R.Ka t a).m=R.m)/\Rb (R.Ka t a) (A.Ka t a)):=Lib.hid ⟨Zp _ _ _,hl.Ka _ _⟩;clear h1 hl hc hm jg ct hn y0
   go_enter Tryz.func13,Tryz.ntmps13
   go_upto_region 1 with fail
   rw [<-HW.out]
   go_wp2_with fail
   refine HC.out.mono ?_
   rintro e w1 ⟨rfl,m1,m2⟩;have HM:=Lib.hid (HD.out _ _ _ m1 m2 HL.out.1 HL.out.2);clear m1 m2
   go_wp2_with fail
   refine bodyPost_ret (results_none Tryz.results13 _ _ _) rfl ?_
   exact ⟨⟨_,rfl⟩,by rw [HA.out];exact HM.out.from HT.out⟩
 by_cases c5:k=5
 . subst c5;have HC:=Lib.hid (zp R t a o x q0 q1 W1 h1 jg ct);have HA:Hid (pf A 5 t a o x=A.Ma t):=Lib.hid (by simp [pf]);have HL:Hid (((R.Ma t).own=R.own/\(R.Ma t).m=R.m)/\Rb (R.Ma t) (A.Ma t)):=Lib.hid ⟨aq _ _,hl.Ma _⟩;clear h1 hl hc hm jg ct hn y0
   go_enter Tryz.func13,Tryz.ntmps13
   go_upto_region 1 with fail
   rw [<-HW.out]
   go_wp2_with fail
   refine HC.out.mono ?_
   rintro e w1 ⟨rfl,m1,m2⟩;have HM:=Lib.hid (HD.out _ _ _ m1 m2 HL.out.1 HL.out.2);clear m1 m2
   go_wp2_with fail
   refine bodyPost_ret (results_none Tryz.results13 _ _ _) rfl ?_
   exact ⟨⟨_,rfl⟩,by rw [HA.out];exact HM.out.from HT.out⟩
 by_cases c6:k=6
 . subst c6;have hB:Hid (∀j,Below W1.heap.size W1 (W1.drewN j)):=Lib.hid fun j=>xb (Below.refl _ _) j
   by_cases hi:0<=a/\a<(A.n:Int)
   . obtain ⟨i,rfl⟩:=Int.eq_ofNat_of_zero_le hi.1
     have ZX:i<R.n:=by omega
     have HC:Hid (∀j,Calls Tryz.prog 70 #[.pointer (some ⟨R.d,0,none⟩), .int .i64 2, .int .i64 0, .int .i64 (i:Int)] (W1.drewN j) (yn R (R.Tj (fun j=>decide (j=i)) R.n) (.int .i64 0) (W1.drewN j))):=Lib.hid fun j=>tA R i ZX _ (h1.below (hB.out j)) ct
     have HA:Hid (pf A 6 t (i:Int) o x=A.Tj (fun j=>decide (j=i)) A.n):=Lib.hid (by
      show(if(0:Int)<=(i:Int)/\(i:Int)<(A.n:Int)then A.Tj (fun j=>decide (j=(i:Int).toNat)) A.n else A)=_
      rw [if_pos hi,Int.toNat_natCast])
     have HL:Hid (Rb (R.Tj (fun j=>decide (j=i)) R.n) (A.Tj (fun j=>decide (j=i)) A.n)):=Lib.hid (hl.jH i);clear h1 hl hc hm jg ct hn hi ZX
     go_enter Tryz.func13,Tryz.ntmps13
     go_upto_region 1 with fail
     rw [<-HW.out]
     go_wp2_with fail
     refine Be 0 6 (by kernel_rfl) (by kernel_rfl) (fun _ _ d _ _ h=>by cases d<;>exact h) ?_
     simp only [List.take_succ_cons,List.take_zero,List.drop_succ_cons,List.drop_zero,Nat.reduceAdd];refine wpQuiet_nil ?_
     repeat (first|go_big_quiet_skip|(go_big_quiet_want;go_big_quiet_op;go_big_quiet_on))
     refine wpQuiet_nil ?_
     rintro _ ⟨j,rfl⟩
     go_wp2_with fail
     refine (HC.out _).mono ?_
     rintro e w1 ⟨rfl,m1,m2⟩;have HM:=Lib.hid (HD.out _ _ _ m1 ((⟨rfl,rfl,rfl,Nat.le_refl _,fun _ _ _=>rfl⟩:Ja R.own W1 (W1.drewN j)).trans m2 fun k _ hk=>hk) ⟨rfl,rfl⟩ HL.out);clear m1 m2
     go_wp2_with fail
     refine bodyPost_ret (results_none Tryz.results13 _ _ _) rfl ?_
     exact ⟨⟨_,rfl⟩,by rw [HA.out];exact HM.out.from HT.out⟩
   . have HC:Hid (∀j,Calls Tryz.prog 70 #[.pointer (some ⟨R.d,0,none⟩), .int .i64 2, .int .i64 0, .int .i64 a] (W1.drewN j) fun e W'=>(∃v,e= .returned v)/\W'=W1.drewN j):=Lib.hid fun j=>xt R a (by rw [hn];exact hi) _ (h1.below (hB.out j))
     have HA:Hid (pf A 6 t a o x=A):=Lib.hid (by
      show(if 0<=a/\a<(A.n:Int)then _ else A)=A
      rw [if_neg hi])
     have HL:=Lib.hid hl;clear h1 hl hc hm jg ct hn hi
     go_enter Tryz.func13,Tryz.ntmps13
     go_upto_region 1 with fail
     rw [<-HW.out]
     go_wp2_with fail
     refine Be 0 6 (by kernel_rfl) (by kernel_rfl) (fun _ _ d _ _ h=>by cases d<;>exact h) ?_
     simp only [List.take_succ_cons,List.take_zero,List.drop_succ_cons,List.drop_zero,Nat.reduceAdd];refine wpQuiet_nil ?_
     repeat (first|go_big_quiet_skip|(go_big_quiet_want;go_big_quiet_op;go_big_quiet_on))
     refine wpQuiet_nil ?_
     rintro _ ⟨j,rfl⟩
     go_wp2_with fail
     refine (HC.out _).mono ?_
     rintro e w1 ⟨⟨u,rfl⟩,hw1⟩;cases hw1;have HM:=Lib.hid (HD.out R _ _ (HH.out.below (hB.out j)) (⟨rfl,rfl,rfl,Nat.le_refl _,fun _ _ _=>rfl⟩:Ja R.own W1 (W1.drewN j)) ⟨rfl,rfl⟩ HL.out)
     go_wp2_with fail
     refine bodyPost_ret (results_none Tryz.results13 _ _ _) rfl ?_
     exact ⟨⟨_,rfl⟩,by rw [HA.out];exact HM.out.from HT.out⟩
 . have HC:=Lib.hid (hH R W1 h1);have HA:Hid (pf A k t a o x=A.crashed):=Lib.hid (by unfold pf;rw [if_neg c1,if_neg c2,if_neg c3,if_neg c4,if_neg c5,if_neg c6]);have HO:=Lib.hid (kH R);have HL:Hid (Rb R.crashed A.crashed):=Lib.hid hl.crashed;have b6:(k==6)=false:=by simp [c6]
   clear h1 hl hc hm jg ct hn y0;by_cases d1:1<=k
   . have b1:decide (1<=k)=true:=ga d1;have b2:decide (k<=5)=false:=ua (by omega);clear d1 c1 c2 c3 c4 c5 c6
     go_enter Tryz.func13,Tryz.ntmps13
     go_upto_region 1 with fail
     rw [<-HW.out]
     go_wp2_with fail
     refine HC.out.mono ?_
     rintro e w1 ⟨rfl,m1,m2⟩;have HM:=Lib.hid (HD.out R.crashed _ _ m1 m2 HO.out HL.out);clear m1 m2
     go_wp2_with fail
     go_end0
     exact ⟨⟨_,rfl⟩,by rw [HA.out];exact HM.out.from HT.out⟩
   . have b1:decide (1<=k)=false:=ua d1;clear d1 c1 c2 c3 c4 c5 c6
     go_enter Tryz.func13,Tryz.ntmps13
     go_upto_region 1 with fail
     rw [<-HW.out]
     go_wp2_with fail
     refine HC.out.mono ?_
     rintro e w1 ⟨rfl,m1,m2⟩;have HM:=Lib.hid (HD.out R.crashed _ _ m1 m2 HO.out HL.out);clear m1 m2
     go_wp2_with fail
     go_end0
     exact ⟨⟨_,rfl⟩,by rw [HA.out];exact HM.out.from HT.out⟩
end Sk
end Go.Proofs.YtfnkmolffhfpoaaGreat
