/- -/
import Derived.Test.YtfnkmolffhfpoaaGreatHb21
import Derived.Test.YtfnkmolffhfpoaaGreatHb20
import Derived.Test.YtfnkmolffhfpoaaGreatHb1
import Derived.Laws.Pointers
import Derived.BigQuiet
import Derived.RegionTactic
import Derived.BigRegion
import Derived.ChangeAlike
import Derived.Deep.RegionWith
import Derived.Deep.Cut
import Derived.Deep.CutRange
set_option linter.unusedVariables false
set_option linter.unusedSimpArgs false
namespace Go.Proofs.YtfnkmolffhfpoaaGreat
open Go.RowKit Go.BigFrame
def Rv.note(M:Rv)(x:Acc)(is:Bool):Rv:={M with ck:=M.ck+1,bd:=if is then M.bd else M.bd+1,la:=x}
def Rv.put(M:Rv)(at_ v:Int):Rv:=if 0<=at_ then{M with seen:=Ed M.seen at_.toNat v}else{M with pass:=Ed M.pass (-1 -at_).toNat v}
theorem ma.note{W W':World}{M:Rv}(h:ma W M)(x:Acc)(is:Bool)
  (hr:W'.heap[M.m]?=some (.cells #[.pointer (some ⟨M.d,0,none⟩), .slice (some ⟨M.pb,0,none⟩) M.np M.c4, .int .i64 (M.ck+1), .int .i64 (if is then M.bd else M.bd+1), .int .i64 x.ki, .int .i64 x.th, .int .i64 x.pl, .int .u64 x.ol, .int .u64 x.ne, .bool x.dn] 141 (0,0)))
  (hb:∀k,M.own k->k≠M.m->W'.heap[k]?=W.heap[k]?):ma W' (M.note x is):=by
 have n:=h.ne;have i:∀k,k∈M.blocks->M.own k:=fun k hk=>Or.inl hk
 exact {h with
  row:=hr
  dev:=(hb _ (i _ (by simp [Rv.blocks])) (Ne.symm n.md)).trans h.dev
  kept:=h.kept.keep (hb _ (i _ (by simp [Rv.blocks])) (Ne.symm n.mkb))
  seen:=h.seen.keep (hb _ (i _ (by simp [Rv.blocks])) (Ne.symm n.ms))
  wr:=h.wr.keep (hb _ (i _ (by simp [Rv.blocks])) (Ne.symm n.mw))
  fb:=h.fb.keep (hb _ (i _ (by simp [Rv.blocks])) (Ne.symm n.mf))
  pass:=h.pass.keep (hb _ (i _ (by simp [Rv.blocks])) (Ne.symm n.mp))
  fl:=fun t ht=>(h.fl t ht).keep (hb _ (Or.inr ⟨t,ht,rfl⟩) fun e=>h.alone t ht (by rw [e];simp [Rv.blocks]))
  ak:=by have:=h.ak;simp only [Rv.note];omega
  Qv:=by have:=h.Qv;simp only [Rv.note];split<;>omega
  zq:=by have:=h.zq;simp only [Rv.note];split<;>omega}
theorem ma.qo{W:World}{M:Rv}(h:ma W M)(k:Nat)(v:Int):ma (W.setCell ⟨M.sb,k,none⟩ (.int .u64 v)) {M with seen:=Ed M.seen k v}:=by
 have n:=h.ne;exact {h with
  row:=(aa n.ms).trans h.row
  dev:=(aa n.ds).trans h.dev
  kept:=h.kept.keep (aa n.ks)
  seen:=by
   have:=h.seen.set k (.int .u64 v);simp only [ai];exact this
  wr:=h.wr.keep (aa (Ne.symm n.sw))
  fb:=h.fb.keep (aa (Ne.symm n.sf))
  pass:=h.pass.keep (aa (Ne.symm n.sp))
  fl:=fun t ht=>(h.fl t ht).keep (aa fun e=>h.alone t ht (by rw [e];simp [Rv.blocks]))}
theorem ma.so{W:World}{M:Rv}(h:ma W M)(k:Nat)(v:Int):ma (W.setCell ⟨M.pb,k,none⟩ (.int .u64 v)) {M with pass:=Ed M.pass k v}:=by
 have n:=h.ne;exact {h with
  row:=(aa n.mp).trans h.row
  dev:=(aa n.dp).trans h.dev
  kept:=h.kept.keep (aa n.kp)
  seen:=h.seen.keep (aa n.sp)
  wr:=h.wr.keep (aa n.wp)
  fb:=h.fb.keep (aa n.fp)
  pass:=by
   have:=h.pass.set k (.int .u64 v);simp only [ai];exact this
  fl:=fun t ht=>(h.fl t ht).keep (aa fun e=>h.alone t ht (by rw [e];simp [Rv.blocks]))}
def Qg(w:World)(b:Nat):List (Nat×Value)->World
 |[]=>w
 |(j,v)::l=>Qg (w.setCell ⟨b,j,none⟩ v) b l
theorem Bh{b g:Nat}(h:g≠b):∀(l:List (Nat×Value)) (w:World),(Qg w b l).heap[g]?=w.heap[g]?
 |[],_=>rfl
 |(j,v)::l,w=>by rw [Qg,Bh h l,aa h]
theorem Ap{F:Nat->Prop}{a:World}{b:Nat}(hb:b<a.heap.size->F b):∀(l:List (Nat×Value)) (w:World),Ea F a w->Ea F a (Qg w b l)
 |[],_,h=>h
 |(j,v)::l,w,h=>Ap hb l _ (h.set hb j v)
def cM(x:Acc):List (Nat×Value):=[(4, .int .i64 x.ki),(5, .int .i64 x.th),(6, .int .i64 x.pl),(7, .int .u64 x.ol),(8, .int .u64 x.ne),(9, .bool x.dn)]
def gac(x:Acc):List (Nat×Value):=[(0, .int .i64 x.ki),(1, .int .i64 x.th),(2, .int .i64 x.pl),(3, .int .u64 x.ol),(4, .int .u64 x.ne),(5, .bool x.dn)]
def oq(w:World)(m b:Nat)(ck bd:Int)(x:Acc)(is:Bool):World:=
 Qg (Qg w m ((2, .int .i64 (ck+1))::(if is then[]else[(3, .int .i64 (bd+1))])++cM x)) b (gac x)
theorem SI{w:World}{M:Rv}(h:ma w M)(b:Nat)(hb:b≠M.m)(x:Acc)(is:Bool):
  (oq w M.m b M.ck M.bd x is).heap[M.m]?=some (.cells #[.pointer (some ⟨M.d,0,none⟩), .slice (some ⟨M.pb,0,none⟩) M.np M.c4, .int .i64 (M.ck+1), .int .i64 (if is then M.bd else M.bd+1), .int .i64 x.ki, .int .i64 x.th, .int .i64 x.pl, .int .u64 x.ol, .int .u64 x.ne, .bool x.dn] 141 (0,0)):=by
 unfold oq;rw [Bh (Ne.symm hb)];cases is with
 |true=>
  show(Qg w M.m [(2, .int .i64 (M.ck+1)),(4, .int .i64 x.ki),(5, .int .i64 x.th),(6, .int .i64 x.pl),(7, .int .u64 x.ol),(8, .int .u64 x.ne),(9, .bool x.dn)]).heap[M.m]?=_
  simp only [Qg];have h2:=heap_set (j:=2) (.int .i64 (M.ck+1)) h.row;have h4:=heap_set (j:=4) (.int .i64 x.ki) h2;have h5:=heap_set (j:=5) (.int .i64 x.th) h4;have h6:=heap_set (j:=6) (.int .i64 x.pl) h5;have h7:=heap_set (j:=7) (.int .u64 x.ol) h6;have h8:=heap_set (j:=8) (.int .u64 x.ne) h7;have h9:=heap_set (j:=9) (.bool x.dn) h8;rw [h9];simp only [List.setIfInBounds_toArray,List.set_cons_succ,List.set_cons_zero];rfl
 |false=>
  show(Qg w M.m [(2, .int .i64 (M.ck+1)),(3, .int .i64 (M.bd+1)),(4, .int .i64 x.ki),(5, .int .i64 x.th),(6, .int .i64 x.pl),(7, .int .u64 x.ol),(8, .int .u64 x.ne),(9, .bool x.dn)]).heap[M.m]?=_
  simp only [Qg];have h2:=heap_set (j:=2) (.int .i64 (M.ck+1)) h.row;have h3:=heap_set (j:=3) (.int .i64 (M.bd+1)) h2;have h4:=heap_set (j:=4) (.int .i64 x.ki) h3;have h5:=heap_set (j:=5) (.int .i64 x.th) h4;have h6:=heap_set (j:=6) (.int .i64 x.pl) h5;have h7:=heap_set (j:=7) (.int .u64 x.ol) h6;have h8:=heap_set (j:=8) (.int .u64 x.ne) h7;have h9:=heap_set (j:=9) (.bool x.dn) h8;rw [h9];simp only [List.setIfInBounds_toArray,List.set_cons_succ,List.set_cons_zero];rfl
theorem ld{w:World}{m b:Nat}{k0 k1 k2 k3 k4 k5:Value}{t:TypeId}(hb:b≠m)(h:w.heap[b]?=some (.cells #[k0,k1,k2,k3,k4,k5] t (0,0)))(ck bd:Int)(x:Acc)(is:Bool):(oq w m b ck bd x is).heap[b]?=some (.cells x.cells t (0,0)):=by
 have h0:(Qg w m ((2, .int .i64 (ck+1))::(if is then[]else[(3, .int .i64 (bd+1))])++cM x)).heap[b]?=some (.cells #[k0,k1,k2,k3,k4,k5] t (0,0)):=by rw [Bh hb];exact h
 unfold oq;generalize Qg w m ((2, .int .i64 (ck+1))::(if is then[]else[(3, .int .i64 (bd+1))])++cM x)=w1 at*;simp only [gac,Qg];rw [Qq h0];rfl
theorem zc{W w:World}{M R:Rv}{b:Nat}(hR:ma w R)(hT:Ea M.own W w)(hm:M.m=R.m)(ho:R.own=M.own)(hb:W.heap.size<=b)(hM:ma W M)(x:Acc)(is:Bool):
  ma (oq w R.m b R.ck R.bd x is) (R.note x is)/\Ea M.own W (oq w R.m b R.ck R.bd x is):=by
 have hmo:M.own R.m:=by rw [<-hm];exact Or.inl (by simp [Rv.blocks])
 have hbm:b≠R.m:=fun e=>by have:=hM.lt hmo;omega
 refine ⟨hR.note x is (SI hR b hbm x is) fun k hk e=> ?_, ?_⟩
 . have:k≠b:=fun e'=>by rw [ho]at hk;have:=hM.lt hk;omega
   unfold oq;rw [Bh this,Bh e]
 . unfold oq;exact Ap (fun e=>by omega) _ _ (Ap (fun _=>hmo) _ _ hT)
def Rv.res(M:Rv)(x:Acc)(pu:Bool):Acc:=if(M.Ga x.pl).2 then⟨x.ki,x.th,x.pl,(M.Ga x.pl).1,x.ne,pu||x.ki==1⟩else x
def Rv.Oe(M:Rv)(x:Acc)(nw:Int)(pu:Bool):Rv:=(if(M.Ga x.pl).2&&pu then M.put x.pl nw else M).note (M.res x pu) (M.Ga x.pl).2
def Rv.load(M:Rv)(t at_:Int):Rv:=M.Oe ⟨1,t,at_,0,0,false⟩ 0 false
def Rv.store(M:Rv)(t at_ w:Int):Rv:=M.Oe ⟨2,t,at_,0,w,false⟩ w true
def Rv.swap(M:Rv)(t at_ old w:Int):Rv:=M.Oe ⟨3,t,at_,0,w,false⟩ w ((M.Ga at_).1==old)
def Rv.Ka(M:Rv)(t at_:Int):Rv:=
 if 0<=at_/\M.Jb t (at_/8)=0 then(M.Kc t (at_/8)).note ⟨4,t,at_,0,0,true⟩ true else M.note ⟨4,t,at_,0,0,false⟩ false
def Rv.Oa(M:Rv)(t:Int):Rv:=if Bb M.nt t=0 then(M.fenced t.toNat).note ⟨5,t,0,0,0,true⟩ true else M.note ⟨5,t,0,0,0,false⟩ false
def Ch(M M':Rv)(W:World)(e:Ending)(W':World):Prop:=e= .returned (.agg M'.la.cells)/\ma W' M'/\Ea M.own W W'
def Mv.taken(M:Mv)(t:Nat):Mv:={M with fl:=Ed M.fl t [],fv:=Ed M.fv t (.slice none 0 0)}
def Mv.fenced(M:Mv)(t:Int):Mv:=(M.taken t.toNat).Qi (M.fl t.toNat)
def Tq(M:Mv)(t:Int)(W:World)(e:Ending)(W':World):Prop:=
 e= .returned (.int .i64 (Bb M.nt t))/\(Bb M.nt t≠0/\Xf M M W W'\/Bb M.nt t=0/\Xf M (M.fenced t) W W')
theorem xE(M:Mv)(t:Int)(W:World)(h:Ba W M)(hn:Bb M.nt t≠0):
  Calls Tryz.prog 172 #[.pointer (some ⟨M.d,0,none⟩), .int .i64 t] W (Tq M t W):=by
 have HT:=Lib.hid (zn M.d (some ⟨M.fb,0,none⟩) M.nt M.c3 t W (by rw [Ma h.dev];rfl));have HM:=Lib.hid h;have HN:=Lib.hid hn;have e1:Bb M.nt t=1:=by unfold Bb at*;split at hn<;>simp_all
 have HE:=Lib.hid e1;rw [e1]at HT;clear h hn e1
 go_enter Tryz.func172,Tryz.ntmps172
 go_wp2_with fail
 refine HT.out.mono ?_
 rintro e w ⟨rfl,hw⟩;cases hw
 go_wp2_with fail
 go_ret
 exact ⟨by rw [HE.out];rfl,Or.inl ⟨HN.out,Xf.refl HM.out⟩⟩
theorem bR(M:Mv)(t:Nat)(ht:t<M.nt)(W:World)(h:Ba W M):
  Calls Tryz.prog 257 #[.pointer (some ⟨M.fb,t,none⟩)] W fun e W'=>e= .returned (M.fv t)/\Xf M (M.taken t) W W'/\Ze W' (M.fv t) (M.fl t):=by
 obtain ⟨a,n,c,hv⟩:=(h.fl t ht).slice
 have hc:=h.fb.cell ht;rw [hv]at hc;refine (GX M.fb t a n c W hc (h.fb.free t)).mono ?_
 rintro e W' ⟨rfl,rfl⟩;refine ⟨by rw [hv],h.Ys ht (v':= .slice none 0 0) (l':=[]) (Ea.refl _ _) (Or.inl ⟨rfl,rfl⟩) (fun g hg=>by cases hg) List.Pairwise.nil (fun x hx=>by cases hx), ?_⟩;exact (h.fl t ht).keep fun g hg=>aa fun(e:g=M.fb)=>h.alone t ht g hg (by rw [e];simp [Mv.blocks])
theorem yE{W:World}{M:Mv}(h:Ba W M){t:Nat}(ht:t<M.nt){g:Nat}(hg:(M.fv t).ownBlock=some g):¬(M.taken t).own g:=by
 rintro (hb|⟨t',dj,e⟩)
 . exact h.alone t ht g hg hb
 . have e:(Ed M.fv t (.slice none 0 0) t').ownBlock=some g:=e
   by_cases c:t'=t
   . rw [c,Ec]at e;cases e
   . rw [mc _ _ c]at e;exact h.lone t ht t' dj (Ne.symm c) g hg e
theorem Ze.at{W:World}{v:Value}{l:List Int}(h:Ze W v l){k:Nat}(hk:k<l.length):∃g cap,v= .slice (some ⟨g,0,none⟩) l.length cap/\v.ownBlock=some g/\W.cell? ⟨g,k,none⟩=some (.int .i64 (l.getD k 0)):=by
 rcases h with⟨rfl,rfl⟩|⟨g,cap,c,rfl,h1,h2,h3,h4,h5,h6⟩
 . simp at hk
 . exact ⟨g,cap,rfl,rfl,by rw [Ma h1];exact h6 k hk⟩
theorem Ze.len{W:World}{v:Value}{l:List Int}(h:Ze W v l):∃a cap,v= .slice a l.length cap:=by
 rcases h with⟨rfl,rfl⟩|⟨g,cap,c,rfl,_⟩
 . exact ⟨_,_,rfl⟩
 . exact ⟨_,_,rfl⟩
theorem Ik(l:List Int)(k:Nat)(hk:k<l.length):l.take (k+1)=l.take k++[l.getD k 0]:=by
 rw [List.take_succ_eq_append_getElem hk,List.getD_eq_getElem?_getD,List.getElem?_eq_getElem hk];rfl
theorem zE(l:List Int)(hs:l.Pairwise (·<·))(k:Nat)(hk:k<l.length):l.getD k 0∉l.take k:=by
 intro hm;have h:=Ik l k hk;have hp:(l.take (k+1)).Pairwise (·<·):=hs.sublist (List.take_sublist _ _)
 rw [h,List.pairwise_append]at hp;have:=hp.2.2 _ hm (l.getD k 0) (by simp)
 omega
set_option maxRecDepth 100000 in
set_option maxHeartbeats 1000000 in
theorem mC(M:Mv)(t:Int)(W:World)(h:Ba W M)(hw:M.wm<=999999)(hn:Bb M.nt t=0):
  Calls Tryz.prog 172 #[.pointer (some ⟨M.d,0,none⟩), .int .i64 t] W (Tq M t W):=by
 have HT:=Lib.hid (zn M.d (some ⟨M.fb,0,none⟩) M.nt M.c3 t W (by rw [Ma h.dev];rfl));have HN:=Lib.hid hn;rw [hn]at HT;have a0:0<=t/\t<M.nt:=by unfold Bb at hn;split at hn;cases hn;omega
 obtain ⟨k0,rfl⟩:=Int.eq_ofNat_of_zero_le a0.1
 have b0:(0:Int)<=(k0:Int):=by omega
 have b1:(k0:Int)<(M.nt:Int):=a0.2
 have ht:k0<M.nt:=by omega
 have HP:=Lib.hid (bR M k0 ht W h);have hd:W.cell? ⟨M.d,3,none⟩=some (.slice (some ⟨M.fb,0,none⟩) M.nt M.c3):=by rw [Ma h.dev];rfl
 have HF:Hid (∀g,(M.fv k0).ownBlock=some g->¬(M.taken k0).own g):=Lib.hid fun g hg=>yE h ht hg
 have HI:=Lib.hid (h.inn k0 ht);have HR:=Lib.hid (h.qE k0 ht);have fG:=h.XL ht;have RX:=h.n1;obtain ⟨L,hL⟩:∃L,L=M.fl k0:=⟨_,rfl⟩;obtain ⟨v,hv⟩:∃v,v=M.fv k0:=⟨_,rfl⟩;obtain ⟨M0,cR⟩:∃M0,M0=M.taken k0:=⟨_,rfl⟩;have HE:Hid (M.fenced (k0:Int)=M0.Qi L):=Lib.hid (by rw [cR,hL];rfl);have HNN:Hid (M0.n=M.n):=Lib.hid (by rw [cR];rfl);have HDD:Hid (M0.d=M.d):=Lib.hid (by rw [cR];rfl);have HWM:Hid (M0.wm=M.wm):=Lib.hid (by rw [cR];rfl);have VD:L.length<=262144:=by rw [hL];omega
 rw [<-hL,<-hv,<-cR]at HP;rw [<-hv,<-cR]at HF;rw [<-hL]at HI HR;have HWW:=Lib.hid hw;clear h hn a0 hL hv cR fG RX hw ht
 go_enter Tryz.func172,Tryz.ntmps172
 go_wp2_with fail
 refine HT.out.mono ?_
 rintro e w ⟨rfl,hw⟩;cases hw
 go_wp2_with fail
 refine HP.out.mono ?_
 rintro e W1 ⟨rfl,hi,hl⟩;obtain ⟨a,cap,hv⟩:=hl.len;subst hv;have HI1:=Lib.hid hi;have FP:=Lib.hid hl;clear hi hl
 go_wp2_with fail
 go_loopw [7,22] (fun u i wr=>∃k:Nat,k<=L.length/\i= .int .i64 k/\Hid (Ba wr (M0.Qi (L.take k))/\Ea M0.own W1 wr)) (fun _ i _=>L.length -(intOf i).toNat)
 case atStart=>exact ⟨0,Nat.zero_le _,rfl,Lib.hid ⟨by rw [List.take_zero];exact QI HI1.out.1,Ea.refl _ _⟩⟩
 case round=>
  obtain ⟨k,hk,rfl,HB⟩:=hrel;by_cases Ab:k<L.length
  . obtain ⟨g,dR,e1,e2,hc⟩:=FP.out.at Ab;cases e1;have pK:wr.cell? ⟨g,k,none⟩=some (.int .i64 (L.getD k 0)):=by
     rw [cell_of_heap (HB.out.2.block g (FP.out.lt e2) (HF.out g e2))];exact hc
    have Uv:L.getD k 0∈L:=by rw [List.getD_eq_getElem?_getD,List.getElem?_eq_getElem Ab];exact List.getElem_mem _
    have Cf:=HI.out _ Uv;have oK:=zE L HR.out k Ab;have jQ:=Ik L k Ab;obtain ⟨x,hx⟩:∃x,x=L.getD k 0:=⟨_,rfl⟩;rw [<-hx]at pK Cf oK jQ;clear hx Uv hc;obtain ⟨q,rfl⟩:=Int.eq_ofNat_of_zero_le Cf.1
    have HC:Hid (Calls Tryz.prog 174 #[.pointer (some ⟨M.d,0,none⟩), .int .i64 q] wr (Cq (M0.Qi (L.take k)) (M0.Qi (L.take (k+1))) wr)):=Lib.hid (by
     rw [jQ,<-uE _ _ _ oK];have:=YQ (M0.Qi (L.take k)) q (by show q<M0.n;rw [HNN.out];omega) wr HB.out.1 (by
      have e:(M0.Qi (L.take k)).wr q=M0.wr q:=by
       show(if(L.take k).contains (q:Int)then M0.wr q+1 else M0.wr q)=M0.wr q
       rw [if_neg (by simpa using oK)]
      rw [e];have:=HI1.out.1.yG q (by rw [HNN.out];omega)
      show M0.wr q<M0.wm+1
      omega) (by show M0.wm+1<=1000000;have:=HWW.out;rw [HWM.out];omega)
     have e:(M0.Qi (L.take k)).d=M.d:=HDD.out
     rw [e]at this;exact this)
    have HS:Hid (Ea M0.own W1 wr):=Lib.hid HB.out.2
    have i0:(0:Int)<=(k:Int):=by omega
    have i1:(k:Int)<(L.length:Int):=by omega
    have i2:decide ((k:Int)<(L.length:Int))=true:=ca i1;clear Cf oK jQ
    go_wp2_with fail
    refine HC.out.mono ?_
    rintro e w2 ⟨⟨u,rfl⟩,hm,ht⟩;have Kf:=Lib.hid hm;have HT2:Hid (Ea M0.own W1 w2):=Lib.hid (HS.out.trans ht (fun _ _ h=>h));clear hm ht
    go_wp2_with fail
    go_roundw
    case rel=>exact ⟨k+1,by omega,by go_num,Lib.hid ⟨Kf.out,HT2.out⟩⟩
    case measure=>simp [intOf];omega
  . obtain rfl:k=L.length:=by omega
    have i2:decide ((L.length:Int)<(L.length:Int))=false:=by simp
    go_wp2_with fail
    go_ret
    refine ⟨by rw [HN.out];rfl,Or.inr ⟨HN.out,HI1.out.trans ?_⟩⟩;rw [HE.out];have:=HB.out;rw [List.take_length]at this;exact ⟨this.1,this.2,fun k hk=>Or.inl hk⟩
theorem eR(M:Mv)(t:Int)(W:World)(h:Ba W M)(hw:M.wm<=999999):
  Calls Tryz.prog 172 #[.pointer (some ⟨M.d,0,none⟩), .int .i64 t] W (Tq M t W):=by
 by_cases hn:Bb M.nt t=0
 . exact mC M t W h hw hn
 . exact xE M t W h hn
def Mv.Ka(M:Mv)(t at_:Int)(v:Value):Mv:=
 if 0<=at_/\M.Jb t (at_/8)=0 then(M.Kc t (at_/8) v).note ⟨4,t,at_,0,0,true⟩ true else M.note ⟨4,t,at_,0,0,false⟩ false
def Mv.Oa(M:Mv)(t:Int):Mv:=if Bb M.nt t=0 then(M.fenced t).note ⟨5,t,0,0,0,true⟩ true else M.note ⟨5,t,0,0,0,false⟩ false
def Ends(M:Mv)(f:Value->Mv)(W:World)(e:Ending)(W':World):Prop:=(∃x,e= .returned x)/\∃v,Xf M (f v) W W'
theorem Xf.note{M M':Mv}{W W1 W2:World}{x:Acc}{is:Bool}{e:Ending}(h:Xf M M' W W1)(k:Cq M' (M'.note x is) W1 e W2):Xf M (M'.note x is) W W2:=
 h.trans ⟨k.2.1,k.2.2,fun i hi=>Or.inl hi⟩
structure Alike(M:Mv)(R:Rv):Prop where
 n:M.n=R.n
 nt:M.nt=R.nt
 np:M.np=R.np
 seen:∀k,k<8*M.n->M.seen k=R.seen k
 kept:∀k,k<8*M.n->M.kept k=R.kept k
 pass:∀k,k<M.np->M.pass k=R.pass k
 fl:∀t,t<M.nt->∀j,j<M.n->(R.fl t j=true<->(j:Int)∈M.fl t)
 ck:M.ck=R.ck
 bd:M.bd=R.bd
 la:M.la=R.la
theorem Alike.Ga{M:Mv}{R:Rv}(h:Alike M R)(at_:Int):M.Ga at_=R.Ga at_:=by
 unfold Mv.Ga Rv.Ga fe;rw [<-h.n,<-h.np];by_cases h0:0<=at_
 . rw [if_pos h0,if_pos h0];by_cases h1:at_/8<(M.n:Int)
   . rw [if_pos h1,if_pos h1,h.seen _ (by omega)]
   . rw [if_neg h1,if_neg h1]
 . rw [if_neg h0,if_neg h0];by_cases h1:-1 -at_<(M.np:Int)
   . rw [if_pos h1,if_pos h1,h.pass _ (by omega)]
   . rw [if_neg h1,if_neg h1]
theorem Alike.note{M:Mv}{R:Rv}(h:Alike M R)(x:Acc)(is:Bool):Alike (M.note x is) (R.note x is):=
 {h with
  ck:=by show M.ck+1=R.ck+1;rw [h.ck]
  bd:=by show(if is then M.bd else M.bd+1)=(if is then R.bd else R.bd+1);rw [h.bd]
  la:=rfl}
theorem Alike.put{M:Mv}{R:Rv}(h:Alike M R)(at_ v:Int):Alike (M.put at_ v) (R.put at_ v):=by
 unfold Mv.put Rv.put;by_cases h0:0<=at_
 . rw [if_pos h0,if_pos h0];refine {h with seen:=fun k hk=> ?_}
   show Ed M.seen at_.toNat v k=Ed R.seen at_.toNat v k
   unfold Ed
   split
   . rfl
   . exact h.seen k hk
 . rw [if_neg h0,if_neg h0];refine {h with pass:=fun k hk=> ?_}
   show Ed M.pass (-1 -at_).toNat v k=Ed R.pass (-1 -at_).toNat v k
   unfold Ed
   split
   . rfl
   . exact h.pass k hk
theorem Alike.Oe{M:Mv}{R:Rv}(h:Alike M R)(x:Acc)(nw:Int)(pu:Bool):Alike (M.Oe x nw pu) (R.Oe x nw pu):=by
 unfold Mv.Oe Rv.Oe Mv.res Rv.res;rw [h.Ga];refine Alike.note ?_ _ _
 split
 . exact h.put _ _
 . exact h
theorem Alike.Kc{M:Mv}{R:Rv}(h:Alike M R)(t l:Int)(v:Value)(ht:0<=t/\t<M.nt)(hl:0<=l/\l<M.n):Alike (M.Kc t l v) (R.Kc t l):=by
 obtain ⟨a,rfl⟩:=Int.eq_ofNat_of_zero_le ht.1
 obtain ⟨b,rfl⟩:=Int.eq_ofNat_of_zero_le hl.1
 exact {h with
  fl:=fun x hx j hj=>by
   show Ed R.fl a (Ed (R.fl a) b true) x j=true<->(j:Int)∈Ed M.fl a (Vs (M.fl a) b) x
   by_cases e:x=a
   . rw [e,Ec,Ec,iC];by_cases e':j=b
     . rw [e',Ec];simp
     . rw [mc _ _ e',h.fl a (by omega) j hj];constructor
       . exact Or.inr
       . rintro (q|q)
         . omega
         . exact q
   . rw [mc _ _ e,mc _ _ e];exact h.fl x hx j hj}
theorem Alike.Jb{M:Mv}{R:Rv}(h:Alike M R)(t l:Int):M.Jb t l=R.Jb t l:=by
 unfold Mv.Jb Rv.Jb;rw [h.n,h.nt]
theorem TI{M:Mv}{t l:Int}(h:M.Jb t l=0):(0<=t/\t<M.nt)/\(0<=l/\l<M.n):=by
 unfold Mv.Jb Bb yi at h;by_cases h0:t<0\/(M.nt:Int)<=t
 . rw [if_pos h0,if_neg (by omega)]at h;omega
 . rw [if_neg h0,if_pos rfl]at h;by_cases h1:l<0\/(M.n:Int)<=l
   . rw [if_pos h1]at h;omega
   . omega
theorem Alike.Ka{M:Mv}{R:Rv}(h:Alike M R)(t at_:Int)(v:Value):Alike (M.Ka t at_ v) (R.Ka t at_):=by
 unfold Mv.Ka Rv.Ka;rw [<-h.Jb]
 split
 . rename_i c;obtain ⟨a,b⟩:=TI c.2
   exact (h.Kc t (at_/8) v a b).note _ _
 . exact h.note _ _
theorem Alike.fenced{M:Mv}{R:Rv}(h:Alike M R)(t:Int)(ht:0<=t/\t<M.nt):Alike (M.fenced t) (R.fenced t.toNat):=by
 obtain ⟨a,rfl⟩:=Int.eq_ofNat_of_zero_le ht.1
 have ha:a<M.nt:=by omega
 show Alike ((M.taken a).Qi (M.fl a)) (R.fenced a)
 exact {h with
  kept:=fun i hi=>by
   show(if(M.fl a).contains ((i/8:Nat):Int)then M.seen i else M.kept i)=if i/8<R.n/\R.fl a (i/8)=true then R.seen i else R.kept i
   have hi:i<8*M.n:=hi;have h8:i/8<M.n:=by omega
   have:=h.fl a ha (i/8) h8;by_cases c:R.fl a (i/8)=true
   . rw [if_pos (by simpa using this.1 c),if_pos ⟨by rw [<-h.n];exact h8,c⟩,h.seen i hi]
   . rw [if_neg (fun q=>c (this.2 (by simpa using q))),if_neg (fun q=>c q.2),h.kept i hi]
  fl:=fun x hx j hj=>by
   show(if x=a/\j<R.n/\(x<R.nt\/x=R.nt/\j<0)then false else R.fl x j)=true<->(j:Int)∈Ed M.fl a [] x
   have hx:x<M.nt:=hx;have hj:j<M.n:=hj;by_cases e:x=a
   . rw [if_pos ⟨e,by rw [<-h.n];exact hj,Or.inl (by rw [<-h.nt];exact hx)⟩,e,Ec];simp
   . rw [if_neg (fun q=>e q.1),mc _ _ e];exact h.fl x hx j hj}
theorem Alike.Oa{M:Mv}{R:Rv}(h:Alike M R)(t:Int):Alike (M.Oa t) (R.Oa t):=by
 unfold Mv.Oa Rv.Oa;rw [<-h.nt]
 split
 . rename_i c;refine (h.fenced t ?_).note _ _
   unfold Bb at c;by_cases q:t<0\/(M.nt:Int)<=t
   . rw [if_pos q]at c;omega
   . omega
 . exact h.note _ _
def Rv.nC(M:Rv)(a:Acc):Rv:=
 if a.ki=1 then M.load a.th a.pl
 else if a.ki=2 then M.store a.th a.pl a.ne
 else if a.ki=3 then M.swap a.th a.pl (if a.dn then a.ol else 18446744073709551615 -a.ol) a.ne
 else if a.ki=4 then M.Ka a.th a.pl
 else if a.ki=5 then M.Oa a.th
 else M
def Iap(x y:Acc):Bool:=x.ki==y.ki&&x.th==y.th&&x.pl==y.pl&&x.ol==y.ol&&x.ne==y.ne&&x.dn==y.dn
def UI(R:Rv)(l:Nat->Acc):Nat->Rv×Nat
 |0=>(R,0)
 |k+1=>((UI R l k).1.nC (l k),if(UI R l k).2=k/\(1<=(l k).ki/\(l k).ki<=5)/\Iap ((UI R l k).1.nC (l k)).la (l k)=true then k+1 else(UI R l k).2)
theorem bt(M:Mv)(x:Acc)(nw:Int)(pu:Bool):(M.Oe x nw pu).wm=M.wm/\(M.Oe x nw pu).m=M.m/\(M.Oe x nw pu).d=M.d:=by
 unfold Mv.Oe Mv.note
 show(if _ then _ else _:Mv).wm=_/\(if _ then _ else _:Mv).m=_/\(if _ then _ else _:Mv).d=_
 split
 . unfold Mv.put;split<;>exact ⟨rfl,rfl,rfl⟩
 . exact ⟨rfl,rfl,rfl⟩
structure Dc where
 th:Int
 sl:Int
 lo:Int
 bu:Int
def Dc.cells(c:Dc):Array Value:=#[.int .i64 c.th, .int .i64 c.sl, .int .i64 c.lo, .int .i64 c.bu]
def Dc.right(c:Dc):Prop:=1<=c.th/\c.th<=64/\1<=c.sl/\c.sl<=65536/\1<=c.lo/\c.lo<=64/\1<=c.bu/\c.bu<=64
instance(c:Dc):Decidable c.right:=by unfold Dc.right;infer_instance
def Dc.qm(c:Dc):Prop:=c.right/\c.th<=6/\c.sl<=30/\c.lo<=8/\c.bu<=8
instance(c:Dc):Decidable c.qm:=by unfold Dc.qm;infer_instance
def xz(r:Bool)(w:World)(e:Ending)(w':World):Prop:=e= .returned (.bool r)/\Below w.heap.size w w'
theorem di(n m:Int)(w:World):Calls Tryz.prog 200 #[.int .i64 n, .int .i64 m] w fun e w'=>e= .returned (.bool (decide (1<=n/\n<=m)))/\w'=w:=by
 by_cases h:1<=n
 . have d1:decide (1<=n)=true:=ca h;have e:decide (1<=n/\n<=m)=decide (n<=m):=by simp [h]
   rw [e]
   go_enter Tryz.func200,Tryz.ntmps200
   go_wp2
   all_goals
    go_ret
    exact ⟨by simp_all,rfl⟩
 . have d1:decide (1<=n)=false:=ea h;have e:decide (1<=n/\n<=m)=false:=ea (fun k=>h k.1);rw [e]
   go_enter Tryz.func200,Tryz.ntmps200
   go_wp2
   go_ret
   exact ⟨rfl,rfl⟩
theorem yz(c:Dc)(w:World):Calls Tryz.prog 81 #[.agg c.cells] w (xz (decide c.right) w):=by
 obtain ⟨th,sl,lo,bu⟩:=c;obtain ⟨r,hr⟩:∃r,r=decide (Dc.right ⟨th,sl,lo,bu⟩):=⟨_,rfl⟩;rw [<-hr];have HR:Hid (r=decide (1<=th/\th<=64/\1<=sl/\sl<=65536/\1<=lo/\lo<=64/\1<=bu/\bu<=64)):=Lib.hid hr;clear hr;simp only [Dc.cells];by_cases h0:1<=th
 rotate_left
 . have d0:decide (1<=th)=false:=ea h0;have HV:Hid (r=false):=Lib.hid (by rw [HR.out];exact ea (by omega));clear HR
   go_enter Tryz.func81,Tryz.ntmps81
   go_wp2_with fail
   go_ret
   exact ⟨by rw [HV.out];rfl,(Below.refl _ _).alloc (Nat.le_refl _) _⟩
 have d0:decide (1<=th)=true:=ca h0;by_cases h1:th<=64
 rotate_left
 . have d1:decide (th<=64)=false:=ea h1;have HV:Hid (r=false):=Lib.hid (by rw [HR.out];exact ea (by omega));clear HR
   go_enter Tryz.func81,Tryz.ntmps81
   go_wp2_with fail
   go_ret
   exact ⟨by rw [HV.out];rfl,(Below.refl _ _).alloc (Nat.le_refl _) _⟩
 have d1:decide (th<=64)=true:=ca h1;by_cases h2:1<=sl
 rotate_left
 . have d2:decide (1<=sl)=false:=ea h2;have HV:Hid (r=false):=Lib.hid (by rw [HR.out];exact ea (by omega));clear HR
   go_enter Tryz.func81,Tryz.ntmps81
   go_wp2_with fail
   go_ret
   exact ⟨by rw [HV.out];rfl,(Below.refl _ _).alloc (Nat.le_refl _) _⟩
 have d2:decide (1<=sl)=true:=ca h2;by_cases h3:sl<=65536
 rotate_left
 . have d3:decide (sl<=65536)=false:=ea h3;have HV:Hid (r=false):=Lib.hid (by rw [HR.out];exact ea (by omega));clear HR
   go_enter Tryz.func81,Tryz.ntmps81
   go_wp2_with fail
   go_ret
   exact ⟨by rw [HV.out];rfl,(Below.refl _ _).alloc (Nat.le_refl _) _⟩
 have d3:decide (sl<=65536)=true:=ca h3;by_cases h4:1<=lo
 rotate_left
 . have d4:decide (1<=lo)=false:=ea h4;have HV:Hid (r=false):=Lib.hid (by rw [HR.out];exact ea (by omega));clear HR
   go_enter Tryz.func81,Tryz.ntmps81
   go_wp2_with fail
   go_ret
   exact ⟨by rw [HV.out];rfl,(Below.refl _ _).alloc (Nat.le_refl _) _⟩
 have d4:decide (1<=lo)=true:=ca h4;by_cases h5:lo<=64
 rotate_left
 . have d5:decide (lo<=64)=false:=ea h5;have HV:Hid (r=false):=Lib.hid (by rw [HR.out];exact ea (by omega));clear HR
   go_enter Tryz.func81,Tryz.ntmps81
   go_wp2_with fail
   go_ret
   exact ⟨by rw [HV.out];rfl,(Below.refl _ _).alloc (Nat.le_refl _) _⟩
 have d5:decide (lo<=64)=true:=ca h5;by_cases h6:1<=bu
 rotate_left
 . have d6:decide (1<=bu)=false:=ea h6;have HV:Hid (r=false):=Lib.hid (by rw [HR.out];exact ea (by omega));clear HR
   go_enter Tryz.func81,Tryz.ntmps81
   go_wp2_with fail
   go_ret
   exact ⟨by rw [HV.out];rfl,(Below.refl _ _).alloc (Nat.le_refl _) _⟩
 have d6:decide (1<=bu)=true:=ca h6;by_cases h7:bu<=64
 rotate_left
 . have d7:decide (bu<=64)=false:=ea h7;have HV:Hid (r=false):=Lib.hid (by rw [HR.out];exact ea (by omega));clear HR
   go_enter Tryz.func81,Tryz.ntmps81
   go_wp2_with fail
   go_ret
   exact ⟨by rw [HV.out];rfl,(Below.refl _ _).alloc (Nat.le_refl _) _⟩
 have d7:decide (bu<=64)=true:=ca h7;have HV:Hid (r=true):=Lib.hid (by rw [HR.out];exact ca (by omega));clear HR
 go_enter Tryz.func81,Tryz.ntmps81
 go_wp2_with fail
 go_ret
 exact ⟨by rw [HV.out];rfl,(Below.refl _ _).alloc (Nat.le_refl _) _⟩
theorem VI(c:Dc)(w:World):Calls Tryz.prog 98 #[.agg c.cells] w (xz (decide c.right) w):=by
 obtain ⟨th,sl,lo,bu⟩:=c;obtain ⟨r,hr⟩:∃r,r=decide (Dc.right ⟨th,sl,lo,bu⟩):=⟨_,rfl⟩;rw [<-hr];have HR:Hid (r=decide (1<=th/\th<=64/\1<=sl/\sl<=65536/\1<=lo/\lo<=64/\1<=bu/\bu<=64)):=Lib.hid hr;clear hr;simp only [Dc.cells];by_cases h0:1<=th/\th<=64
 rotate_left
 . have Z1:Hid (∀w,Calls Tryz.prog 200 #[.int .i64 th, .int .i64 64] w fun e w'=>e= .returned (.bool false)/\w'=w):=Lib.hid fun w=>by rw [<-ea h0];exact di _ _ w
   have HV:Hid (r=false):=Lib.hid (by rw [HR.out];exact ea (by omega));clear HR
   go_enter Tryz.func98,Tryz.ntmps98
   go_wp2_with (go_at_call 200;(with_reducible first|refine (Z1.out _).mono ?_);rintro e w' ⟨rfl,rfl⟩)
   go_ret
   exact ⟨by rw [HV.out];rfl,(Below.refl _ _).alloc (Nat.le_refl _) _⟩
 have Z1:Hid (∀w,Calls Tryz.prog 200 #[.int .i64 th, .int .i64 64] w fun e w'=>e= .returned (.bool true)/\w'=w):=Lib.hid fun w=>by rw [<-ca h0];exact di _ _ w
 by_cases h1:1<=sl/\sl<=65536
 rotate_left
 . have HF1:Hid (∀w,Calls Tryz.prog 200 #[.int .i64 sl, .int .i64 65536] w fun e w'=>e= .returned (.bool false)/\w'=w):=Lib.hid fun w=>by rw [<-ea h1];exact di _ _ w
   have HV:Hid (r=false):=Lib.hid (by rw [HR.out];exact ea (by omega));clear HR
   go_enter Tryz.func98,Tryz.ntmps98
   go_wp2_with (go_at_call 200;(with_reducible first|refine (Z1.out _).mono ?_|refine (HF1.out _).mono ?_);rintro e w' ⟨rfl,rfl⟩)
   go_ret
   exact ⟨by rw [HV.out];rfl,(Below.refl _ _).alloc (Nat.le_refl _) _⟩
 have HF1:Hid (∀w,Calls Tryz.prog 200 #[.int .i64 sl, .int .i64 65536] w fun e w'=>e= .returned (.bool true)/\w'=w):=Lib.hid fun w=>by rw [<-ca h1];exact di _ _ w
 by_cases h2:1<=lo/\lo<=64
 rotate_left
 . have HF2:Hid (∀w,Calls Tryz.prog 200 #[.int .i64 lo, .int .i64 64] w fun e w'=>e= .returned (.bool false)/\w'=w):=Lib.hid fun w=>by rw [<-ea h2];exact di _ _ w
   have HV:Hid (r=false):=Lib.hid (by rw [HR.out];exact ea (by omega));clear HR
   go_enter Tryz.func98,Tryz.ntmps98
   go_wp2_with (go_at_call 200;(with_reducible first|refine (Z1.out _).mono ?_|refine (HF1.out _).mono ?_|refine (HF2.out _).mono ?_);rintro e w' ⟨rfl,rfl⟩)
   go_ret
   exact ⟨by rw [HV.out];rfl,(Below.refl _ _).alloc (Nat.le_refl _) _⟩
 have HF2:Hid (∀w,Calls Tryz.prog 200 #[.int .i64 lo, .int .i64 64] w fun e w'=>e= .returned (.bool true)/\w'=w):=Lib.hid fun w=>by rw [<-ca h2];exact di _ _ w
 by_cases h3:1<=bu/\bu<=64
 rotate_left
 . have HF3:Hid (∀w,Calls Tryz.prog 200 #[.int .i64 bu, .int .i64 64] w fun e w'=>e= .returned (.bool false)/\w'=w):=Lib.hid fun w=>by rw [<-ea h3];exact di _ _ w
   have HV:Hid (r=false):=Lib.hid (by rw [HR.out];exact ea (by omega));clear HR
   go_enter Tryz.func98,Tryz.ntmps98
   go_wp2_with (go_at_call 200;(with_reducible first|refine (Z1.out _).mono ?_|refine (HF1.out _).mono ?_|refine (HF2.out _).mono ?_|refine (HF3.out _).mono ?_);rintro e w' ⟨rfl,rfl⟩)
   go_ret
   exact ⟨by rw [HV.out];rfl,(Below.refl _ _).alloc (Nat.le_refl _) _⟩
 have HF3:Hid (∀w,Calls Tryz.prog 200 #[.int .i64 bu, .int .i64 64] w fun e w'=>e= .returned (.bool true)/\w'=w):=Lib.hid fun w=>by rw [<-ca h3];exact di _ _ w
 have HV:Hid (r=true):=Lib.hid (by rw [HR.out];exact ca (by omega));clear HR
 go_enter Tryz.func98,Tryz.ntmps98
 go_wp2_with (go_at_call 200;(with_reducible first|refine (Z1.out _).mono ?_|refine (HF1.out _).mono ?_|refine (HF2.out _).mono ?_|refine (HF3.out _).mono ?_);rintro e w' ⟨rfl,rfl⟩)
 go_ret
 exact ⟨by rw [HV.out];rfl,(Below.refl _ _).alloc (Nat.le_refl _) _⟩
theorem Zw(c:Dc)(w:World):Calls Tryz.prog 22 #[.agg c.cells] w (xz (decide c.qm) w):=by
 have TX:=Lib.hid fun w=>yz c w
 have HFF:Hid (c.qm<->c.right/\c.th<=6/\c.sl<=30/\c.lo<=8/\c.bu<=8):=Lib.hid Iff.rfl;obtain ⟨R,hR⟩:∃R,R=decide c.right:=⟨_,rfl⟩;rw [<-hR]at TX;obtain ⟨r,hr⟩:∃r,r=decide c.qm:=⟨_,rfl⟩;rw [<-hr];have HR:Hid (r=decide (R=true/\c.th<=6/\c.sl<=30/\c.lo<=8/\c.bu<=8)):=Lib.hid (by rw [hr,hR];apply decide_eq_decide.2;rw [HFF.out];simp);clear hr hR HFF;obtain ⟨th,sl,lo,bu⟩:=c;simp only [Dc.cells]at*;cases R
 . have HV0:=HR;have HV:Hid (r=false):=Lib.hid (by rw [HR.out];exact ea (fun h=>by cases h.1));clear HR
   go_enter Tryz.func22,Tryz.ntmps22
   go_wp2_with (go_at_call 81;(with_reducible refine (TX.out _).mono ?_);rintro e w' ⟨rfl,hb⟩;have l0:=hb.cell (p:=⟨w.heap.size,0,none⟩) (by simp);have l1:=hb.cell (p:=⟨w.heap.size,1,none⟩) (by simp);have l2:=hb.cell (p:=⟨w.heap.size,2,none⟩) (by simp);have l3:=hb.cell (p:=⟨w.heap.size,3,none⟩) (by simp);have HB:Hid (Below w.heap.size w w'):=Lib.hid (((Below.refl _ _).alloc (Nat.le_refl _) _).trans (hb.mono (by simp)));clear hb)
   go_ret
   exact ⟨by rw [HV.out];rfl,HB.out⟩
 by_cases h0:th<=6
 rotate_left
 . have d0:decide (th<=6)=false:=ea h0;have HV:Hid (r=false):=Lib.hid (by rw [HR.out];exact ea (by omega));clear HR
   go_enter Tryz.func22,Tryz.ntmps22
   go_wp2_with (go_at_call 81;(with_reducible refine (TX.out _).mono ?_);rintro e w' ⟨rfl,hb⟩;have l0:=hb.cell (p:=⟨w.heap.size,0,none⟩) (by simp);have l1:=hb.cell (p:=⟨w.heap.size,1,none⟩) (by simp);have l2:=hb.cell (p:=⟨w.heap.size,2,none⟩) (by simp);have l3:=hb.cell (p:=⟨w.heap.size,3,none⟩) (by simp);have HB:Hid (Below w.heap.size w w'):=Lib.hid (((Below.refl _ _).alloc (Nat.le_refl _) _).trans (hb.mono (by simp)));clear hb)
   go_ret
   exact ⟨by rw [HV.out];rfl,HB.out⟩
 have d0:decide (th<=6)=true:=ca h0;by_cases h1:sl<=30
 rotate_left
 . have d1:decide (sl<=30)=false:=ea h1;have HV:Hid (r=false):=Lib.hid (by rw [HR.out];exact ea (by omega));clear HR
   go_enter Tryz.func22,Tryz.ntmps22
   go_wp2_with (go_at_call 81;(with_reducible refine (TX.out _).mono ?_);rintro e w' ⟨rfl,hb⟩;have l0:=hb.cell (p:=⟨w.heap.size,0,none⟩) (by simp);have l1:=hb.cell (p:=⟨w.heap.size,1,none⟩) (by simp);have l2:=hb.cell (p:=⟨w.heap.size,2,none⟩) (by simp);have l3:=hb.cell (p:=⟨w.heap.size,3,none⟩) (by simp);have HB:Hid (Below w.heap.size w w'):=Lib.hid (((Below.refl _ _).alloc (Nat.le_refl _) _).trans (hb.mono (by simp)));clear hb)
   go_ret
   exact ⟨by rw [HV.out];rfl,HB.out⟩
 have d1:decide (sl<=30)=true:=ca h1;by_cases h2:lo<=8
 rotate_left
 . have d2:decide (lo<=8)=false:=ea h2;have HV:Hid (r=false):=Lib.hid (by rw [HR.out];exact ea (by omega));clear HR
   go_enter Tryz.func22,Tryz.ntmps22
   go_wp2_with (go_at_call 81;(with_reducible refine (TX.out _).mono ?_);rintro e w' ⟨rfl,hb⟩;have l0:=hb.cell (p:=⟨w.heap.size,0,none⟩) (by simp);have l1:=hb.cell (p:=⟨w.heap.size,1,none⟩) (by simp);have l2:=hb.cell (p:=⟨w.heap.size,2,none⟩) (by simp);have l3:=hb.cell (p:=⟨w.heap.size,3,none⟩) (by simp);have HB:Hid (Below w.heap.size w w'):=Lib.hid (((Below.refl _ _).alloc (Nat.le_refl _) _).trans (hb.mono (by simp)));clear hb)
   go_ret
   exact ⟨by rw [HV.out];rfl,HB.out⟩
 have d2:decide (lo<=8)=true:=ca h2;by_cases h3:bu<=8
 rotate_left
 . have d3:decide (bu<=8)=false:=ea h3;have HV:Hid (r=false):=Lib.hid (by rw [HR.out];exact ea (by omega));clear HR
   go_enter Tryz.func22,Tryz.ntmps22
   go_wp2_with (go_at_call 81;(with_reducible refine (TX.out _).mono ?_);rintro e w' ⟨rfl,hb⟩;have l0:=hb.cell (p:=⟨w.heap.size,0,none⟩) (by simp);have l1:=hb.cell (p:=⟨w.heap.size,1,none⟩) (by simp);have l2:=hb.cell (p:=⟨w.heap.size,2,none⟩) (by simp);have l3:=hb.cell (p:=⟨w.heap.size,3,none⟩) (by simp);have HB:Hid (Below w.heap.size w w'):=Lib.hid (((Below.refl _ _).alloc (Nat.le_refl _) _).trans (hb.mono (by simp)));clear hb)
   go_ret
   exact ⟨by rw [HV.out];rfl,HB.out⟩
 have d3:decide (bu<=8)=true:=ca h3;have HV:Hid (r=true):=Lib.hid (by rw [HR.out];exact ca ⟨rfl,by omega,by omega,by omega,by omega⟩);clear HR
 go_enter Tryz.func22,Tryz.ntmps22
 go_wp2_with (go_at_call 81;(with_reducible refine (TX.out _).mono ?_);rintro e w' ⟨rfl,hb⟩;have l0:=hb.cell (p:=⟨w.heap.size,0,none⟩) (by simp);have l1:=hb.cell (p:=⟨w.heap.size,1,none⟩) (by simp);have l2:=hb.cell (p:=⟨w.heap.size,2,none⟩) (by simp);have l3:=hb.cell (p:=⟨w.heap.size,3,none⟩) (by simp);have HB:Hid (Below w.heap.size w w'):=Lib.hid (((Below.refl _ _).alloc (Nat.le_refl _) _).trans (hb.mono (by simp)));clear hb)
 go_ret
 exact ⟨by rw [HV.out];rfl,HB.out⟩
end Go.Proofs.YtfnkmolffhfpoaaGreat
