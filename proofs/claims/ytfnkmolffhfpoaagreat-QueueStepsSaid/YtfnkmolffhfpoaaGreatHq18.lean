/- -/
import Derived.Test.YtfnkmolffhfpoaaGreatHq17
set_option linter.unusedVariables false
set_option linter.unusedSimpArgs false
namespace Go.Proofs.YtfnkmolffhfpoaaGreat
open Go.RowKit Go.BigFrame
structure Mv.Ne(M:Mv):Prop where
 md:M.m≠M.d
 C8:M.m≠M.kb
 ms:M.m≠M.sb
 mw:M.m≠M.wb
 mf:M.m≠M.fb
 mp:M.m≠M.pb
 dk:M.d≠M.kb
 ds:M.d≠M.sb
 dw:M.d≠M.wb
 df:M.d≠M.fb
 dp:M.d≠M.pb
 ks:M.kb≠M.sb
 kw:M.kb≠M.wb
 kf:M.kb≠M.fb
 kp:M.kb≠M.pb
 sw:M.sb≠M.wb
 sf:M.sb≠M.fb
 sp:M.sb≠M.pb
 wf:M.wb≠M.fb
 wp:M.wb≠M.pb
 fp:M.fb≠M.pb
theorem za.ne{W:World}{M:Mv}(h:za W M):M.Ne:=by
 have:=h.apart;simp only [Mv.blocks,List.nodup_cons,List.mem_cons,List.not_mem_nil,or_false,not_or,List.nodup_nil,and_true,not_false_eq_true]at this;obtain ⟨⟨a1,a2,a3,a4,a5,a6⟩,⟨b1,b2,b3,b4,b5⟩,⟨c1,c2,c3,c4⟩,⟨d1,d2,d3⟩,⟨e1,e2⟩,f1⟩:=this;exact ⟨a1,a2,a3,a4,a5,a6,b1,b2,b3,b4,b5,c1,c2,c3,c4,d1,d2,d3,e1,e2,f1⟩
theorem za.RP{W:World}{M:Mv}(h:za W M){b:Nat}(hb:b∈M.blocks)(j:Nat)(v:Value)(t:Nat)(ht:t<M.nt):Of (W.setCell ⟨b,j,none⟩ v) (M.fv t) (M.fl t):=
 (h.fl t ht).keep fun g hg=>aa fun e=>h.alone t ht g hg (e▸hb)
theorem za.cn{W:World}{M:Mv}(h:za W M)(k:Nat)(v:Int):za (W.setCell ⟨M.sb,k,none⟩ (.int .u64 v)) {M with seen:=Mc M.seen k v}:=by
 have n:=h.ne;exact {h with
  row:=(aa n.ms).trans h.row
  dev:=(aa n.ds).trans h.dev
  kept:=h.kept.keep (aa n.ks)
  seen:=by
   have:=h.seen.set k (.int .u64 v);simp only [aj];exact this
  wr:=h.wr.keep (aa (Ne.symm n.sw))
  fb:=h.fb.keep (aa (Ne.symm n.sf))
  pass:=h.pass.keep (aa (Ne.symm n.sp))
  fl:=fun t ht=>h.RP (by simp [Mv.blocks]) _ _ t ht}
theorem za.en{W:World}{M:Mv}(h:za W M)(k:Nat)(v:Int):za (W.setCell ⟨M.pb,k,none⟩ (.int .u64 v)) {M with pass:=Mc M.pass k v}:=by
 have n:=h.ne;exact {h with
  row:=(aa n.mp).trans h.row
  dev:=(aa n.dp).trans h.dev
  kept:=h.kept.keep (aa n.kp)
  seen:=h.seen.keep (aa n.sp)
  wr:=h.wr.keep (aa n.wp)
  fb:=h.fb.keep (aa n.fp)
  pass:=by
   have:=h.pass.set k (.int .u64 v);simp only [aj];exact this
  fl:=fun t ht=>h.RP (by simp [Mv.blocks]) _ _ t ht}
def Mv.note(M:Mv)(x:Acc)(is:Bool):Mv:={M with ck:=M.ck+1,bd:=if is then M.bd else M.bd+1,la:=x}
theorem za.note{W W':World}{M:Mv}(h:za W M)(x:Acc)(is:Bool)(hr:pk W' M.m (.pointer (some ⟨M.d,0,none⟩)) (.slice (some ⟨M.pb,0,none⟩) M.np M.c4) (M.ck+1) (if is then M.bd else M.bd+1) x)(hb:Fu M.m W W'):za W' (M.note x is):=by
 have n:=h.ne;have o:∀k,M.own k->k≠M.m->W'.heap[k]?=W.heap[k]?:=fun k hk e=>hb.block k (h.lt hk) e
 have i:∀k,k∈M.blocks->M.own k:=fun k hk=>Or.inl hk
 exact {h with
  row:=hr
  dev:=(o _ (i _ (by simp [Mv.blocks])) (Ne.symm n.md)).trans h.dev
  kept:=h.kept.keep (o _ (i _ (by simp [Mv.blocks])) (Ne.symm n.C8))
  seen:=h.seen.keep (o _ (i _ (by simp [Mv.blocks])) (Ne.symm n.ms))
  wr:=h.wr.keep (o _ (i _ (by simp [Mv.blocks])) (Ne.symm n.mw))
  fb:=h.fb.keep (o _ (i _ (by simp [Mv.blocks])) (Ne.symm n.mf))
  pass:=h.pass.keep (o _ (i _ (by simp [Mv.blocks])) (Ne.symm n.mp))
  fl:=fun t ht=>(h.fl t ht).keep fun g hg=>o g (Or.inr ⟨t,ht,hg⟩) fun e=>h.alone t ht g hg (by rw [e];simp [Mv.blocks])
  Cm:=by have:=h.Cm;simp only [Mv.note];omega
  Oy:=by have:=h.Oy;simp only [Mv.note];split<;>omega
  ju:=by have:=h.ju;simp only [Mv.note];split<;>omega}
theorem za.words{W:World}{M:Mv}(h:za W M):Gu W M.m M.d M.sb M.n M.c1 (some ⟨M.pb,0,none⟩) M.np M.c4 M.seen M.pass where
 dv:=by have:=(Uc h.row).1;exact this
 ps:=(Uc h.row).2.1
 sn:=by rw [cell_of_row _ _ 1 _ _ _ h.dev];rfl
 sw:=fun k hk=>h.seen.cell (by omega)
 pw:=fun _=>⟨M.pb,rfl,fun k hk=>h.pass.cell hk⟩
def Mv.La(M:Mv)(at_:Int):Int×Bool:=te M.n M.np M.seen M.pass at_
theorem IJ(M:Mv)(at_:Int)(q0:-9223372036854775808<=at_)(q1:at_<=9223372036854775807)(W:World)(h:za W M):
  Calls Tryz.prog 77 #[.pointer (some ⟨M.m,0,none⟩), .int .i64 at_] W (Tg (.tuple #[.int .u64 (M.La at_).1, .bool (M.La at_).2]) W):=
 g8 M.m M.d M.sb M.n M.c1 h.n1 _ M.np M.c4 h.p1 M.seen M.pass at_ q0 q1 W h.words
def Mv.put(M:Mv)(at_ v:Int):Mv:=if 0<=at_ then{M with seen:=Mc M.seen at_.toNat v}else{M with pass:=Mc M.pass (-1 -at_).toNat v}
theorem Mv.JJ(M:Mv)(at_ v:Int):(M.put at_ v).own=M.own:=by unfold Mv.put;split<;>rfl
theorem Mv.AX(M:Mv)(at_ v:Int):(M.put at_ v).m=M.m:=by unfold Mv.put;split<;>rfl
theorem Mv.zai(M:Mv)(at_ v:Int):(M.put at_ v).d=M.d:=by unfold Mv.put;split<;>rfl
theorem Mv.Fw(M:Mv)(at_ v:Int):(M.put at_ v).ck=M.ck:=by unfold Mv.put;split<;>rfl
def Oq(M M':Mv)(W:World)(e:Ending)(W':World):Prop:=(∃x,e= .returned x)/\za W' M'/\Ba M.own W W'
theorem Caw(M:Mv)(at_ v:Int)(W:World)(h:za W M)(hp:(M.La at_).2=true):
  Calls Tryz.prog 204 #[.pointer (some ⟨M.m,0,none⟩), .int .i64 at_, .int .u64 v] W (Oq M (M.put at_ v) W):=by
 unfold Mv.La te at hp;by_cases h0:0<=at_
 . rw [if_pos h0]at hp;have h1:at_/8<(M.n:Int):=by by_cases q:at_/8<(M.n:Int)<;>simp [q]at hp⊢
   have e:((at_.toNat:Nat):Int)=at_:=by omega
   have:=oH M.m M.d M.sb M.n M.c1 h.n1 _ M.np M.c4 M.seen M.pass at_.toNat (by omega) v W h.words h.seen.free;rw [e]at this;refine this.mono ?_
   rintro e' W' ⟨hx,w1,hh,hb,rfl⟩;have h1':za w1 M:=h.below hb;refine ⟨hx, ?_,(Ba.Sb hb).set (fun _=>Or.inl (by simp [Mv.blocks])) _ _⟩;unfold Mv.put;rw [if_pos h0];exact h1'.cn _ _
 . rw [if_neg h0]at hp;have h1:-1 -at_<(M.np:Int):=by by_cases q:-1 -at_<(M.np:Int)<;>simp [q]at hp⊢
   have e:(-1 -((-1 -at_).toNat:Int))=at_:=by omega
   have:=pH M.m M.d M.sb M.n M.c1 M.pb M.np M.c4 h.p1 M.seen M.pass (-1 -at_).toNat (by omega) v W h.words h.pass.free
   rw [e]at this;refine this.mono ?_
   rintro e' W' ⟨hx,w1,hh,hb,rfl⟩;have h1':za w1 M:=h.below hb;refine ⟨hx, ?_,(Ba.Sb hb).set (fun _=>Or.inl (by simp [Mv.blocks])) _ _⟩;unfold Mv.put;rw [if_neg h0];exact h1'.en _ _
theorem sH(M:Mv)(x:Acc)(is:Bool)(W:World)(h:za W M)(hc:M.ck<=1000000):
  Calls Tryz.prog 205 #[.pointer (some ⟨M.m,0,none⟩), .agg x.cells, .bool is] W (Oq M (M.note x is) W):=by
 have:=h.ju;refine (EJ M.m _ _ M.ck M.bd h.Cm hc h.Oy (by omega) M.la x is W h.row).mono ?_
 rintro e W' ⟨hx,hr,hb⟩;exact ⟨hx,h.note x is hr hb,Ba.OP hb fun _=>Or.inl (by simp [Mv.blocks])⟩
theorem Yo(M:Mv)(x:Acc)(er:Int)(W:World)(h:za W M)(hc:M.ck<=1000000):
  Calls Tryz.prog 170 #[.pointer (some ⟨M.m,0,none⟩), .agg x.cells, .int .i64 er] W (Oq M (M.note ⟨x.ki,x.th,x.pl,x.ol,x.ne,er==0⟩ (er==0)) W):=by
 have:=h.ju;refine (b8 M.m _ _ M.ck M.bd h.Cm hc h.Oy (by omega) M.la x er W h.row).mono ?_
 rintro e W' ⟨hx,hr,hb⟩;exact ⟨hx,h.note _ _ hr hb,Ba.OP hb fun _=>Or.inl (by simp [Mv.blocks])⟩
def Mv.res(M:Mv)(x:Acc)(pu:Bool):Acc:=if(M.La x.pl).2 then⟨x.ki,x.th,x.pl,(M.La x.pl).1,x.ne,pu||x.ki==1⟩else x
def Mv.Me(M:Mv)(x:Acc)(nw:Int)(pu:Bool):Mv:=(if(M.La x.pl).2&&pu then M.put x.pl nw else M).note (M.res x pu) (M.La x.pl).2
def Zo(M M':Mv)(v:Value)(W:World)(e:Ending)(W':World):Prop:=e= .returned v/\za W' M'/\Ba M.own W W'
theorem Dd{W:World}{b:Nat}{k0 k1 k2 k3 k4 k5:Value}{t:TypeId}(h:W.heap[b]?=some (.cells #[k0,k1,k2,k3,k4,k5] t (0,0))):
  W.cell? ⟨b,0,none⟩=some k0/\W.cell? ⟨b,1,none⟩=some k1/\W.cell? ⟨b,2,none⟩=some k2/\W.cell? ⟨b,3,none⟩=some k3/\W.cell? ⟨b,4,none⟩=some k4/\W.cell? ⟨b,5,none⟩=some k5/\∀j,W.frozen? ⟨b,j,none⟩=false:=by
 refine ⟨?_, ?_, ?_, ?_, ?_, ?_,fun j=> ?_⟩
 all_goals first|(rw [cell_of_row _ _ _ _ _ _ h];rfl)|(unfold World.frozen?;rw [h];simp)
theorem Hd(W:World)(a b:Obj):((W.alloc a).alloc b).heap[W.heap.size]?=some a/\((W.alloc a).alloc b).heap[W.heap.size+1]?=some b:=by
 constructor
 . rw [Below.heap_alloc _ _ _ (by simp)];exact heap_alloc_new W a
 . have:=heap_alloc_new (W.alloc a) b;simpa using this
theorem qd{W w:World}{a b:Obj}(h:w.heap=((W.alloc a).alloc b).heap):w.heap[W.heap.size]?=some a/\w.heap[W.heap.size+1]?=some b:=by
 rw [h];exact Hd W a b
theorem gn{w:World}{b j:Nat}{u:Value}(v:Value)(h:w.cell? ⟨b,j,none⟩=some u):(w.setCell ⟨b,j,none⟩ v).cell? ⟨b,j,none⟩=some v:=by
 unfold World.cell? at h
 split at h
 . rename_i c t f e;simp at h;have hl:j<c.size:=(Array.getElem?_eq_some_iff.1 h).1
   rw [cell_of_row _ _ j _ _ _ (heap_set v e)];simp [hl]
 . cases h
theorem Gw{F:Nat->Prop}{a w:World}(h:Ba F a w){b:Nat}(hb:a.heap.size<=b)(v0 v1 v2 v3 v4 v5:Value):
  Ba F a ((((((w.setCell ⟨b,0,none⟩ v0).setCell ⟨b,1,none⟩ v1).setCell ⟨b,2,none⟩ v2).setCell ⟨b,3,none⟩ v3).setCell ⟨b,4,none⟩ v4).setCell ⟨b,5,none⟩ v5):=by
 have e:b<a.heap.size->F b:=fun x=>by omega
 exact ((((((h.set e _ _).set e _ _).set e _ _).set e _ _).set e _ _).set e _ _)
theorem za.six{w:World}{M:Mv}(h:za w M){b:Nat}(hb:¬M.own b)(v0 v1 v2 v3 v4 v5:Value):
  za ((((((w.setCell ⟨b,0,none⟩ v0).setCell ⟨b,1,none⟩ v1).setCell ⟨b,2,none⟩ v2).setCell ⟨b,3,none⟩ v3).setCell ⟨b,4,none⟩ v4).setCell ⟨b,5,none⟩ v5) M:=by
 refine h.keep fun k hk=> ?_
 have e:k≠b:=fun e=>hb (e▸hk)
 rw [aa e,aa e,aa e,aa e,aa e,aa e]
theorem Iu{w:World}{b:Nat}{k0 k1 k2 k3 k4 k5:Value}{t:TypeId}{f:Nat×Nat}(h:w.heap[b]?=some (.cells #[k0,k1,k2,k3,k4,k5] t f))(v0 v1 v2 v3 v4 v5:Value):
  ((((((w.setCell ⟨b,0,none⟩ v0).setCell ⟨b,1,none⟩ v1).setCell ⟨b,2,none⟩ v2).setCell ⟨b,3,none⟩ v3).setCell ⟨b,4,none⟩ v4).setCell ⟨b,5,none⟩ v5).heap[b]?=some (.cells #[v0,v1,v2,v3,v4,v5] t f):=by
 rw [heap_set v5 (heap_set v4 (heap_set v3 (heap_set v2 (heap_set v1 (heap_set v0 h)))))];rfl
theorem Hb{fn:Func}{s:Nat}(hf:fn.results=#[.cell s 112]){tmps:Array Value}{b:Nat}(ht:tmps.getD s undef= .pointer (some ⟨b,0,none⟩)){w:World}{v0 v1 v2 v3 v4 v5:Value}
  (h:w.heap[b]?=some (.cells #[v0,v1,v2,v3,v4,v5] 112 (0,0))):(results fn tmps).run Tryz.prog w= .ok (.agg #[v0,v1,v2,v3,v4,v5]) w:=by
 obtain ⟨z0,z1,z2,z3,z4,z5,zf⟩:=Dd h;have dm:tmps[s]?.getD undef= .pointer (some ⟨b,0,none⟩):=by simpa using ht
 simp only [results,hf];simp [go_sem,dm,z0,z1,z2,z3,z4,z5]
theorem za.rb{W:World}{M:Mv}(h:za W M){k:Nat}(hk:W.heap.size<=k):¬M.own k:=fun e=>by have:=h.lt e;omega
set_option maxRecDepth 100000 in
theorem wM(M:Mv)(x:Acc)(fv:Value)(W:World)(h:za W M)(hc:M.ck<=1000000)(q0:-9223372036854775808<=x.pl)(q1:x.pl<=9223372036854775807)(hp:(M.La x.pl).2=false):
  Calls Tryz.prog 106 #[.pointer (some ⟨M.m,0,none⟩), .agg x.cells,fv] W (Zo M (M.note x false) (.agg x.cells) W):=by
 have HM:=Lib.hid h;have HP:Hid (∀w,za w M->Calls Tryz.prog 77 #[.pointer (some ⟨M.m,0,none⟩), .int .i64 x.pl] w (Tg (.tuple #[.int .u64 (M.La x.pl).1, .bool false]) w)):=Lib.hid fun w hw=>by have:=IJ M x.pl q0 q1 w hw;rw [hp]at this;exact this
 have HC:Hid (∀w,za w M->Calls Tryz.prog 205 #[.pointer (some ⟨M.m,0,none⟩), .agg x.cells, .bool false] w (Oq M (M.note x false) w)):=Lib.hid fun w hw=>sH M x false w hw hc
 clear h hp;generalize (M.La x.pl).1=o at*
 obtain ⟨N,hN⟩:∃N,N=M.note x false:=⟨_,rfl⟩;have HN:Hid (∀k,N.own k->M.own k):=Lib.hid fun k hk=>by rw [hN]at hk;exact hk
 rw [<-hN]at HC⊢;clear hN;obtain ⟨ki,th,pl,ol,ne,dn⟩:=x;simp only [Acc.cells]at*
 go_enter Tryz.func106,Tryz.ntmps106
 go_wp2_with fail
 refine (HP.out _ (HM.out.below (((Below.refl _ _).alloc (Nat.le_refl _) _).alloc (by simp) _))).mono ?_
 rintro e w1 ⟨rfl,hb,hh⟩;have HH:=Lib.hid hh;obtain ⟨ra,rr⟩:=qd hh;obtain ⟨a0,a1,a2,a3,a4,a5,af⟩:=Dd ra;obtain ⟨r0,r1,r2,r3,r4,r5,rf⟩:=Dd rr;have HB:Hid (Below W.heap.size W w1):=Lib.hid ((((Below.refl _ _).alloc (Nat.le_refl _) _).alloc (by simp) _).trans (hb.mono (by simp;omega)));have HS:Hid (W.heap.size+1<w1.heap.size):=Lib.hid (by rw [hh];simp);have HA:=Lib.hid ra;have HR:=Lib.hid rr;clear hb hh ra rr
 go_wp2_with fail
 refine (HC.out _ (HM.out.below HB.out)).mono ?_
 rintro e w2 ⟨⟨x,rfl⟩,hm,ht⟩;have HT:=Lib.hid ((Ba.Sb (F:=M.own) HB.out).trans ht (fun _ _ h=>h));have ra:=(ht.block W.heap.size (by have:=HS.out;omega) (HM.out.rb (by omega))).trans HA.out
 have rr:=(ht.block (W.heap.size+1) (by have:=HS.out;omega) (HM.out.rb (by omega))).trans HR.out
 have bg:=Lib.hid hm;clear hm ht a0 a1 a2 a3 a4 a5 af r0 r1 r2 r3 r4 r5 rf;obtain ⟨a0,a1,a2,a3,a4,a5,af⟩:=Dd ra;obtain ⟨r0,r1,r2,r3,r4,r5,rf⟩:=Dd rr;have yE:=Lib.hid ra;have HR2:=Lib.hid rr;clear ra rr
 go_wp2_with fail
 refine bodyPost_ret (v:= .agg #[.int .i64 ki, .int .i64 th, .int .i64 pl, .int .u64 ol, .int .u64 ne, .bool dn]) ?_ rfl ?_
 . exact Hb rfl rfl (Iu HR2.out _ _ _ _ _ _)
 . exact ⟨rfl,bg.out.six (fun e=>HM.out.rb (by omega) (HN.out _ e)) _ _ _ _ _ _,Gw HT.out (by omega) _ _ _ _ _ _⟩
set_option maxRecDepth 100000 in
theorem zE(M:Mv)(x:Acc)(f:Nat)(lb:Array Value)(nw:Int)(ef:∀args w,(callFunc f args).run Tryz.prog w= .ok (.enter f args) w)(W:World)(h:za W M)(hc:M.ck<=1000000)(q0:-9223372036854775808<=x.pl)(q1:x.pl<=9223372036854775807)(hp:(M.La x.pl).2=true)
  (hf:∀w1,Below W.heap.size W w1->Calls Tryz.prog f (#[.int .u64 (M.La x.pl).1]++lb) w1 (Tg (.tuple #[.int .u64 nw, .bool true]) w1)):
  Calls Tryz.prog 106 #[.pointer (some ⟨M.m,0,none⟩), .agg x.cells, .func (.func f) #[] lb] W (Zo M ((M.put x.pl nw).note ⟨x.ki,x.th,x.pl,(M.La x.pl).1,x.ne,true||x.ki==1⟩ true) (.agg (Acc.cells ⟨x.ki,x.th,x.pl,(M.La x.pl).1,x.ne,true||x.ki==1⟩)) W):=by
 have HM:=Lib.hid h;have HP:Hid (∀w,za w M->Calls Tryz.prog 77 #[.pointer (some ⟨M.m,0,none⟩), .int .i64 x.pl] w (Tg (.tuple #[.int .u64 (M.La x.pl).1, .bool true]) w)):=Lib.hid fun w hw=>by have:=IJ M x.pl q0 q1 w hw;rw [hp]at this;exact this
 have HQ:Hid (∀w,za w M->Calls Tryz.prog 204 #[.pointer (some ⟨M.m,0,none⟩), .int .i64 x.pl, .int .u64 nw] w (Oq M (M.put x.pl nw) w)):=Lib.hid fun w hw=>Caw M x.pl nw w hw hp
 have HO:Hid (∀k,(M.put x.pl nw).own k->M.own k):=Lib.hid fun k hk=>by rw [Mv.JJ]at hk;exact hk
 have Mf:(M.put x.pl nw).ck<=1000000:=by rw [Mv.Fw];exact hc
 have hem:(M.put x.pl nw).m=M.m:=Mv.AX _ _ _
 have HF:=Lib.hid hf;clear h hp hf;generalize (M.La x.pl).1=o at*
 obtain ⟨y,hy⟩:∃y,y=(true||x.ki==1):=⟨_,rfl⟩;rw [<-hy];obtain ⟨N0,yV⟩:∃N0,N0=M.put x.pl nw:=⟨_,rfl⟩;rw [<-yV]at HQ HO Mf hem⊢;clear yV;have HC:Hid (∀w,za w N0->Calls Tryz.prog 205 #[.pointer (some ⟨M.m,0,none⟩), .agg (Acc.cells ⟨x.ki,x.th,x.pl,o,x.ne,y⟩), .bool true] w (Oq N0 (N0.note ⟨x.ki,x.th,x.pl,o,x.ne,y⟩ true) w)):=Lib.hid fun w hw=>by have:=sH N0 ⟨x.ki,x.th,x.pl,o,x.ne,y⟩ true w hw Mf;rw [hem]at this;exact this
 obtain ⟨N,hN⟩:∃N,N=N0.note ⟨x.ki,x.th,x.pl,o,x.ne,y⟩ true:=⟨_,rfl⟩;have HN:Hid (∀k,N.own k->M.own k):=Lib.hid fun k hk=>HO.out k (by rw [hN]at hk;exact hk)
 rw [<-hN]at HC⊢;clear hN Mf hem;obtain ⟨ki,th,pl,ol,ne,dn⟩:=x;simp only [Acc.cells]at*;have HY:=Lib.hid hy;clear hy
 go_enter Tryz.func106,Tryz.ntmps106
 go_wp2_with fail
 refine (HP.out _ (HM.out.below (((Below.refl _ _).alloc (Nat.le_refl _) _).alloc (by simp) _))).mono ?_
 rintro e w1 ⟨rfl,hb,hh⟩;obtain ⟨ra,rr⟩:=qd hh;obtain ⟨a0,a1,a2,a3,a4,a5,af⟩:=Dd ra;have HB:Hid (Below W.heap.size W w1):=Lib.hid ((((Below.refl _ _).alloc (Nat.le_refl _) _).alloc (by simp) _).trans (hb.mono (by simp;omega)));have HS:Hid (W.heap.size+1<w1.heap.size):=Lib.hid (by rw [hh];simp);have HA:=Lib.hid ra;have HR:=Lib.hid rr;clear hb hh ra rr
 go_wp2_with fail
 with_reducible refine (HF.out _ (HB.out.setCell (Nat.le_refl _) _)).mono ?_
 rintro e w2 ⟨rfl,hb,hh⟩;have ra:=heap_set (j:=3) (.int .u64 o) HA.out;have rr:=(aa (j:=3) (v:= .int .u64 o) (show W.heap.size+1≠W.heap.size by omega)).trans HR.out
 rw [<-hh]at ra rr;have oO:Hid (Below W.heap.size W w2):=Lib.hid ((HB.out.setCell (Nat.le_refl _) _).trans (hb.mono (by have:=HS.out;simp [World.setCell];omega)));have tH:Hid (W.heap.size+1<w2.heap.size):=Lib.hid (by rw [hh];have:=HS.out;simpa [World.setCell]using this);simp only [List.setIfInBounds_toArray,List.set_cons_succ,List.set_cons_zero]at ra;have yE:=Lib.hid ra;have HR2:=Lib.hid rr;clear a0 a1 a2 a3 a4 a5 af hb hh;obtain ⟨a0,a1,a2,a3,a4,a5,af⟩:=Dd ra;clear ra rr
 go_wp2_with fail
 refine (HQ.out _ (HM.out.below oO.out)).mono ?_
 rintro e w3 ⟨⟨u,rfl⟩,hm,ht⟩;have HT3:=Lib.hid ((Ba.Sb (F:=M.own) oO.out).trans ht (fun _ _ h=>h));have ra:=(ht.block W.heap.size (by have:=tH.out;omega) (HM.out.rb (by omega))).trans yE.out
 have rr:=(ht.block (W.heap.size+1) (by have:=tH.out;omega) (HM.out.rb (by omega))).trans HR2.out
 have D8:Hid (W.heap.size+1<w3.heap.size):=Lib.hid (Nat.lt_of_lt_of_le tH.out ht.size);have HM3:=Lib.hid hm;have HA3:=Lib.hid ra;have HR3:=Lib.hid rr;clear hm ht a0 a1 a2 a3 a4 a5 af;obtain ⟨a0,a1,a2,a3,a4,a5,af⟩:=Dd ra;clear ra rr
 go_wp2_with fail
 obtain rfl:y=true:=by rw [HY.out];simp
 have hmA:za (w3.setCell ⟨W.heap.size,5,none⟩ (.bool true)) N0:=HM3.out.keep fun k hk=>aa fun e=>HM.out.rb (Nat.le_refl _) (e▸HO.out k hk)
 refine (HC.out _ hmA).mono ?_
 rintro e w4 ⟨⟨u',rfl⟩,hm,ht⟩;have HT4:Hid (Ba M.own W w4):=Lib.hid ((HT3.out.set (fun e=>absurd e (by omega)) _ _).trans ht (fun k _ hk=>HO.out k hk));have ra:=(ht.block W.heap.size (by have:=D8.out;simp [World.setCell];omega) (fun e=>HM.out.rb (Nat.le_refl _) (HO.out _ e))).trans (heap_set (j:=5) (.bool true) HA3.out)
 have rr:=(ht.block (W.heap.size+1) (by have:=D8.out;simp [World.setCell];omega) (fun e=>HM.out.rb (by omega) (HO.out _ e))).trans ((aa (j:=5) (v:= .bool true) (show W.heap.size+1≠W.heap.size by omega)).trans HR3.out)
 simp only [List.setIfInBounds_toArray,List.set_cons_succ,List.set_cons_zero]at ra;have HM4:=Lib.hid hm;have HR4:=Lib.hid rr;clear hm ht a0 a1 a2 a3 a4 a5 af hmA;obtain ⟨a0,a1,a2,a3,a4,a5,af⟩:=Dd ra;obtain ⟨r0,r1,r2,r3,r4,r5,rf⟩:=Dd rr;clear ra rr
 go_wp2_with fail
 refine bodyPost_ret (v:= .agg #[.int .i64 ki, .int .i64 th, .int .i64 pl, .int .u64 o, .int .u64 ne, .bool true]) ?_ rfl ?_
 . exact Hb rfl rfl (Iu HR4.out _ _ _ _ _ _)
 . exact ⟨rfl,HM4.out.six (fun e=>HM.out.rb (by omega) (HN.out _ e)) _ _ _ _ _ _,Gw HT4.out (by omega) _ _ _ _ _ _⟩
set_option maxRecDepth 100000 in
theorem VB(M:Mv)(x:Acc)(f:Nat)(lb:Array Value)(nw:Int)(ef:∀args w,(callFunc f args).run Tryz.prog w= .ok (.enter f args) w)(W:World)(h:za W M)(hc:M.ck<=1000000)(q0:-9223372036854775808<=x.pl)(q1:x.pl<=9223372036854775807)(hp:(M.La x.pl).2=true)
  (hf:∀w1,Below W.heap.size W w1->Calls Tryz.prog f (#[.int .u64 (M.La x.pl).1]++lb) w1 (Tg (.tuple #[.int .u64 nw, .bool false]) w1)):
  Calls Tryz.prog 106 #[.pointer (some ⟨M.m,0,none⟩), .agg x.cells, .func (.func f) #[] lb] W (Zo M (M.note ⟨x.ki,x.th,x.pl,(M.La x.pl).1,x.ne,false||x.ki==1⟩ true) (.agg (Acc.cells ⟨x.ki,x.th,x.pl,(M.La x.pl).1,x.ne,false||x.ki==1⟩)) W):=by
 have HM:=Lib.hid h;have HP:Hid (∀w,za w M->Calls Tryz.prog 77 #[.pointer (some ⟨M.m,0,none⟩), .int .i64 x.pl] w (Tg (.tuple #[.int .u64 (M.La x.pl).1, .bool true]) w)):=Lib.hid fun w hw=>by have:=IJ M x.pl q0 q1 w hw;rw [hp]at this;exact this
 have HF:=Lib.hid hf;clear h hp hf;generalize (M.La x.pl).1=o at*
 obtain ⟨y,hy⟩:∃y,y=(false||x.ki==1):=⟨_,rfl⟩;rw [<-hy];obtain ⟨N0,yV⟩:∃N0,N0=M:=⟨_,rfl⟩;have Mf:N0.ck<=1000000:=by rw [yV];exact hc
 have hem:N0.m=M.m:=by rw [yV]
 have HO:Hid (∀k,N0.own k->M.own k):=Lib.hid fun k hk=>by rw [yV]at hk;exact hk
 have HE:=Lib.hid yV;rw [show M.note ⟨x.ki,x.th,x.pl,o,x.ne,y⟩ true=N0.note ⟨x.ki,x.th,x.pl,o,x.ne,y⟩ true by rw [yV]];clear yV;have HC:Hid (∀w,za w N0->Calls Tryz.prog 205 #[.pointer (some ⟨M.m,0,none⟩), .agg (Acc.cells ⟨x.ki,x.th,x.pl,o,x.ne,y⟩), .bool true] w (Oq N0 (N0.note ⟨x.ki,x.th,x.pl,o,x.ne,y⟩ true) w)):=Lib.hid fun w hw=>by have:=sH N0 ⟨x.ki,x.th,x.pl,o,x.ne,y⟩ true w hw Mf;rw [hem]at this;exact this
 obtain ⟨N,hN⟩:∃N,N=N0.note ⟨x.ki,x.th,x.pl,o,x.ne,y⟩ true:=⟨_,rfl⟩;have HN:Hid (∀k,N.own k->M.own k):=Lib.hid fun k hk=>HO.out k (by rw [hN]at hk;exact hk)
 rw [<-hN]at HC⊢;clear hN Mf hem;obtain ⟨ki,th,pl,ol,ne,dn⟩:=x;simp only [Acc.cells]at*;have HY:=Lib.hid hy;clear hy
 go_enter Tryz.func106,Tryz.ntmps106
 go_wp2_with fail
 refine (HP.out _ (HM.out.below (((Below.refl _ _).alloc (Nat.le_refl _) _).alloc (by simp) _))).mono ?_
 rintro e w1 ⟨rfl,hb,hh⟩;obtain ⟨ra,rr⟩:=qd hh;obtain ⟨a0,a1,a2,a3,a4,a5,af⟩:=Dd ra;have HB:Hid (Below W.heap.size W w1):=Lib.hid ((((Below.refl _ _).alloc (Nat.le_refl _) _).alloc (by simp) _).trans (hb.mono (by simp;omega)));have HS:Hid (W.heap.size+1<w1.heap.size):=Lib.hid (by rw [hh];simp);have HA:=Lib.hid ra;have HR:=Lib.hid rr;clear hb hh ra rr
 go_wp2_with fail
 with_reducible refine (HF.out _ (HB.out.setCell (Nat.le_refl _) _)).mono ?_
 rintro e w2 ⟨rfl,hb,hh⟩;have ra:=heap_set (j:=3) (.int .u64 o) HA.out;have rr:=(aa (j:=3) (v:= .int .u64 o) (show W.heap.size+1≠W.heap.size by omega)).trans HR.out
 rw [<-hh]at ra rr;have oO:Hid (Below W.heap.size W w2):=Lib.hid ((HB.out.setCell (Nat.le_refl _) _).trans (hb.mono (by have:=HS.out;simp [World.setCell];omega)));have tH:Hid (W.heap.size+1<w2.heap.size):=Lib.hid (by rw [hh];have:=HS.out;simpa [World.setCell]using this);simp only [List.setIfInBounds_toArray,List.set_cons_succ,List.set_cons_zero]at ra;have yE:=Lib.hid ra;have HR2:=Lib.hid rr;clear a0 a1 a2 a3 a4 a5 af hb hh;obtain ⟨a0,a1,a2,a3,a4,a5,af⟩:=Dd ra;clear ra rr;have HT3:Hid (Ba M.own W w2):=Lib.hid (Ba.Sb oO.out);have HM3:Hid (za w2 N0):=Lib.hid (by rw [HE.out];exact HM.out.below oO.out);have HA3:=yE;have HR3:=HR2;have D8:=tH
 go_wp2_with fail
 have ky:(ki==1)=y:=by rw [HY.out];simp
 rw [ky];have hmA:za (w2.setCell ⟨W.heap.size,5,none⟩ (.bool y)) N0:=HM3.out.keep fun k hk=>aa fun e=>HM.out.rb (Nat.le_refl _) (e▸HO.out k hk)
 refine (HC.out _ hmA).mono ?_
 rintro e w4 ⟨⟨u',rfl⟩,hm,ht⟩;have HT4:Hid (Ba M.own W w4):=Lib.hid ((HT3.out.set (fun e=>absurd e (by omega)) _ _).trans ht (fun k _ hk=>HO.out k hk));have ra:=(ht.block W.heap.size (by have:=D8.out;simp [World.setCell];omega) (fun e=>HM.out.rb (Nat.le_refl _) (HO.out _ e))).trans (heap_set (j:=5) (.bool y) HA3.out)
 have rr:=(ht.block (W.heap.size+1) (by have:=D8.out;simp [World.setCell];omega) (fun e=>HM.out.rb (by omega) (HO.out _ e))).trans ((aa (j:=5) (v:= .bool y) (show W.heap.size+1≠W.heap.size by omega)).trans HR3.out)
 simp only [List.setIfInBounds_toArray,List.set_cons_succ,List.set_cons_zero]at ra;have HM4:=Lib.hid hm;have HR4:=Lib.hid rr;clear hm ht a0 a1 a2 a3 a4 a5 af hmA;obtain ⟨a0,a1,a2,a3,a4,a5,af⟩:=Dd ra;obtain ⟨r0,r1,r2,r3,r4,r5,rf⟩:=Dd rr;clear ra rr
 go_wp2_with fail
 refine bodyPost_ret (v:= .agg #[.int .i64 ki, .int .i64 th, .int .i64 pl, .int .u64 o, .int .u64 ne, .bool y]) ?_ rfl ?_
 . exact Hb rfl rfl (Iu HR4.out _ _ _ _ _ _)
 . exact ⟨rfl,HM4.out.six (fun e=>HM.out.rb (by omega) (HN.out _ e)) _ _ _ _ _ _,Gw HT4.out (by omega) _ _ _ _ _ _⟩
theorem Ju(M:Mv)(x:Acc)(f:Nat)(lb:Array Value)(nw:Int)(pu:Bool)(ef:∀args w,(callFunc f args).run Tryz.prog w= .ok (.enter f args) w)(W:World)(h:za W M)(hc:M.ck<=1000000)(q0:-9223372036854775808<=x.pl)(q1:x.pl<=9223372036854775807)
  (hf:∀w1,Below W.heap.size W w1->Calls Tryz.prog f (#[.int .u64 (M.La x.pl).1]++lb) w1 (Tg (.tuple #[.int .u64 nw, .bool pu]) w1)):
  Calls Tryz.prog 106 #[.pointer (some ⟨M.m,0,none⟩), .agg x.cells, .func (.func f) #[] lb] W (Zo M (M.Me x nw pu) (.agg (M.res x pu).cells) W):=by
 unfold Mv.Me Mv.res;by_cases hp:(M.La x.pl).2=true
 . rw [if_pos hp,hp];cases pu
   . exact VB M x f lb nw ef W h hc q0 q1 hp hf
   . exact zE M x f lb nw ef W h hc q0 q1 hp hf
 . have sJ:(M.La x.pl).2=false:=by simpa using hp
   rw [if_neg hp,sJ];exact wM M x _ W h hc q0 q1 sJ
def Mv.load(M:Mv)(t at_:Int):Mv:=M.Me ⟨1,t,at_,0,0,false⟩ 0 false
def Mv.store(M:Mv)(t at_ w:Int):Mv:=M.Me ⟨2,t,at_,0,w,false⟩ w true
def Mv.swap(M:Mv)(t at_ old w:Int):Mv:=M.Me ⟨3,t,at_,0,w,false⟩ w ((M.La at_).1==old)
theorem Mv.bj(M:Mv)(x:Acc)(nw:Int)(pu:Bool):(M.Me x nw pu).own=M.own:=by
 unfold Mv.Me;split
 . exact Mv.JJ M _ _
 . rfl
theorem zV{M:Mv}{at_:Int}(h:(M.La at_).2=false):(M.La at_).1=0:=by
 unfold Mv.La te at*;by_cases h0:0<=at_<;>by_cases h1:at_/8<(M.n:Int)<;>by_cases h2:-1 -at_<(M.np:Int)<;>simp [h0,h1,h2]at h⊢
theorem E8(M:Mv)(x:Acc)(h:x.ol=0)(pu:Bool):(M.res x pu).ol=(M.La x.pl).1:=by
 unfold Mv.res;by_cases hp:(M.La x.pl).2=true
 . rw [if_pos hp]
 . rw [if_neg hp,h,zV (by simpa using hp)]
set_option maxRecDepth 100000 in
theorem SP(M:Mv)(t at_:Int)(q0:-9223372036854775808<=at_)(q1:at_<=9223372036854775807)(W:World)(h:za W M)(hc:M.ck<=1000000):
  Calls Tryz.prog 64 #[.pointer (some ⟨M.m,0,none⟩), .int .i64 t, .int .i64 at_] W (Zo M (M.load t at_) (.int .u64 (M.La at_).1) W):=by
 have H:=Lib.hid (Ju M ⟨1,t,at_,0,0,false⟩ 168 #[] 0 false (ya Tryz.func168 (by kernel_rfl) rfl) W h hc q0 q1 (fun w1 _=>vV _ w1));have HO:=Lib.hid (E8 M ⟨1,t,at_,0,0,false⟩ rfl false);have hO:∀k,(M.load t at_).own k->M.own k:=fun k hk=>by unfold Mv.load at hk;rw [Mv.bj]at hk;exact hk
 unfold Mv.load at*;generalize M.Me ⟨1,t,at_,0,0,false⟩ 0 false=N at*;generalize M.res ⟨1,t,at_,0,0,false⟩ false=r at*;obtain ⟨o,ho⟩:∃o,o=(M.La at_).1:=⟨_,rfl⟩
 have HO2:Hid (r.ol=o):=Lib.hid (by rw [ho];exact HO.out);rw [<-ho];obtain ⟨ki,th,pl,ol,ne,dn⟩:=r;simp only [Acc.cells]at*;have HO3:Hid (ol=o):=HO2;have HH:=Lib.hid h;have HL:=Lib.hid hO;clear HO HO2 ho h hO
 go_enter Tryz.func64,Tryz.ntmps64
 go_wp2_with fail
 refine H.out.mono ?_
 rintro e w1 ⟨rfl,hm,ht⟩;have HM:=Lib.hid hm;have HT:=Lib.hid ht;clear hm ht
 go_wp2_with fail
 go_ret
 exact ⟨ui (by rw [HO3.out];rfl),HM.out.below ((Below.refl _ _).alloc (Nat.le_refl _) _),HT.out.alloc _⟩
set_option maxRecDepth 100000 in
theorem KJ(M:Mv)(t at_ v:Int)(q0:-9223372036854775808<=at_)(q1:at_<=9223372036854775807)(W:World)(h:za W M)(hc:M.ck<=1000000):
  Calls Tryz.prog 46 #[.pointer (some ⟨M.m,0,none⟩), .int .i64 t, .int .i64 at_, .int .u64 v] W (Oq M (M.store t at_ v) W):=by
 have H:Hid (∀o,Calls Tryz.prog 106 #[.pointer (some ⟨M.m,0,none⟩), .agg (Acc.cells ⟨2,t,at_,0,v,false⟩), .func (.func 107) #[] #[.pointer (some ⟨W.heap.size,0,none⟩)]] (W.alloc (.cells #[.int .u64 v] o)) (Zo M (M.store t at_ v) (.agg (M.res ⟨2,t,at_,0,v,false⟩ true).cells) (W.alloc (.cells #[.int .u64 v] o)))):=Lib.hid fun o=>by
  refine Ju M ⟨2,t,at_,0,v,false⟩ 107 _ v true (ya Tryz.func107 (by kernel_rfl) rfl) _ (h.below ((Below.refl _ _).alloc (Nat.le_refl _) _)) hc q0 q1 (fun w1 hb=> ?_);exact vE _ v W.heap.size w1 ((hb.cell (p:=⟨W.heap.size,0,none⟩) (by simp)).trans (cell_of_row _ _ 0 _ _ _ (heap_alloc_new W _)))
 generalize M.store t at_ v=N at*;generalize M.res ⟨2,t,at_,0,v,false⟩ true=r at*;simp only [Acc.cells]at*;clear h
 go_enter Tryz.func46,Tryz.ntmps46
 go_wp2_with fail
 refine (H.out _).mono ?_
 rintro e w1 ⟨rfl,hm,ht⟩;have HM:=Lib.hid hm;have HT:=Lib.hid ht;clear hm ht
 go_wp2_with fail
 go_end0
 exact ⟨⟨_,rfl⟩,HM.out,((Ba.refl _ _).alloc _).trans HT.out (fun _ _ h=>h)⟩
set_option maxRecDepth 100000 in
theorem TP(M:Mv)(t at_ old v:Int)(q0:-9223372036854775808<=at_)(q1:at_<=9223372036854775807)(W:World)(h:za W M)(hc:M.ck<=1000000):
  Calls Tryz.prog 65 #[.pointer (some ⟨M.m,0,none⟩), .int .i64 t, .int .i64 at_, .int .u64 old, .int .u64 v] W (Zo M (M.swap t at_ old v) (.bool (M.swap t at_ old v).la.dn) W):=by
 have H:Hid (∀o o',Calls Tryz.prog 106 #[.pointer (some ⟨M.m,0,none⟩), .agg (Acc.cells ⟨3,t,at_,0,v,false⟩), .func (.func 169) #[] #[.pointer (some ⟨W.heap.size+1,0,none⟩), .pointer (some ⟨W.heap.size,0,none⟩)]] ((W.alloc (.cells #[.int .u64 old] o)).alloc (.cells #[.int .u64 v] o')) (Zo M (M.swap t at_ old v) (.agg (M.res ⟨3,t,at_,0,v,false⟩ ((M.La at_).1==old)).cells) ((W.alloc (.cells #[.int .u64 old] o)).alloc (.cells #[.int .u64 v] o')))):=Lib.hid fun o o'=>by
  refine Ju M ⟨3,t,at_,0,v,false⟩ 169 _ v _ (ya Tryz.func169 (by kernel_rfl) rfl) _ (h.below (((Below.refl _ _).alloc (Nat.le_refl _) _).alloc (by simp) _)) hc q0 q1 (fun w1 hb=> ?_);have e:=Hd W (.cells #[.int .u64 old] o) (.cells #[.int .u64 v] o');exact wV _ v old (W.heap.size+1) W.heap.size w1 ((hb.cell (p:=⟨W.heap.size+1,0,none⟩) (by simp)).trans (cell_of_row _ _ 0 _ _ _ e.2)) ((hb.cell (p:=⟨W.heap.size,0,none⟩) (by simp;omega)).trans (cell_of_row _ _ 0 _ _ _ e.1))
 have HO:Hid ((M.swap t at_ old v).la=M.res ⟨3,t,at_,0,v,false⟩ ((M.La at_).1==old)):=Lib.hid rfl;generalize M.swap t at_ old v=N at*;generalize M.res ⟨3,t,at_,0,v,false⟩ ((M.La at_).1==old)=r at*;obtain ⟨y,hy⟩:∃y,y=N.la.dn:=⟨_,rfl⟩;have HY:Hid (r.dn=y):=Lib.hid (by rw [hy,HO.out]);rw [<-hy];obtain ⟨ki,th,pl,ol,ne,dn⟩:=r;simp only [Acc.cells]at*;have HY2:Hid (dn=y):=HY;clear h HO HY hy
 go_enter Tryz.func65,Tryz.ntmps65
 go_wp2_with fail
 refine (H.out _ _).mono ?_
 rintro e w1 ⟨rfl,hm,ht⟩;have HM:=Lib.hid hm;have HT:=Lib.hid ht;clear hm ht
 go_wp2_with fail
 go_ret
 exact ⟨ui (by rw [HY2.out];rfl),HM.out.below ((Below.refl _ _).alloc (Nat.le_refl _) _),((((Ba.refl _ _).alloc _).alloc _).trans HT.out (fun _ _ h=>h)).alloc _⟩
end Go.Proofs.YtfnkmolffhfpoaaGreat
