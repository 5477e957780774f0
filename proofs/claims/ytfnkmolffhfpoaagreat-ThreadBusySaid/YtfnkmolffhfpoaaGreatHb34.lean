/- -/
import Derived.Test.YtfnkmolffhfpoaaGreatHb33
set_option linter.unusedVariables false
set_option linter.unusedSimpArgs false
namespace Go.Proofs.YtfnkmolffhfpoaaGreat
open Go.RowKit Go.BigFrame
set_option maxRecDepth 100000 in
set_option maxHeartbeats 1000000 in
theorem bw(M:Rv)(t old w:Int)(k:Nat)(W:World)(h:ma W M)(hc:M.ck<=1000000)(o:Int)(hp:M.Ga (k:Int)=(o,true))(hk:k<8*M.n):
  Calls Tryz.prog 47 #[.pointer (some ⟨M.m,0,none⟩), .int .i64 2, .int .i64 t, .int .i64 (k:Int), .int .u64 old, .int .u64 w] W (Ch M (({M with seen:=Ed M.seen k w}:Rv).note ⟨2,t,(k:Int),o,w,true⟩ true) W):=by
 have HP:=Lib.hid (Yd M (k:Int) (by have:=h.n1;have:=h.p1;omega) (by have:=h.n1;have:=h.p1;omega) o true hp);have HM:=Lib.hid h;have Ab:=h.lt (k:=M.m) (Or.inl (by simp [Rv.blocks]));have n1:W.heap.size≠M.m:=by omega
 have n2:W.heap.size+1≠M.m:=by omega
 have n3:M.m≠W.heap.size:=by omega
 have n4:M.m≠W.heap.size+1:=by omega
 have b0:=h.ak;have b1:=h.Qv;have b2:=h.zq;have HO:Hid (∀k,M.own k->M.own k):=Lib.hid fun _ h=>h
 have HK:=Lib.hid hk;have n5:W.heap.size≠M.sb:=fun e=>by have:=h.seen.lt;omega
 have n6:W.heap.size+1≠M.sb:=fun e=>by have:=h.seen.lt;omega
 have n7:M.m≠M.sb:=h.ne.ms;have n8:W.heap.size+1≠M.d:=fun e=>by have:=h.lt (k:=M.d) (Or.inl (by simp [Rv.blocks]));omega
 have i0:(0:Int)<=(k:Int):=by omega
 have dd:decide ((0:Int)<=(k:Int))=true:=ca (by omega);have de:decide ((k:Int)<0)=false:=ea (by omega);have RX:=h.n1;have KP:=h.p1;clear hk;clear h hp Ab
 go_enter Tryz.func47,Tryz.ntmps47
 go_wp2_with fail
 with_reducible refine (HP.out _ (HM.out.below (((Below.refl _ _).alloc (Nat.le_refl _) _).alloc (by simp) _))).mono ?_
 rintro e w2 ⟨rfl,hb,hh⟩;obtain ⟨rz,ra⟩:=Xc hh;have HB:Hid (Below W.heap.size W w2):=Lib.hid ((((Below.refl _ _).alloc (Nat.le_refl _) _).alloc (by simp) _).trans (hb.mono (by simp;omega)));have HS:Hid (W.heap.size+1<w2.heap.size):=Lib.hid (by rw [hh];simp);have Kf:=Lib.hid (HM.out.below HB.out);obtain ⟨a0,a1,a2,a3,a4,a5,af⟩:=nd ra;obtain ⟨z0,z1,z2,z3,z4,z5,zf⟩:=nd rz;obtain ⟨m0,m1,m2,m3,m4,m5,m6,m7,m8,m9,mf⟩:=ae Kf.out.row;have HZ:=Lib.hid rz;have y1:=(Qd Kf.out.dev).2.1
 have y2:=Kf.out.seen.cell HK.out;have y3:=Kf.out.seen.free k;have i1:(k:Int)<((8*M.n:Nat):Int):=by have:=HK.out;omega
 generalize M.seen k=u at*;obtain ⟨NN,hNN⟩:∃NN,NN=8*M.n:=⟨_,rfl⟩;rw [<-hNN]at y1 i1;have EP:NN<=2097152:=by omega
 clear hb hh ra rz m1 hNN
 go_wp2_with fail
 have hA:∀k,Rv.own M k->k≠W.heap.size+1:=fun k hk e=>HM.out.eb (by omega) (e▸(HO.out k hk))
 have Zl:ma (((w2.setCell ⟨W.heap.size+1,3,none⟩ (.int .u64 o)).setCell ⟨W.heap.size+1,5,none⟩ (.bool true)).setCell ⟨W.heap.size+1,4,none⟩ (.int .u64 w)) M:=Kf.out.keep fun k hk=>by rw [aa (hA k hk),aa (hA k hk),aa (hA k hk)]
 have Mt:Ea M.own W (((w2.setCell ⟨W.heap.size+1,3,none⟩ (.int .u64 o)).setCell ⟨W.heap.size+1,5,none⟩ (.bool true)).setCell ⟨W.heap.size+1,4,none⟩ (.int .u64 w)):=((((Ea.Tb HB.out).set (fun e=>absurd e (by omega)) _ _).set (fun e=>absurd e (by omega)) _ _).set (fun e=>absurd e (by omega)) _ _);have Nt:=((aa (j:=4) (v:= .int .u64 w) (show W.heap.size≠W.heap.size+1 by omega)).trans ((aa (j:=5) (v:= .bool true) (show W.heap.size≠W.heap.size+1 by omega)).trans ((aa (j:=3) (v:= .int .u64 o) (show W.heap.size≠W.heap.size+1 by omega)).trans HZ.out)));have fE:=Zl.qo k w;have VY:=Mt.set (b:=M.sb) (fun _=>Or.inl (by simp [Rv.blocks])) k (.int .u64 w);have WY:=(aa (j:=k) (v:= .int .u64 w) n5).trans Nt
 obtain ⟨f1,f2⟩:=zc fE VY rfl rfl (Nat.le_refl W.heap.size) HM.out ⟨2,t,(k:Int),o,w,true⟩ true;refine bodyPost_ret (v:= .agg (Acc.cells ⟨2,t,(k:Int),o,w,true⟩)) ?_ rfl ?_
 . exact Gb rfl rfl (ld n1 WY M.ck M.bd ⟨2,t,(k:Int),o,w,true⟩ true)
 . exact ⟨rfl,f1,f2⟩
set_option maxRecDepth 100000 in
set_option maxHeartbeats 1000000 in
theorem ew(M:Rv)(t old w:Int)(k:Nat)(W:World)(h:ma W M)(hc:M.ck<=1000000)(o:Int)(hp:M.Ga (-1 -(k:Int))=(o,true))(hk:k<M.np):
  Calls Tryz.prog 47 #[.pointer (some ⟨M.m,0,none⟩), .int .i64 2, .int .i64 t, .int .i64 (-1 -(k:Int)), .int .u64 old, .int .u64 w] W (Ch M (({M with pass:=Ed M.pass k w}:Rv).note ⟨2,t,(-1 -(k:Int)),o,w,true⟩ true) W):=by
 have HP:=Lib.hid (Yd M (-1 -(k:Int)) (by have:=h.n1;have:=h.p1;omega) (by have:=h.n1;have:=h.p1;omega) o true hp);have HM:=Lib.hid h;have Ab:=h.lt (k:=M.m) (Or.inl (by simp [Rv.blocks]));have n1:W.heap.size≠M.m:=by omega
 have n2:W.heap.size+1≠M.m:=by omega
 have n3:M.m≠W.heap.size:=by omega
 have n4:M.m≠W.heap.size+1:=by omega
 have b0:=h.ak;have b1:=h.Qv;have b2:=h.zq;have HO:Hid (∀k,M.own k->M.own k):=Lib.hid fun _ h=>h
 have HK:=Lib.hid hk;have n5:W.heap.size≠M.pb:=fun e=>by have:=h.pass.lt;omega
 have n6:W.heap.size+1≠M.pb:=fun e=>by have:=h.pass.lt;omega
 have n7:M.m≠M.pb:=h.ne.mp;have n8:W.heap.size+1≠M.d:=fun e=>by have:=h.lt (k:=M.d) (Or.inl (by simp [Rv.blocks]));omega
 have i0:(0:Int)<=(k:Int):=by omega
 have dd:decide ((0:Int)<=-1 -(k:Int))=false:=ea (by omega);have de:decide (-1 -(k:Int)<0)=true:=ca (by omega);have df:(-1 -(-1 -(k:Int)):Int)=(k:Int):=by omega
 have RX:=h.n1;have KP:=h.p1;clear hk;clear h hp Ab
 go_enter Tryz.func47,Tryz.ntmps47
 go_wp2_with fail
 with_reducible refine (HP.out _ (HM.out.below (((Below.refl _ _).alloc (Nat.le_refl _) _).alloc (by simp) _))).mono ?_
 rintro e w2 ⟨rfl,hb,hh⟩;obtain ⟨rz,ra⟩:=Xc hh;have HB:Hid (Below W.heap.size W w2):=Lib.hid ((((Below.refl _ _).alloc (Nat.le_refl _) _).alloc (by simp) _).trans (hb.mono (by simp;omega)));have HS:Hid (W.heap.size+1<w2.heap.size):=Lib.hid (by rw [hh];simp);have Kf:=Lib.hid (HM.out.below HB.out);obtain ⟨a0,a1,a2,a3,a4,a5,af⟩:=nd ra;obtain ⟨z0,z1,z2,z3,z4,z5,zf⟩:=nd rz;obtain ⟨m0,m1,m2,m3,m4,m5,m6,m7,m8,m9,mf⟩:=ae Kf.out.row;have HZ:=Lib.hid rz;have y2:=Kf.out.pass.cell HK.out;have y3:=Kf.out.pass.free k;have i1:(k:Int)<(M.np:Int):=by have:=HK.out;omega
 generalize M.pass k=u at*;clear hb hh ra rz m0
 go_wp2_with fail
 have hA:∀k,Rv.own M k->k≠W.heap.size+1:=fun k hk e=>HM.out.eb (by omega) (e▸(HO.out k hk))
 have Zl:ma (((w2.setCell ⟨W.heap.size+1,3,none⟩ (.int .u64 o)).setCell ⟨W.heap.size+1,5,none⟩ (.bool true)).setCell ⟨W.heap.size+1,4,none⟩ (.int .u64 w)) M:=Kf.out.keep fun k hk=>by rw [aa (hA k hk),aa (hA k hk),aa (hA k hk)]
 have Mt:Ea M.own W (((w2.setCell ⟨W.heap.size+1,3,none⟩ (.int .u64 o)).setCell ⟨W.heap.size+1,5,none⟩ (.bool true)).setCell ⟨W.heap.size+1,4,none⟩ (.int .u64 w)):=((((Ea.Tb HB.out).set (fun e=>absurd e (by omega)) _ _).set (fun e=>absurd e (by omega)) _ _).set (fun e=>absurd e (by omega)) _ _);have Nt:=((aa (j:=4) (v:= .int .u64 w) (show W.heap.size≠W.heap.size+1 by omega)).trans ((aa (j:=5) (v:= .bool true) (show W.heap.size≠W.heap.size+1 by omega)).trans ((aa (j:=3) (v:= .int .u64 o) (show W.heap.size≠W.heap.size+1 by omega)).trans HZ.out)));have fE:=Zl.so k w;have VY:=Mt.set (b:=M.pb) (fun _=>Or.inl (by simp [Rv.blocks])) k (.int .u64 w);have WY:=(aa (j:=k) (v:= .int .u64 w) n5).trans Nt
 obtain ⟨f1,f2⟩:=zc fE VY rfl rfl (Nat.le_refl W.heap.size) HM.out ⟨2,t,(-1 -(k:Int)),o,w,true⟩ true;refine bodyPost_ret (v:= .agg (Acc.cells ⟨2,t,(-1 -(k:Int)),o,w,true⟩)) ?_ rfl ?_
 . exact Gb rfl rfl (ld n1 WY M.ck M.bd ⟨2,t,(-1 -(k:Int)),o,w,true⟩ true)
 . exact ⟨rfl,f1,f2⟩
set_option maxRecDepth 100000 in
set_option maxHeartbeats 1000000 in
theorem Yz(M:Rv)(t old w:Int)(k:Nat)(W:World)(h:ma W M)(hc:M.ck<=1000000)(o:Int)(hp:M.Ga (k:Int)=(o,true))(hk:k<8*M.n)(Jc:(o==old)=true):
  Calls Tryz.prog 47 #[.pointer (some ⟨M.m,0,none⟩), .int .i64 3, .int .i64 t, .int .i64 (k:Int), .int .u64 old, .int .u64 w] W (Ch M (({M with seen:=Ed M.seen k w}:Rv).note ⟨3,t,(k:Int),o,w,true⟩ true) W):=by
 have HP:=Lib.hid (Yd M (k:Int) (by have:=h.n1;have:=h.p1;omega) (by have:=h.n1;have:=h.p1;omega) o true hp);have HM:=Lib.hid h;have Ab:=h.lt (k:=M.m) (Or.inl (by simp [Rv.blocks]));have n1:W.heap.size≠M.m:=by omega
 have n2:W.heap.size+1≠M.m:=by omega
 have n3:M.m≠W.heap.size:=by omega
 have n4:M.m≠W.heap.size+1:=by omega
 have b0:=h.ak;have b1:=h.Qv;have b2:=h.zq;have HO:Hid (∀k,M.own k->M.own k):=Lib.hid fun _ h=>h
 have HK:=Lib.hid hk;have n5:W.heap.size≠M.sb:=fun e=>by have:=h.seen.lt;omega
 have n6:W.heap.size+1≠M.sb:=fun e=>by have:=h.seen.lt;omega
 have n7:M.m≠M.sb:=h.ne.ms;have n8:W.heap.size+1≠M.d:=fun e=>by have:=h.lt (k:=M.d) (Or.inl (by simp [Rv.blocks]));omega
 have i0:(0:Int)<=(k:Int):=by omega
 have dd:decide ((0:Int)<=(k:Int))=true:=ca (by omega);have de:decide ((k:Int)<0)=false:=ea (by omega);have RX:=h.n1;have KP:=h.p1;clear hk;clear h hp Ab
 go_enter Tryz.func47,Tryz.ntmps47
 go_wp2_with fail
 with_reducible refine (HP.out _ (HM.out.below (((Below.refl _ _).alloc (Nat.le_refl _) _).alloc (by simp) _))).mono ?_
 rintro e w2 ⟨rfl,hb,hh⟩;obtain ⟨rz,ra⟩:=Xc hh;have HB:Hid (Below W.heap.size W w2):=Lib.hid ((((Below.refl _ _).alloc (Nat.le_refl _) _).alloc (by simp) _).trans (hb.mono (by simp;omega)));have HS:Hid (W.heap.size+1<w2.heap.size):=Lib.hid (by rw [hh];simp);have Kf:=Lib.hid (HM.out.below HB.out);obtain ⟨a0,a1,a2,a3,a4,a5,af⟩:=nd ra;obtain ⟨z0,z1,z2,z3,z4,z5,zf⟩:=nd rz;obtain ⟨m0,m1,m2,m3,m4,m5,m6,m7,m8,m9,mf⟩:=ae Kf.out.row;have HZ:=Lib.hid rz;have y1:=(Qd Kf.out.dev).2.1
 have y2:=Kf.out.seen.cell HK.out;have y3:=Kf.out.seen.free k;have i1:(k:Int)<((8*M.n:Nat):Int):=by have:=HK.out;omega
 generalize M.seen k=u at*;obtain ⟨NN,hNN⟩:∃NN,NN=8*M.n:=⟨_,rfl⟩;rw [<-hNN]at y1 i1;have EP:NN<=2097152:=by omega
 clear hb hh ra rz m1 hNN
 go_wp2_with fail
 have hA:∀k,Rv.own M k->k≠W.heap.size+1:=fun k hk e=>HM.out.eb (by omega) (e▸(HO.out k hk))
 have Zl:ma (((w2.setCell ⟨W.heap.size+1,3,none⟩ (.int .u64 o)).setCell ⟨W.heap.size+1,5,none⟩ (.bool true)).setCell ⟨W.heap.size+1,4,none⟩ (.int .u64 w)) M:=Kf.out.keep fun k hk=>by rw [aa (hA k hk),aa (hA k hk),aa (hA k hk)]
 have Mt:Ea M.own W (((w2.setCell ⟨W.heap.size+1,3,none⟩ (.int .u64 o)).setCell ⟨W.heap.size+1,5,none⟩ (.bool true)).setCell ⟨W.heap.size+1,4,none⟩ (.int .u64 w)):=((((Ea.Tb HB.out).set (fun e=>absurd e (by omega)) _ _).set (fun e=>absurd e (by omega)) _ _).set (fun e=>absurd e (by omega)) _ _);have Nt:=((aa (j:=4) (v:= .int .u64 w) (show W.heap.size≠W.heap.size+1 by omega)).trans ((aa (j:=5) (v:= .bool true) (show W.heap.size≠W.heap.size+1 by omega)).trans ((aa (j:=3) (v:= .int .u64 o) (show W.heap.size≠W.heap.size+1 by omega)).trans HZ.out)));have fE:=Zl.qo k w;have VY:=Mt.set (b:=M.sb) (fun _=>Or.inl (by simp [Rv.blocks])) k (.int .u64 w);have WY:=(aa (j:=k) (v:= .int .u64 w) n5).trans Nt
 obtain ⟨f1,f2⟩:=zc fE VY rfl rfl (Nat.le_refl W.heap.size) HM.out ⟨3,t,(k:Int),o,w,true⟩ true;refine bodyPost_ret (v:= .agg (Acc.cells ⟨3,t,(k:Int),o,w,true⟩)) ?_ rfl ?_
 . exact Gb rfl rfl (ld n1 WY M.ck M.bd ⟨3,t,(k:Int),o,w,true⟩ true)
 . exact ⟨rfl,f1,f2⟩
set_option maxRecDepth 100000 in
set_option maxHeartbeats 1000000 in
theorem Zz(M:Rv)(t old w:Int)(k:Nat)(W:World)(h:ma W M)(hc:M.ck<=1000000)(o:Int)(hp:M.Ga (-1 -(k:Int))=(o,true))(hk:k<M.np)(Jc:(o==old)=true):
  Calls Tryz.prog 47 #[.pointer (some ⟨M.m,0,none⟩), .int .i64 3, .int .i64 t, .int .i64 (-1 -(k:Int)), .int .u64 old, .int .u64 w] W (Ch M (({M with pass:=Ed M.pass k w}:Rv).note ⟨3,t,(-1 -(k:Int)),o,w,true⟩ true) W):=by
 have HP:=Lib.hid (Yd M (-1 -(k:Int)) (by have:=h.n1;have:=h.p1;omega) (by have:=h.n1;have:=h.p1;omega) o true hp);have HM:=Lib.hid h;have Ab:=h.lt (k:=M.m) (Or.inl (by simp [Rv.blocks]));have n1:W.heap.size≠M.m:=by omega
 have n2:W.heap.size+1≠M.m:=by omega
 have n3:M.m≠W.heap.size:=by omega
 have n4:M.m≠W.heap.size+1:=by omega
 have b0:=h.ak;have b1:=h.Qv;have b2:=h.zq;have HO:Hid (∀k,M.own k->M.own k):=Lib.hid fun _ h=>h
 have HK:=Lib.hid hk;have n5:W.heap.size≠M.pb:=fun e=>by have:=h.pass.lt;omega
 have n6:W.heap.size+1≠M.pb:=fun e=>by have:=h.pass.lt;omega
 have n7:M.m≠M.pb:=h.ne.mp;have n8:W.heap.size+1≠M.d:=fun e=>by have:=h.lt (k:=M.d) (Or.inl (by simp [Rv.blocks]));omega
 have i0:(0:Int)<=(k:Int):=by omega
 have dd:decide ((0:Int)<=-1 -(k:Int))=false:=ea (by omega);have de:decide (-1 -(k:Int)<0)=true:=ca (by omega);have df:(-1 -(-1 -(k:Int)):Int)=(k:Int):=by omega
 have RX:=h.n1;have KP:=h.p1;clear hk;clear h hp Ab
 go_enter Tryz.func47,Tryz.ntmps47
 go_wp2_with fail
 with_reducible refine (HP.out _ (HM.out.below (((Below.refl _ _).alloc (Nat.le_refl _) _).alloc (by simp) _))).mono ?_
 rintro e w2 ⟨rfl,hb,hh⟩;obtain ⟨rz,ra⟩:=Xc hh;have HB:Hid (Below W.heap.size W w2):=Lib.hid ((((Below.refl _ _).alloc (Nat.le_refl _) _).alloc (by simp) _).trans (hb.mono (by simp;omega)));have HS:Hid (W.heap.size+1<w2.heap.size):=Lib.hid (by rw [hh];simp);have Kf:=Lib.hid (HM.out.below HB.out);obtain ⟨a0,a1,a2,a3,a4,a5,af⟩:=nd ra;obtain ⟨z0,z1,z2,z3,z4,z5,zf⟩:=nd rz;obtain ⟨m0,m1,m2,m3,m4,m5,m6,m7,m8,m9,mf⟩:=ae Kf.out.row;have HZ:=Lib.hid rz;have y2:=Kf.out.pass.cell HK.out;have y3:=Kf.out.pass.free k;have i1:(k:Int)<(M.np:Int):=by have:=HK.out;omega
 generalize M.pass k=u at*;clear hb hh ra rz m0
 go_wp2_with fail
 have hA:∀k,Rv.own M k->k≠W.heap.size+1:=fun k hk e=>HM.out.eb (by omega) (e▸(HO.out k hk))
 have Zl:ma (((w2.setCell ⟨W.heap.size+1,3,none⟩ (.int .u64 o)).setCell ⟨W.heap.size+1,5,none⟩ (.bool true)).setCell ⟨W.heap.size+1,4,none⟩ (.int .u64 w)) M:=Kf.out.keep fun k hk=>by rw [aa (hA k hk),aa (hA k hk),aa (hA k hk)]
 have Mt:Ea M.own W (((w2.setCell ⟨W.heap.size+1,3,none⟩ (.int .u64 o)).setCell ⟨W.heap.size+1,5,none⟩ (.bool true)).setCell ⟨W.heap.size+1,4,none⟩ (.int .u64 w)):=((((Ea.Tb HB.out).set (fun e=>absurd e (by omega)) _ _).set (fun e=>absurd e (by omega)) _ _).set (fun e=>absurd e (by omega)) _ _);have Nt:=((aa (j:=4) (v:= .int .u64 w) (show W.heap.size≠W.heap.size+1 by omega)).trans ((aa (j:=5) (v:= .bool true) (show W.heap.size≠W.heap.size+1 by omega)).trans ((aa (j:=3) (v:= .int .u64 o) (show W.heap.size≠W.heap.size+1 by omega)).trans HZ.out)));have fE:=Zl.so k w;have VY:=Mt.set (b:=M.pb) (fun _=>Or.inl (by simp [Rv.blocks])) k (.int .u64 w);have WY:=(aa (j:=k) (v:= .int .u64 w) n5).trans Nt
 obtain ⟨f1,f2⟩:=zc fE VY rfl rfl (Nat.le_refl W.heap.size) HM.out ⟨3,t,(-1 -(k:Int)),o,w,true⟩ true;refine bodyPost_ret (v:= .agg (Acc.cells ⟨3,t,(-1 -(k:Int)),o,w,true⟩)) ?_ rfl ?_
 . exact Gb rfl rfl (ld n1 WY M.ck M.bd ⟨3,t,(-1 -(k:Int)),o,w,true⟩ true)
 . exact ⟨rfl,f1,f2⟩
set_option maxRecDepth 100000 in
set_option maxHeartbeats 1000000 in
theorem aA(M:Rv)(t at_ old w:Int)(q0:-9223372036854775808<=at_)(q1:at_<=9223372036854775807)(W:World)(h:ma W M)(hc:M.ck<=1000000)(o:Int)(b:Bool)(hp:M.Ga at_=(o,b))(faA:at_<0):
  Calls Tryz.prog 47 #[.pointer (some ⟨M.m,0,none⟩), .int .i64 4, .int .i64 t, .int .i64 at_, .int .u64 old, .int .u64 w] W (Ch M (M.note ⟨4,t,at_,0,0,false⟩ false) W):=by
 have HP:=Lib.hid (Yd M at_ q0 q1 o b hp);have HM:=Lib.hid h;have Ab:=h.lt (k:=M.m) (Or.inl (by simp [Rv.blocks]));have n1:W.heap.size≠M.m:=by omega
 have n2:W.heap.size+1≠M.m:=by omega
 have n3:M.m≠W.heap.size:=by omega
 have n4:M.m≠W.heap.size+1:=by omega
 have b0:=h.ak;have b1:=h.Qv;have b2:=h.zq;have HO:Hid (∀k,M.own k->M.own k):=Lib.hid fun _ h=>h
 have d0:decide (0<=at_)=false:=ea (by omega);clear h hp Ab
 go_enter Tryz.func47,Tryz.ntmps47
 go_wp2_with fail
 with_reducible refine (HP.out _ (HM.out.below (((Below.refl _ _).alloc (Nat.le_refl _) _).alloc (by simp) _))).mono ?_
 rintro e w2 ⟨rfl,hb,hh⟩;obtain ⟨rz,ra⟩:=Xc hh;have HB:Hid (Below W.heap.size W w2):=Lib.hid ((((Below.refl _ _).alloc (Nat.le_refl _) _).alloc (by simp) _).trans (hb.mono (by simp;omega)));have HS:Hid (W.heap.size+1<w2.heap.size):=Lib.hid (by rw [hh];simp);have Kf:=Lib.hid (HM.out.below HB.out);obtain ⟨a0,a1,a2,a3,a4,a5,af⟩:=nd ra;obtain ⟨z0,z1,z2,z3,z4,z5,zf⟩:=nd rz;obtain ⟨m0,m1,m2,m3,m4,m5,m6,m7,m8,m9,mf⟩:=ae Kf.out.row;have HZ:=Lib.hid rz;clear hb hh ra rz m0 m1
 go_wp2_with fail
 have hA:∀k,Rv.own M k->k≠W.heap.size+1:=fun k hk e=>HM.out.eb (by omega) (e▸(HO.out k hk))
 have Zl:ma (w2.setCell ⟨W.heap.size+1,5,none⟩ (.bool false)) M:=Kf.out.keep fun k hk=>by rw [aa (hA k hk)]
 have Mt:Ea M.own W (w2.setCell ⟨W.heap.size+1,5,none⟩ (.bool false)):=((Ea.Tb HB.out).set (fun e=>absurd e (by omega)) _ _);have Nt:=((aa (j:=5) (v:= .bool false) (show W.heap.size≠W.heap.size+1 by omega)).trans HZ.out);obtain ⟨f1,f2⟩:=zc Zl Mt rfl rfl (Nat.le_refl W.heap.size) HM.out ⟨4,t,at_,0,0,false⟩ false;refine bodyPost_ret (v:= .agg (Acc.cells ⟨4,t,at_,0,0,false⟩)) ?_ rfl ?_
 . exact Gb rfl rfl (ld n1 Nt M.ck M.bd ⟨4,t,at_,0,0,false⟩ false)
 . exact ⟨rfl,f1,f2⟩
set_option maxRecDepth 100000 in
set_option maxHeartbeats 1000000 in
theorem bA(M:Rv)(t at_ old w:Int)(q0:-9223372036854775808<=at_)(q1:at_<=9223372036854775807)(W:World)(h:ma W M)(hc:M.ck<=1000000)(o:Int)(b:Bool)(hp:M.Ga at_=(o,b))(q2:0<=at_)(hE:M.Jb t (at_/8)=0):
  Calls Tryz.prog 47 #[.pointer (some ⟨M.m,0,none⟩), .int .i64 4, .int .i64 t, .int .i64 at_, .int .u64 old, .int .u64 w] W (Ch M ((M.Kc t (at_/8)).note ⟨4,t,at_,0,0,true⟩ true) W):=by
 have HP:=Lib.hid (Yd M at_ q0 q1 o b hp);have HM:=Lib.hid h;have Ab:=h.lt (k:=M.m) (Or.inl (by simp [Rv.blocks]));have n1:W.heap.size≠M.m:=by omega
 have n2:W.heap.size+1≠M.m:=by omega
 have n3:M.m≠W.heap.size:=by omega
 have n4:M.m≠W.heap.size+1:=by omega
 have b0:=h.ak;have b1:=h.Qv;have b2:=h.zq;have HO:Hid (∀k,Rv.own (M.Kc t (at_/8)) k->M.own k):=Lib.hid fun _ h=>h
 have d0:decide (0<=at_)=true:=ca q2;have e8:at_.tdiv 8=at_/8:=Int.tdiv_eq_ediv_of_nonneg q2;have HC:Hid (∀w,ma w M->Calls Tryz.prog 70 #[.pointer (some ⟨M.d,0,none⟩), .int .i64 0, .int .i64 t, .int .i64 (at_/8)] w (Zs M (M.Kc t (at_/8)) (.int .i64 0) w)):=Lib.hid fun w hw=>by
  have:=jm M t (at_/8) w hw;rw [if_pos hE,hE]at this;exact this
 clear hE;clear h hp Ab
 go_enter Tryz.func47,Tryz.ntmps47
 go_wp2_with fail
 with_reducible refine (HP.out _ (HM.out.below (((Below.refl _ _).alloc (Nat.le_refl _) _).alloc (by simp) _))).mono ?_
 rintro e w2 ⟨rfl,hb,hh⟩;obtain ⟨rz,ra⟩:=Xc hh;have HB:Hid (Below W.heap.size W w2):=Lib.hid ((((Below.refl _ _).alloc (Nat.le_refl _) _).alloc (by simp) _).trans (hb.mono (by simp;omega)));have HS:Hid (W.heap.size+1<w2.heap.size):=Lib.hid (by rw [hh];simp);have Kf:=Lib.hid (HM.out.below HB.out);obtain ⟨a0,a1,a2,a3,a4,a5,af⟩:=nd ra;obtain ⟨z0,z1,z2,z3,z4,z5,zf⟩:=nd rz;obtain ⟨m0,m1,m2,m3,m4,m5,m6,m7,m8,m9,mf⟩:=ae Kf.out.row;have HZ:=Lib.hid rz;have eC:=Lib.hid ra;clear hb hh ra rz m1
 go_wp2_with fail
 with_reducible refine (HC.out w2 Kf.out).mono ?_
 rintro e w5 ⟨rfl,kN,cA⟩;have lN:Hid (ma w5 (M.Kc t (at_/8))):=Lib.hid kN;have Cj:w5.heap[M.m]?=some (.cells #[.pointer (some ⟨M.d,0,none⟩), .slice (some ⟨M.pb,0,none⟩) M.np M.c4, .int .i64 M.ck, .int .i64 M.bd, .int .i64 M.la.ki, .int .i64 M.la.th, .int .i64 M.la.pl, .int .u64 M.la.ol, .int .u64 M.la.ne, .bool M.la.dn] 141 (0,0)):=lN.out.row
 have ra:=(cA.block (W.heap.size+1) (by have:=HS.out;omega) (HM.out.eb (by omega))).trans eC.out
 have rz:=(cA.block W.heap.size (by have:=HS.out;omega) (HM.out.eb (by omega))).trans HZ.out
 have XY:Hid (Ea M.own W w5):=Lib.hid ((Ea.Tb HB.out).trans cA (fun _ _ h=>h));clear a0 a1 a2 a3 a4 a5 af z0 z1 z2 z3 z4 z5 zf m0 m2 m3 m4 m5 m6 m7 m8 m9 mf kN cA;obtain ⟨a0,a1,a2,a3,a4,a5,af⟩:=nd ra;obtain ⟨z0,z1,z2,z3,z4,z5,zf⟩:=nd rz;obtain ⟨m0,m1,m2,m3,m4,m5,m6,m7,m8,m9,mf⟩:=ae Cj;have YY:=Lib.hid rz;clear ra rz Cj m0 m1
 go_wp2_with fail
 have hA:∀k,Rv.own (M.Kc t (at_/8)) k->k≠W.heap.size+1:=fun k hk e=>HM.out.eb (by omega) (e▸(HO.out k hk))
 have Zl:ma (w5.setCell ⟨W.heap.size+1,5,none⟩ (.bool true)) (M.Kc t (at_/8)):=lN.out.keep fun k hk=>by rw [aa (hA k hk)]
 have Mt:Ea M.own W (w5.setCell ⟨W.heap.size+1,5,none⟩ (.bool true)):=(XY.out.set (fun e=>absurd e (by omega)) _ _);have Nt:=((aa (j:=5) (v:= .bool true) (show W.heap.size≠W.heap.size+1 by omega)).trans YY.out);obtain ⟨f1,f2⟩:=zc Zl Mt rfl rfl (Nat.le_refl W.heap.size) HM.out ⟨4,t,at_,0,0,true⟩ true;refine bodyPost_ret (v:= .agg (Acc.cells ⟨4,t,at_,0,0,true⟩)) ?_ rfl ?_
 . exact Gb rfl rfl (ld n1 Nt M.ck M.bd ⟨4,t,at_,0,0,true⟩ true)
 . exact ⟨rfl,f1,f2⟩
set_option maxRecDepth 100000 in
set_option maxHeartbeats 1000000 in
theorem TC(M:Rv)(t at_ old w:Int)(q0:-9223372036854775808<=at_)(q1:at_<=9223372036854775807)(W:World)(h:ma W M)(hc:M.ck<=1000000)(o:Int)(b:Bool)(hp:M.Ga at_=(o,b))(q2:0<=at_)(hE:M.Jb t (at_/8)≠0):
  Calls Tryz.prog 47 #[.pointer (some ⟨M.m,0,none⟩), .int .i64 4, .int .i64 t, .int .i64 at_, .int .u64 old, .int .u64 w] W (Ch M (M.note ⟨4,t,at_,0,0,false⟩ false) W):=by
 have HP:=Lib.hid (Yd M at_ q0 q1 o b hp);have HM:=Lib.hid h;have Ab:=h.lt (k:=M.m) (Or.inl (by simp [Rv.blocks]));have n1:W.heap.size≠M.m:=by omega
 have n2:W.heap.size+1≠M.m:=by omega
 have n3:M.m≠W.heap.size:=by omega
 have n4:M.m≠W.heap.size+1:=by omega
 have b0:=h.ak;have b1:=h.Qv;have b2:=h.zq;have HO:Hid (∀k,Rv.own M k->M.own k):=Lib.hid fun _ h=>h
 have d0:decide (0<=at_)=true:=ca q2;have e8:at_.tdiv 8=at_/8:=Int.tdiv_eq_ediv_of_nonneg q2;obtain ⟨E,hE2⟩:∃E,E=M.Jb t (at_/8):=⟨_,rfl⟩;rw [<-hE2]at hE;have HC:Hid (∀w,ma w M->Calls Tryz.prog 70 #[.pointer (some ⟨M.d,0,none⟩), .int .i64 0, .int .i64 t, .int .i64 (at_/8)] w (Zs M M (.int .i64 E) w)):=Lib.hid fun w hw=>by
  have:=jm M t (at_/8) w hw;rw [<-hE2,if_neg hE]at this;exact this
 have e0:(E==0)=false:=by simpa using hE
 clear hE hE2;clear h hp Ab
 go_enter Tryz.func47,Tryz.ntmps47
 go_wp2_with fail
 with_reducible refine (HP.out _ (HM.out.below (((Below.refl _ _).alloc (Nat.le_refl _) _).alloc (by simp) _))).mono ?_
 rintro e w2 ⟨rfl,hb,hh⟩;obtain ⟨rz,ra⟩:=Xc hh;have HB:Hid (Below W.heap.size W w2):=Lib.hid ((((Below.refl _ _).alloc (Nat.le_refl _) _).alloc (by simp) _).trans (hb.mono (by simp;omega)));have HS:Hid (W.heap.size+1<w2.heap.size):=Lib.hid (by rw [hh];simp);have Kf:=Lib.hid (HM.out.below HB.out);obtain ⟨a0,a1,a2,a3,a4,a5,af⟩:=nd ra;obtain ⟨z0,z1,z2,z3,z4,z5,zf⟩:=nd rz;obtain ⟨m0,m1,m2,m3,m4,m5,m6,m7,m8,m9,mf⟩:=ae Kf.out.row;have HZ:=Lib.hid rz;have eC:=Lib.hid ra;clear hb hh ra rz m1
 go_wp2_with fail
 with_reducible refine (HC.out w2 Kf.out).mono ?_
 rintro e w5 ⟨rfl,kN,cA⟩;have lN:Hid (ma w5 M):=Lib.hid kN;have Cj:w5.heap[M.m]?=some (.cells #[.pointer (some ⟨M.d,0,none⟩), .slice (some ⟨M.pb,0,none⟩) M.np M.c4, .int .i64 M.ck, .int .i64 M.bd, .int .i64 M.la.ki, .int .i64 M.la.th, .int .i64 M.la.pl, .int .u64 M.la.ol, .int .u64 M.la.ne, .bool M.la.dn] 141 (0,0)):=lN.out.row
 have ra:=(cA.block (W.heap.size+1) (by have:=HS.out;omega) (HM.out.eb (by omega))).trans eC.out
 have rz:=(cA.block W.heap.size (by have:=HS.out;omega) (HM.out.eb (by omega))).trans HZ.out
 have XY:Hid (Ea M.own W w5):=Lib.hid ((Ea.Tb HB.out).trans cA (fun _ _ h=>h));clear a0 a1 a2 a3 a4 a5 af z0 z1 z2 z3 z4 z5 zf m0 m2 m3 m4 m5 m6 m7 m8 m9 mf kN cA;obtain ⟨a0,a1,a2,a3,a4,a5,af⟩:=nd ra;obtain ⟨z0,z1,z2,z3,z4,z5,zf⟩:=nd rz;obtain ⟨m0,m1,m2,m3,m4,m5,m6,m7,m8,m9,mf⟩:=ae Cj;have YY:=Lib.hid rz;clear ra rz Cj m0 m1
 go_wp2_with fail
 have hA:∀k,Rv.own M k->k≠W.heap.size+1:=fun k hk e=>HM.out.eb (by omega) (e▸(HO.out k hk))
 have Zl:ma (w5.setCell ⟨W.heap.size+1,5,none⟩ (.bool false)) M:=lN.out.keep fun k hk=>by rw [aa (hA k hk)]
 have Mt:Ea M.own W (w5.setCell ⟨W.heap.size+1,5,none⟩ (.bool false)):=(XY.out.set (fun e=>absurd e (by omega)) _ _);have Nt:=((aa (j:=5) (v:= .bool false) (show W.heap.size≠W.heap.size+1 by omega)).trans YY.out);obtain ⟨f1,f2⟩:=zc Zl Mt rfl rfl (Nat.le_refl W.heap.size) HM.out ⟨4,t,at_,0,0,false⟩ false;refine bodyPost_ret (v:= .agg (Acc.cells ⟨4,t,at_,0,0,false⟩)) ?_ rfl ?_
 . exact Gb rfl rfl (ld n1 Nt M.ck M.bd ⟨4,t,at_,0,0,false⟩ false)
 . exact ⟨rfl,f1,f2⟩
set_option maxRecDepth 100000 in
set_option maxHeartbeats 1000000 in
theorem dA(M:Rv)(t at_ old w:Int)(q0:-9223372036854775808<=at_)(q1:at_<=9223372036854775807)(W:World)(h:ma W M)(hc:M.ck<=1000000)(o:Int)(b:Bool)(hp:M.Ga at_=(o,b))(k:Nat)(hk:k<M.nt)(hw:M.wm<=999999)(htk:t=(k:Int)):
  Calls Tryz.prog 47 #[.pointer (some ⟨M.m,0,none⟩), .int .i64 5, .int .i64 t, .int .i64 at_, .int .u64 old, .int .u64 w] W (Ch M ((M.fenced k).note ⟨5,(k:Int),0,0,0,true⟩ true) W):=by
 have HP:=Lib.hid (Yd M at_ q0 q1 o b hp);have HM:=Lib.hid h;have Ab:=h.lt (k:=M.m) (Or.inl (by simp [Rv.blocks]));have n1:W.heap.size≠M.m:=by omega
 have n2:W.heap.size+1≠M.m:=by omega
 have n3:M.m≠W.heap.size:=by omega
 have n4:M.m≠W.heap.size+1:=by omega
 have b0:=h.ak;have b1:=h.Qv;have b2:=h.zq;have HO:Hid (∀k,Rv.own (M.fenced k) k->M.own k):=Lib.hid fun _ h=>h
 subst htk;have n8:W.heap.size+1≠M.d:=fun e=>by have:=h.lt (k:=M.d) (Or.inl (by simp [Rv.blocks]));omega
 have HC:Hid (∀w,ma w M->Calls Tryz.prog 70 #[.pointer (some ⟨M.d,0,none⟩), .int .i64 1, .int .i64 k, .int .i64 0] w (Zs M (M.fenced k) (.int .i64 0) w)):=Lib.hid fun w h=>Tv M k hk w h hw
 clear hk hw;clear h hp Ab
 go_enter Tryz.func47,Tryz.ntmps47
 go_wp2_with fail
 with_reducible refine (HP.out _ (HM.out.below (((Below.refl _ _).alloc (Nat.le_refl _) _).alloc (by simp) _))).mono ?_
 rintro e w2 ⟨rfl,hb,hh⟩;obtain ⟨rz,ra⟩:=Xc hh;have HB:Hid (Below W.heap.size W w2):=Lib.hid ((((Below.refl _ _).alloc (Nat.le_refl _) _).alloc (by simp) _).trans (hb.mono (by simp;omega)));have HS:Hid (W.heap.size+1<w2.heap.size):=Lib.hid (by rw [hh];simp);have Kf:=Lib.hid (HM.out.below HB.out);obtain ⟨a0,a1,a2,a3,a4,a5,af⟩:=nd ra;obtain ⟨z0,z1,z2,z3,z4,z5,zf⟩:=nd rz;obtain ⟨m0,m1,m2,m3,m4,m5,m6,m7,m8,m9,mf⟩:=ae Kf.out.row;have HZ:=Lib.hid rz;have eC:=Lib.hid ra;clear hb hh ra rz m1
 go_wp2_with fail
 have hq:ma (w2.setCell ⟨W.heap.size+1,2,none⟩ (.int .i64 0)) M:=Kf.out.keep fun k hk=>aa fun e=>HM.out.eb (by omega) (e▸hk)
 with_reducible refine (HC.out _ hq).mono ?_
 rintro e w5 ⟨rfl,kN,cA⟩;have lN:Hid (ma w5 (M.fenced k)):=Lib.hid kN;have Cj:w5.heap[M.m]?=some (.cells #[.pointer (some ⟨M.d,0,none⟩), .slice (some ⟨M.pb,0,none⟩) M.np M.c4, .int .i64 M.ck, .int .i64 M.bd, .int .i64 M.la.ki, .int .i64 M.la.th, .int .i64 M.la.pl, .int .u64 M.la.ol, .int .u64 M.la.ne, .bool M.la.dn] 141 (0,0)):=lN.out.row
 have ra:=(cA.block (W.heap.size+1) (by have:=HS.out;simp [World.setCell];omega) (HM.out.eb (by omega))).trans (heap_set (j:=2) (.int .i64 0) eC.out)
 have rz:=(cA.block W.heap.size (by have:=HS.out;simp [World.setCell];omega) (HM.out.eb (by omega))).trans ((aa (j:=2) (v:= .int .i64 0) (show W.heap.size≠W.heap.size+1 by omega)).trans HZ.out)
 simp only [List.setIfInBounds_toArray,List.set_cons_succ,List.set_cons_zero]at ra;have XY:Hid (Ea M.own W w5):=Lib.hid (((Ea.Tb HB.out).set (fun e=>absurd e (by omega)) _ _).trans cA (fun _ _ h=>h));clear a0 a1 a2 a3 a4 a5 af z0 z1 z2 z3 z4 z5 zf m0 m2 m3 m4 m5 m6 m7 m8 m9 mf kN cA;obtain ⟨a0,a1,a2,a3,a4,a5,af⟩:=nd ra;obtain ⟨z0,z1,z2,z3,z4,z5,zf⟩:=nd rz;obtain ⟨m0,m1,m2,m3,m4,m5,m6,m7,m8,m9,mf⟩:=ae Cj;have YY:=Lib.hid rz;clear ra rz Cj m0 m1
 go_wp2_with fail
 have hA:∀k,Rv.own (M.fenced k) k->k≠W.heap.size+1:=fun k hk e=>HM.out.eb (by omega) (e▸(HO.out k hk))
 have Zl:ma (w5.setCell ⟨W.heap.size+1,5,none⟩ (.bool true)) (M.fenced k):=lN.out.keep fun k hk=>by rw [aa (hA k hk)]
 have Mt:Ea M.own W (w5.setCell ⟨W.heap.size+1,5,none⟩ (.bool true)):=(XY.out.set (fun e=>absurd e (by omega)) _ _);have Nt:=((aa (j:=5) (v:= .bool true) (show W.heap.size≠W.heap.size+1 by omega)).trans YY.out);obtain ⟨f1,f2⟩:=zc Zl Mt rfl rfl (Nat.le_refl W.heap.size) HM.out ⟨5,(k:Int),0,0,0,true⟩ true;refine bodyPost_ret (v:= .agg (Acc.cells ⟨5,(k:Int),0,0,0,true⟩)) ?_ rfl ?_
 . exact Gb rfl rfl (ld n1 Nt M.ck M.bd ⟨5,(k:Int),0,0,0,true⟩ true)
 . exact ⟨rfl,f1,f2⟩
set_option maxRecDepth 100000 in
set_option maxHeartbeats 1000000 in
theorem UC(M:Rv)(t at_ old w:Int)(q0:-9223372036854775808<=at_)(q1:at_<=9223372036854775807)(W:World)(h:ma W M)(hc:M.ck<=1000000)(o:Int)(b:Bool)(hp:M.Ga at_=(o,b))(hE:Bb M.nt t≠0):
  Calls Tryz.prog 47 #[.pointer (some ⟨M.m,0,none⟩), .int .i64 5, .int .i64 t, .int .i64 at_, .int .u64 old, .int .u64 w] W (Ch M (M.note ⟨5,t,0,0,0,false⟩ false) W):=by
 have HP:=Lib.hid (Yd M at_ q0 q1 o b hp);have HM:=Lib.hid h;have Ab:=h.lt (k:=M.m) (Or.inl (by simp [Rv.blocks]));have n1:W.heap.size≠M.m:=by omega
 have n2:W.heap.size+1≠M.m:=by omega
 have n3:M.m≠W.heap.size:=by omega
 have n4:M.m≠W.heap.size+1:=by omega
 have b0:=h.ak;have b1:=h.Qv;have b2:=h.zq;have HO:Hid (∀k,Rv.own M k->M.own k):=Lib.hid fun _ h=>h
 have n8:W.heap.size+1≠M.d:=fun e=>by have:=h.lt (k:=M.d) (Or.inl (by simp [Rv.blocks]));omega
 have HC:Hid (∀w,ma w M->Calls Tryz.prog 70 #[.pointer (some ⟨M.d,0,none⟩), .int .i64 1, .int .i64 t, .int .i64 0] w (Zs M M (.int .i64 1) w)):=Lib.hid fun w h=>zp M t 0 w h hE
 clear hE;clear h hp Ab
 go_enter Tryz.func47,Tryz.ntmps47
 go_wp2_with fail
 with_reducible refine (HP.out _ (HM.out.below (((Below.refl _ _).alloc (Nat.le_refl _) _).alloc (by simp) _))).mono ?_
 rintro e w2 ⟨rfl,hb,hh⟩;obtain ⟨rz,ra⟩:=Xc hh;have HB:Hid (Below W.heap.size W w2):=Lib.hid ((((Below.refl _ _).alloc (Nat.le_refl _) _).alloc (by simp) _).trans (hb.mono (by simp;omega)));have HS:Hid (W.heap.size+1<w2.heap.size):=Lib.hid (by rw [hh];simp);have Kf:=Lib.hid (HM.out.below HB.out);obtain ⟨a0,a1,a2,a3,a4,a5,af⟩:=nd ra;obtain ⟨z0,z1,z2,z3,z4,z5,zf⟩:=nd rz;obtain ⟨m0,m1,m2,m3,m4,m5,m6,m7,m8,m9,mf⟩:=ae Kf.out.row;have HZ:=Lib.hid rz;have eC:=Lib.hid ra;clear hb hh ra rz m1
 go_wp2_with fail
 have hq:ma (w2.setCell ⟨W.heap.size+1,2,none⟩ (.int .i64 0)) M:=Kf.out.keep fun k hk=>aa fun e=>HM.out.eb (by omega) (e▸hk)
 with_reducible refine (HC.out _ hq).mono ?_
 rintro e w5 ⟨rfl,kN,cA⟩;have lN:Hid (ma w5 M):=Lib.hid kN;have Cj:w5.heap[M.m]?=some (.cells #[.pointer (some ⟨M.d,0,none⟩), .slice (some ⟨M.pb,0,none⟩) M.np M.c4, .int .i64 M.ck, .int .i64 M.bd, .int .i64 M.la.ki, .int .i64 M.la.th, .int .i64 M.la.pl, .int .u64 M.la.ol, .int .u64 M.la.ne, .bool M.la.dn] 141 (0,0)):=lN.out.row
 have ra:=(cA.block (W.heap.size+1) (by have:=HS.out;simp [World.setCell];omega) (HM.out.eb (by omega))).trans (heap_set (j:=2) (.int .i64 0) eC.out)
 have rz:=(cA.block W.heap.size (by have:=HS.out;simp [World.setCell];omega) (HM.out.eb (by omega))).trans ((aa (j:=2) (v:= .int .i64 0) (show W.heap.size≠W.heap.size+1 by omega)).trans HZ.out)
 simp only [List.setIfInBounds_toArray,List.set_cons_succ,List.set_cons_zero]at ra;have XY:Hid (Ea M.own W w5):=Lib.hid (((Ea.Tb HB.out).set (fun e=>absurd e (by omega)) _ _).trans cA (fun _ _ h=>h));clear a0 a1 a2 a3 a4 a5 af z0 z1 z2 z3 z4 z5 zf m0 m2 m3 m4 m5 m6 m7 m8 m9 mf kN cA;obtain ⟨a0,a1,a2,a3,a4,a5,af⟩:=nd ra;obtain ⟨z0,z1,z2,z3,z4,z5,zf⟩:=nd rz;obtain ⟨m0,m1,m2,m3,m4,m5,m6,m7,m8,m9,mf⟩:=ae Cj;have YY:=Lib.hid rz;clear ra rz Cj m0 m1
 go_wp2_with fail
 have hA:∀k,Rv.own M k->k≠W.heap.size+1:=fun k hk e=>HM.out.eb (by omega) (e▸(HO.out k hk))
 have Zl:ma (w5.setCell ⟨W.heap.size+1,5,none⟩ (.bool false)) M:=lN.out.keep fun k hk=>by rw [aa (hA k hk)]
 have Mt:Ea M.own W (w5.setCell ⟨W.heap.size+1,5,none⟩ (.bool false)):=(XY.out.set (fun e=>absurd e (by omega)) _ _);have Nt:=((aa (j:=5) (v:= .bool false) (show W.heap.size≠W.heap.size+1 by omega)).trans YY.out);obtain ⟨f1,f2⟩:=zc Zl Mt rfl rfl (Nat.le_refl W.heap.size) HM.out ⟨5,t,0,0,0,false⟩ false;refine bodyPost_ret (v:= .agg (Acc.cells ⟨5,t,0,0,0,false⟩)) ?_ rfl ?_
 . exact Gb rfl rfl (ld n1 Nt M.ck M.bd ⟨5,t,0,0,0,false⟩ false)
 . exact ⟨rfl,f1,f2⟩
end Go.Proofs.YtfnkmolffhfpoaaGreat
