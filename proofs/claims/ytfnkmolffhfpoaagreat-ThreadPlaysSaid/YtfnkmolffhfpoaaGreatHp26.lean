/- -/
import Derived.Test.YtfnkmolffhfpoaaGreatHp25
import Derived.Test.YtfnkmolffhfpoaaGreatHp24
set_option linter.unusedVariables false
set_option linter.unusedSimpArgs false
set_option linter.unusedSectionVars false
namespace Go.Proofs.YtfnkmolffhfpoaaGreat
open Go.RowKit Go.BigFrame
set_option maxRecDepth 100000 in
set_option maxHeartbeats 1000000 in
theorem qA(M:Rv)(t old w:Int)(k:Nat)(W:World)(h:za W M)(hc:M.ck<=1000000)(o:Int)(hp:M.Ua (k:Int)=(o,true))(hk:k<8*M.n):
  Calls Tryz.prog 47 #[.pointer (some ⟨M.m,0,none⟩), .int .i64 2, .int .i64 t, .int .i64 (k:Int), .int .u64 old, .int .u64 w] W (Yi M (({M with seen:=nd M.seen k w}:Rv).note ⟨2,t,(k:Int),o,w,true⟩ true) W):=by
 have HP:=Lib.hid (Ke M (k:Int) (by have:=h.n1;have:=h.p1;omega) (by have:=h.n1;have:=h.p1;omega) o true hp);have HM:=Lib.hid h;have Db:=h.lt (k:=M.m) (Or.inl (by simp [Rv.blocks]));have n1:W.heap.size≠M.m:=by omega
 have n2:W.heap.size+1≠M.m:=by omega
 have n3:M.m≠W.heap.size:=by omega
 have n4:M.m≠W.heap.size+1:=by omega
 have b0:=h.Cm;have b1:=h.fA;have b2:=h.Mu;have HO:Hid (∀k,M.own k->M.own k):=Lib.hid fun _ h=>h
 have HK:=Lib.hid hk;have n5:W.heap.size≠M.sb:=fun e=>by have:=h.seen.lt;omega
 have n6:W.heap.size+1≠M.sb:=fun e=>by have:=h.seen.lt;omega
 have n7:M.m≠M.sb:=h.ne.ms;have n8:W.heap.size+1≠M.d:=fun e=>by have:=h.lt (k:=M.d) (Or.inl (by simp [Rv.blocks]));omega
 have i0:(0:Int)<=(k:Int):=by omega
 have dd:decide ((0:Int)<=(k:Int))=true:=ga (by omega);have de:decide ((k:Int)<0)=false:=ua (by omega);have vL:=h.n1;have WH:=h.p1;clear hk;clear h hp Db
 go_enter Tryz.func47,Tryz.ntmps47
 go_wp2_with fail
 with_reducible refine (HP.out _ (HM.out.below (((Below.refl _ _).alloc (Nat.le_refl _) _).alloc (by simp) _))).mono ?_
 rintro e w2 ⟨rfl,hb,hh⟩;obtain ⟨rz,ra⟩:=Kd hh;have HB:Hid (Below W.heap.size W w2):=Lib.hid ((((Below.refl _ _).alloc (Nat.le_refl _) _).alloc (by simp) _).trans (hb.mono (by simp;omega)));have HS:Hid (W.heap.size+1<w2.heap.size):=Lib.hid (by rw [hh];simp);have Kg:=Lib.hid (HM.out.below HB.out);obtain ⟨a0,a1,a2,a3,a4,a5,af⟩:=Td ra;obtain ⟨z0,z1,z2,z3,z4,z5,zf⟩:=Td rz;obtain ⟨m0,m1,m2,m3,m4,m5,m6,m7,m8,m9,mf⟩:=qd Kg.out.row;have HZ:=Lib.hid rz;have y1:=(Mb Kg.out.dev).2.1
 have y2:=Kg.out.seen.cell HK.out;have y3:=Kg.out.seen.free k;have i1:(k:Int)<((8*M.n:Nat):Int):=by have:=HK.out;omega
 generalize M.seen k=u at*;obtain ⟨NN,hNN⟩:∃NN,NN=8*M.n:=⟨_,rfl⟩;rw [<-hNN]at y1 i1;have VO:NN<=2097152:=by omega
 clear hb hh ra rz m1 hNN
 go_wp2_with fail
 have hA:∀k,Rv.own M k->k≠W.heap.size+1:=fun k hk e=>HM.out.Ab (by omega) (e▸(HO.out k hk))
 have cp:za (((w2.setCell ⟨W.heap.size+1,3,none⟩ (.int .u64 o)).setCell ⟨W.heap.size+1,5,none⟩ (.bool true)).setCell ⟨W.heap.size+1,4,none⟩ (.int .u64 w)) M:=Kg.out.keep fun k hk=>by rw [aa (hA k hk),aa (hA k hk),aa (hA k hk)]
 have Xx:Ja M.own W (((w2.setCell ⟨W.heap.size+1,3,none⟩ (.int .u64 o)).setCell ⟨W.heap.size+1,5,none⟩ (.bool true)).setCell ⟨W.heap.size+1,4,none⟩ (.int .u64 w)):=((((Ja.jc HB.out).set (fun e=>absurd e (by omega)) _ _).set (fun e=>absurd e (by omega)) _ _).set (fun e=>absurd e (by omega)) _ _);have Yx:=((aa (j:=4) (v:= .int .u64 w) (show W.heap.size≠W.heap.size+1 by omega)).trans ((aa (j:=5) (v:= .bool true) (show W.heap.size≠W.heap.size+1 by omega)).trans ((aa (j:=3) (v:= .int .u64 o) (show W.heap.size≠W.heap.size+1 by omega)).trans HZ.out)));have EI:=cp.pn k w;have hT2:=Xx.set (b:=M.sb) (fun _=>Or.inl (by simp [Rv.blocks])) k (.int .u64 w);have hZ2:=(aa (j:=k) (v:= .int .u64 w) n5).trans Yx
 obtain ⟨f1,f2⟩:=cd EI hT2 rfl rfl (Nat.le_refl W.heap.size) HM.out ⟨2,t,(k:Int),o,w,true⟩ true;refine bodyPost_ret (v:= .agg (Acc.cells ⟨2,t,(k:Int),o,w,true⟩)) ?_ rfl ?_
 . exact Lb rfl rfl (Od n1 hZ2 M.ck M.bd ⟨2,t,(k:Int),o,w,true⟩ true)
 . exact ⟨rfl,f1,f2⟩
set_option maxRecDepth 100000 in
set_option maxHeartbeats 1000000 in
theorem rA(M:Rv)(t old w:Int)(k:Nat)(W:World)(h:za W M)(hc:M.ck<=1000000)(o:Int)(hp:M.Ua (-1 -(k:Int))=(o,true))(hk:k<M.np):
  Calls Tryz.prog 47 #[.pointer (some ⟨M.m,0,none⟩), .int .i64 2, .int .i64 t, .int .i64 (-1 -(k:Int)), .int .u64 old, .int .u64 w] W (Yi M (({M with pass:=nd M.pass k w}:Rv).note ⟨2,t,(-1 -(k:Int)),o,w,true⟩ true) W):=by
 have HP:=Lib.hid (Ke M (-1 -(k:Int)) (by have:=h.n1;have:=h.p1;omega) (by have:=h.n1;have:=h.p1;omega) o true hp);have HM:=Lib.hid h;have Db:=h.lt (k:=M.m) (Or.inl (by simp [Rv.blocks]));have n1:W.heap.size≠M.m:=by omega
 have n2:W.heap.size+1≠M.m:=by omega
 have n3:M.m≠W.heap.size:=by omega
 have n4:M.m≠W.heap.size+1:=by omega
 have b0:=h.Cm;have b1:=h.fA;have b2:=h.Mu;have HO:Hid (∀k,M.own k->M.own k):=Lib.hid fun _ h=>h
 have HK:=Lib.hid hk;have n5:W.heap.size≠M.pb:=fun e=>by have:=h.pass.lt;omega
 have n6:W.heap.size+1≠M.pb:=fun e=>by have:=h.pass.lt;omega
 have n7:M.m≠M.pb:=h.ne.mp;have n8:W.heap.size+1≠M.d:=fun e=>by have:=h.lt (k:=M.d) (Or.inl (by simp [Rv.blocks]));omega
 have i0:(0:Int)<=(k:Int):=by omega
 have dd:decide ((0:Int)<=-1 -(k:Int))=false:=ua (by omega);have de:decide (-1 -(k:Int)<0)=true:=ga (by omega);have df:(-1 -(-1 -(k:Int)):Int)=(k:Int):=by omega
 have vL:=h.n1;have WH:=h.p1;clear hk;clear h hp Db
 go_enter Tryz.func47,Tryz.ntmps47
 go_wp2_with fail
 with_reducible refine (HP.out _ (HM.out.below (((Below.refl _ _).alloc (Nat.le_refl _) _).alloc (by simp) _))).mono ?_
 rintro e w2 ⟨rfl,hb,hh⟩;obtain ⟨rz,ra⟩:=Kd hh;have HB:Hid (Below W.heap.size W w2):=Lib.hid ((((Below.refl _ _).alloc (Nat.le_refl _) _).alloc (by simp) _).trans (hb.mono (by simp;omega)));have HS:Hid (W.heap.size+1<w2.heap.size):=Lib.hid (by rw [hh];simp);have Kg:=Lib.hid (HM.out.below HB.out);obtain ⟨a0,a1,a2,a3,a4,a5,af⟩:=Td ra;obtain ⟨z0,z1,z2,z3,z4,z5,zf⟩:=Td rz;obtain ⟨m0,m1,m2,m3,m4,m5,m6,m7,m8,m9,mf⟩:=qd Kg.out.row;have HZ:=Lib.hid rz;have y2:=Kg.out.pass.cell HK.out;have y3:=Kg.out.pass.free k;have i1:(k:Int)<(M.np:Int):=by have:=HK.out;omega
 generalize M.pass k=u at*;clear hb hh ra rz m0
 go_wp2_with fail
 have hA:∀k,Rv.own M k->k≠W.heap.size+1:=fun k hk e=>HM.out.Ab (by omega) (e▸(HO.out k hk))
 have cp:za (((w2.setCell ⟨W.heap.size+1,3,none⟩ (.int .u64 o)).setCell ⟨W.heap.size+1,5,none⟩ (.bool true)).setCell ⟨W.heap.size+1,4,none⟩ (.int .u64 w)) M:=Kg.out.keep fun k hk=>by rw [aa (hA k hk),aa (hA k hk),aa (hA k hk)]
 have Xx:Ja M.own W (((w2.setCell ⟨W.heap.size+1,3,none⟩ (.int .u64 o)).setCell ⟨W.heap.size+1,5,none⟩ (.bool true)).setCell ⟨W.heap.size+1,4,none⟩ (.int .u64 w)):=((((Ja.jc HB.out).set (fun e=>absurd e (by omega)) _ _).set (fun e=>absurd e (by omega)) _ _).set (fun e=>absurd e (by omega)) _ _);have Yx:=((aa (j:=4) (v:= .int .u64 w) (show W.heap.size≠W.heap.size+1 by omega)).trans ((aa (j:=5) (v:= .bool true) (show W.heap.size≠W.heap.size+1 by omega)).trans ((aa (j:=3) (v:= .int .u64 o) (show W.heap.size≠W.heap.size+1 by omega)).trans HZ.out)));have EI:=cp.qn k w;have hT2:=Xx.set (b:=M.pb) (fun _=>Or.inl (by simp [Rv.blocks])) k (.int .u64 w);have hZ2:=(aa (j:=k) (v:= .int .u64 w) n5).trans Yx
 obtain ⟨f1,f2⟩:=cd EI hT2 rfl rfl (Nat.le_refl W.heap.size) HM.out ⟨2,t,(-1 -(k:Int)),o,w,true⟩ true;refine bodyPost_ret (v:= .agg (Acc.cells ⟨2,t,(-1 -(k:Int)),o,w,true⟩)) ?_ rfl ?_
 . exact Lb rfl rfl (Od n1 hZ2 M.ck M.bd ⟨2,t,(-1 -(k:Int)),o,w,true⟩ true)
 . exact ⟨rfl,f1,f2⟩
set_option maxRecDepth 100000 in
set_option maxHeartbeats 1000000 in
theorem KD(M:Rv)(t old w:Int)(k:Nat)(W:World)(h:za W M)(hc:M.ck<=1000000)(o:Int)(hp:M.Ua (k:Int)=(o,true))(hk:k<8*M.n)(Jc:(o==old)=true):
  Calls Tryz.prog 47 #[.pointer (some ⟨M.m,0,none⟩), .int .i64 3, .int .i64 t, .int .i64 (k:Int), .int .u64 old, .int .u64 w] W (Yi M (({M with seen:=nd M.seen k w}:Rv).note ⟨3,t,(k:Int),o,w,true⟩ true) W):=by
 have HP:=Lib.hid (Ke M (k:Int) (by have:=h.n1;have:=h.p1;omega) (by have:=h.n1;have:=h.p1;omega) o true hp);have HM:=Lib.hid h;have Db:=h.lt (k:=M.m) (Or.inl (by simp [Rv.blocks]));have n1:W.heap.size≠M.m:=by omega
 have n2:W.heap.size+1≠M.m:=by omega
 have n3:M.m≠W.heap.size:=by omega
 have n4:M.m≠W.heap.size+1:=by omega
 have b0:=h.Cm;have b1:=h.fA;have b2:=h.Mu;have HO:Hid (∀k,M.own k->M.own k):=Lib.hid fun _ h=>h
 have HK:=Lib.hid hk;have n5:W.heap.size≠M.sb:=fun e=>by have:=h.seen.lt;omega
 have n6:W.heap.size+1≠M.sb:=fun e=>by have:=h.seen.lt;omega
 have n7:M.m≠M.sb:=h.ne.ms;have n8:W.heap.size+1≠M.d:=fun e=>by have:=h.lt (k:=M.d) (Or.inl (by simp [Rv.blocks]));omega
 have i0:(0:Int)<=(k:Int):=by omega
 have dd:decide ((0:Int)<=(k:Int))=true:=ga (by omega);have de:decide ((k:Int)<0)=false:=ua (by omega);have vL:=h.n1;have WH:=h.p1;clear hk;clear h hp Db
 go_enter Tryz.func47,Tryz.ntmps47
 go_wp2_with fail
 with_reducible refine (HP.out _ (HM.out.below (((Below.refl _ _).alloc (Nat.le_refl _) _).alloc (by simp) _))).mono ?_
 rintro e w2 ⟨rfl,hb,hh⟩;obtain ⟨rz,ra⟩:=Kd hh;have HB:Hid (Below W.heap.size W w2):=Lib.hid ((((Below.refl _ _).alloc (Nat.le_refl _) _).alloc (by simp) _).trans (hb.mono (by simp;omega)));have HS:Hid (W.heap.size+1<w2.heap.size):=Lib.hid (by rw [hh];simp);have Kg:=Lib.hid (HM.out.below HB.out);obtain ⟨a0,a1,a2,a3,a4,a5,af⟩:=Td ra;obtain ⟨z0,z1,z2,z3,z4,z5,zf⟩:=Td rz;obtain ⟨m0,m1,m2,m3,m4,m5,m6,m7,m8,m9,mf⟩:=qd Kg.out.row;have HZ:=Lib.hid rz;have y1:=(Mb Kg.out.dev).2.1
 have y2:=Kg.out.seen.cell HK.out;have y3:=Kg.out.seen.free k;have i1:(k:Int)<((8*M.n:Nat):Int):=by have:=HK.out;omega
 generalize M.seen k=u at*;obtain ⟨NN,hNN⟩:∃NN,NN=8*M.n:=⟨_,rfl⟩;rw [<-hNN]at y1 i1;have VO:NN<=2097152:=by omega
 clear hb hh ra rz m1 hNN
 go_wp2_with fail
 have hA:∀k,Rv.own M k->k≠W.heap.size+1:=fun k hk e=>HM.out.Ab (by omega) (e▸(HO.out k hk))
 have cp:za (((w2.setCell ⟨W.heap.size+1,3,none⟩ (.int .u64 o)).setCell ⟨W.heap.size+1,5,none⟩ (.bool true)).setCell ⟨W.heap.size+1,4,none⟩ (.int .u64 w)) M:=Kg.out.keep fun k hk=>by rw [aa (hA k hk),aa (hA k hk),aa (hA k hk)]
 have Xx:Ja M.own W (((w2.setCell ⟨W.heap.size+1,3,none⟩ (.int .u64 o)).setCell ⟨W.heap.size+1,5,none⟩ (.bool true)).setCell ⟨W.heap.size+1,4,none⟩ (.int .u64 w)):=((((Ja.jc HB.out).set (fun e=>absurd e (by omega)) _ _).set (fun e=>absurd e (by omega)) _ _).set (fun e=>absurd e (by omega)) _ _);have Yx:=((aa (j:=4) (v:= .int .u64 w) (show W.heap.size≠W.heap.size+1 by omega)).trans ((aa (j:=5) (v:= .bool true) (show W.heap.size≠W.heap.size+1 by omega)).trans ((aa (j:=3) (v:= .int .u64 o) (show W.heap.size≠W.heap.size+1 by omega)).trans HZ.out)));have EI:=cp.pn k w;have hT2:=Xx.set (b:=M.sb) (fun _=>Or.inl (by simp [Rv.blocks])) k (.int .u64 w);have hZ2:=(aa (j:=k) (v:= .int .u64 w) n5).trans Yx
 obtain ⟨f1,f2⟩:=cd EI hT2 rfl rfl (Nat.le_refl W.heap.size) HM.out ⟨3,t,(k:Int),o,w,true⟩ true;refine bodyPost_ret (v:= .agg (Acc.cells ⟨3,t,(k:Int),o,w,true⟩)) ?_ rfl ?_
 . exact Lb rfl rfl (Od n1 hZ2 M.ck M.bd ⟨3,t,(k:Int),o,w,true⟩ true)
 . exact ⟨rfl,f1,f2⟩
set_option maxRecDepth 100000 in
set_option maxHeartbeats 1000000 in
theorem LD(M:Rv)(t old w:Int)(k:Nat)(W:World)(h:za W M)(hc:M.ck<=1000000)(o:Int)(hp:M.Ua (-1 -(k:Int))=(o,true))(hk:k<M.np)(Jc:(o==old)=true):
  Calls Tryz.prog 47 #[.pointer (some ⟨M.m,0,none⟩), .int .i64 3, .int .i64 t, .int .i64 (-1 -(k:Int)), .int .u64 old, .int .u64 w] W (Yi M (({M with pass:=nd M.pass k w}:Rv).note ⟨3,t,(-1 -(k:Int)),o,w,true⟩ true) W):=by
 have HP:=Lib.hid (Ke M (-1 -(k:Int)) (by have:=h.n1;have:=h.p1;omega) (by have:=h.n1;have:=h.p1;omega) o true hp);have HM:=Lib.hid h;have Db:=h.lt (k:=M.m) (Or.inl (by simp [Rv.blocks]));have n1:W.heap.size≠M.m:=by omega
 have n2:W.heap.size+1≠M.m:=by omega
 have n3:M.m≠W.heap.size:=by omega
 have n4:M.m≠W.heap.size+1:=by omega
 have b0:=h.Cm;have b1:=h.fA;have b2:=h.Mu;have HO:Hid (∀k,M.own k->M.own k):=Lib.hid fun _ h=>h
 have HK:=Lib.hid hk;have n5:W.heap.size≠M.pb:=fun e=>by have:=h.pass.lt;omega
 have n6:W.heap.size+1≠M.pb:=fun e=>by have:=h.pass.lt;omega
 have n7:M.m≠M.pb:=h.ne.mp;have n8:W.heap.size+1≠M.d:=fun e=>by have:=h.lt (k:=M.d) (Or.inl (by simp [Rv.blocks]));omega
 have i0:(0:Int)<=(k:Int):=by omega
 have dd:decide ((0:Int)<=-1 -(k:Int))=false:=ua (by omega);have de:decide (-1 -(k:Int)<0)=true:=ga (by omega);have df:(-1 -(-1 -(k:Int)):Int)=(k:Int):=by omega
 have vL:=h.n1;have WH:=h.p1;clear hk;clear h hp Db
 go_enter Tryz.func47,Tryz.ntmps47
 go_wp2_with fail
 with_reducible refine (HP.out _ (HM.out.below (((Below.refl _ _).alloc (Nat.le_refl _) _).alloc (by simp) _))).mono ?_
 rintro e w2 ⟨rfl,hb,hh⟩;obtain ⟨rz,ra⟩:=Kd hh;have HB:Hid (Below W.heap.size W w2):=Lib.hid ((((Below.refl _ _).alloc (Nat.le_refl _) _).alloc (by simp) _).trans (hb.mono (by simp;omega)));have HS:Hid (W.heap.size+1<w2.heap.size):=Lib.hid (by rw [hh];simp);have Kg:=Lib.hid (HM.out.below HB.out);obtain ⟨a0,a1,a2,a3,a4,a5,af⟩:=Td ra;obtain ⟨z0,z1,z2,z3,z4,z5,zf⟩:=Td rz;obtain ⟨m0,m1,m2,m3,m4,m5,m6,m7,m8,m9,mf⟩:=qd Kg.out.row;have HZ:=Lib.hid rz;have y2:=Kg.out.pass.cell HK.out;have y3:=Kg.out.pass.free k;have i1:(k:Int)<(M.np:Int):=by have:=HK.out;omega
 generalize M.pass k=u at*;clear hb hh ra rz m0
 go_wp2_with fail
 have hA:∀k,Rv.own M k->k≠W.heap.size+1:=fun k hk e=>HM.out.Ab (by omega) (e▸(HO.out k hk))
 have cp:za (((w2.setCell ⟨W.heap.size+1,3,none⟩ (.int .u64 o)).setCell ⟨W.heap.size+1,5,none⟩ (.bool true)).setCell ⟨W.heap.size+1,4,none⟩ (.int .u64 w)) M:=Kg.out.keep fun k hk=>by rw [aa (hA k hk),aa (hA k hk),aa (hA k hk)]
 have Xx:Ja M.own W (((w2.setCell ⟨W.heap.size+1,3,none⟩ (.int .u64 o)).setCell ⟨W.heap.size+1,5,none⟩ (.bool true)).setCell ⟨W.heap.size+1,4,none⟩ (.int .u64 w)):=((((Ja.jc HB.out).set (fun e=>absurd e (by omega)) _ _).set (fun e=>absurd e (by omega)) _ _).set (fun e=>absurd e (by omega)) _ _);have Yx:=((aa (j:=4) (v:= .int .u64 w) (show W.heap.size≠W.heap.size+1 by omega)).trans ((aa (j:=5) (v:= .bool true) (show W.heap.size≠W.heap.size+1 by omega)).trans ((aa (j:=3) (v:= .int .u64 o) (show W.heap.size≠W.heap.size+1 by omega)).trans HZ.out)));have EI:=cp.qn k w;have hT2:=Xx.set (b:=M.pb) (fun _=>Or.inl (by simp [Rv.blocks])) k (.int .u64 w);have hZ2:=(aa (j:=k) (v:= .int .u64 w) n5).trans Yx
 obtain ⟨f1,f2⟩:=cd EI hT2 rfl rfl (Nat.le_refl W.heap.size) HM.out ⟨3,t,(-1 -(k:Int)),o,w,true⟩ true;refine bodyPost_ret (v:= .agg (Acc.cells ⟨3,t,(-1 -(k:Int)),o,w,true⟩)) ?_ rfl ?_
 . exact Lb rfl rfl (Od n1 hZ2 M.ck M.bd ⟨3,t,(-1 -(k:Int)),o,w,true⟩ true)
 . exact ⟨rfl,f1,f2⟩
set_option maxRecDepth 100000 in
set_option maxHeartbeats 1000000 in
theorem MD(M:Rv)(t at_ old w:Int)(q0:-9223372036854775808<=at_)(q1:at_<=9223372036854775807)(W:World)(h:za W M)(hc:M.ck<=1000000)(o:Int)(b:Bool)(hp:M.Ua at_=(o,b))(gaR:at_<0):
  Calls Tryz.prog 47 #[.pointer (some ⟨M.m,0,none⟩), .int .i64 4, .int .i64 t, .int .i64 at_, .int .u64 old, .int .u64 w] W (Yi M (M.note ⟨4,t,at_,0,0,false⟩ false) W):=by
 have HP:=Lib.hid (Ke M at_ q0 q1 o b hp);have HM:=Lib.hid h;have Db:=h.lt (k:=M.m) (Or.inl (by simp [Rv.blocks]));have n1:W.heap.size≠M.m:=by omega
 have n2:W.heap.size+1≠M.m:=by omega
 have n3:M.m≠W.heap.size:=by omega
 have n4:M.m≠W.heap.size+1:=by omega
 have b0:=h.Cm;have b1:=h.fA;have b2:=h.Mu;have HO:Hid (∀k,M.own k->M.own k):=Lib.hid fun _ h=>h
 have d0:decide (0<=at_)=false:=ua (by omega);clear h hp Db
 go_enter Tryz.func47,Tryz.ntmps47
 go_wp2_with fail
 with_reducible refine (HP.out _ (HM.out.below (((Below.refl _ _).alloc (Nat.le_refl _) _).alloc (by simp) _))).mono ?_
 rintro e w2 ⟨rfl,hb,hh⟩;obtain ⟨rz,ra⟩:=Kd hh;have HB:Hid (Below W.heap.size W w2):=Lib.hid ((((Below.refl _ _).alloc (Nat.le_refl _) _).alloc (by simp) _).trans (hb.mono (by simp;omega)));have HS:Hid (W.heap.size+1<w2.heap.size):=Lib.hid (by rw [hh];simp);have Kg:=Lib.hid (HM.out.below HB.out);obtain ⟨a0,a1,a2,a3,a4,a5,af⟩:=Td ra;obtain ⟨z0,z1,z2,z3,z4,z5,zf⟩:=Td rz;obtain ⟨m0,m1,m2,m3,m4,m5,m6,m7,m8,m9,mf⟩:=qd Kg.out.row;have HZ:=Lib.hid rz;clear hb hh ra rz m0 m1
 go_wp2_with fail
 have hA:∀k,Rv.own M k->k≠W.heap.size+1:=fun k hk e=>HM.out.Ab (by omega) (e▸(HO.out k hk))
 have cp:za (w2.setCell ⟨W.heap.size+1,5,none⟩ (.bool false)) M:=Kg.out.keep fun k hk=>by rw [aa (hA k hk)]
 have Xx:Ja M.own W (w2.setCell ⟨W.heap.size+1,5,none⟩ (.bool false)):=((Ja.jc HB.out).set (fun e=>absurd e (by omega)) _ _);have Yx:=((aa (j:=5) (v:= .bool false) (show W.heap.size≠W.heap.size+1 by omega)).trans HZ.out);obtain ⟨f1,f2⟩:=cd cp Xx rfl rfl (Nat.le_refl W.heap.size) HM.out ⟨4,t,at_,0,0,false⟩ false;refine bodyPost_ret (v:= .agg (Acc.cells ⟨4,t,at_,0,0,false⟩)) ?_ rfl ?_
 . exact Lb rfl rfl (Od n1 Yx M.ck M.bd ⟨4,t,at_,0,0,false⟩ false)
 . exact ⟨rfl,f1,f2⟩
set_option maxRecDepth 100000 in
set_option maxHeartbeats 1000000 in
theorem ND(M:Rv)(t at_ old w:Int)(q0:-9223372036854775808<=at_)(q1:at_<=9223372036854775807)(W:World)(h:za W M)(hc:M.ck<=1000000)(o:Int)(b:Bool)(hp:M.Ua at_=(o,b))(q2:0<=at_)(hE:M.Nb t (at_/8)=0):
  Calls Tryz.prog 47 #[.pointer (some ⟨M.m,0,none⟩), .int .i64 4, .int .i64 t, .int .i64 at_, .int .u64 old, .int .u64 w] W (Yi M ((M.Rc t (at_/8)).note ⟨4,t,at_,0,0,true⟩ true) W):=by
 have HP:=Lib.hid (Ke M at_ q0 q1 o b hp);have HM:=Lib.hid h;have Db:=h.lt (k:=M.m) (Or.inl (by simp [Rv.blocks]));have n1:W.heap.size≠M.m:=by omega
 have n2:W.heap.size+1≠M.m:=by omega
 have n3:M.m≠W.heap.size:=by omega
 have n4:M.m≠W.heap.size+1:=by omega
 have b0:=h.Cm;have b1:=h.fA;have b2:=h.Mu;have HO:Hid (∀k,Rv.own (M.Rc t (at_/8)) k->M.own k):=Lib.hid fun _ h=>h
 have d0:decide (0<=at_)=true:=ga q2;have e8:at_.tdiv 8=at_/8:=Int.tdiv_eq_ediv_of_nonneg q2;have HC:Hid (∀w,za w M->Calls Tryz.prog 70 #[.pointer (some ⟨M.d,0,none⟩), .int .i64 0, .int .i64 t, .int .i64 (at_/8)] w (yn M (M.Rc t (at_/8)) (.int .i64 0) w)):=Lib.hid fun w hw=>by
  have:=vp M t (at_/8) w hw;rw [if_pos hE,hE]at this;exact this
 clear hE;clear h hp Db
 go_enter Tryz.func47,Tryz.ntmps47
 go_wp2_with fail
 with_reducible refine (HP.out _ (HM.out.below (((Below.refl _ _).alloc (Nat.le_refl _) _).alloc (by simp) _))).mono ?_
 rintro e w2 ⟨rfl,hb,hh⟩;obtain ⟨rz,ra⟩:=Kd hh;have HB:Hid (Below W.heap.size W w2):=Lib.hid ((((Below.refl _ _).alloc (Nat.le_refl _) _).alloc (by simp) _).trans (hb.mono (by simp;omega)));have HS:Hid (W.heap.size+1<w2.heap.size):=Lib.hid (by rw [hh];simp);have Kg:=Lib.hid (HM.out.below HB.out);obtain ⟨a0,a1,a2,a3,a4,a5,af⟩:=Td ra;obtain ⟨z0,z1,z2,z3,z4,z5,zf⟩:=Td rz;obtain ⟨m0,m1,m2,m3,m4,m5,m6,m7,m8,m9,mf⟩:=qd Kg.out.row;have HZ:=Lib.hid rz;have OF:=Lib.hid ra;clear hb hh ra rz m1
 go_wp2_with fail
 with_reducible refine (HC.out w2 Kg.out).mono ?_
 rintro e w5 ⟨rfl,MG,OD⟩;have uU:Hid (za w5 (M.Rc t (at_/8))):=Lib.hid MG;have qi:w5.heap[M.m]?=some (.cells #[.pointer (some ⟨M.d,0,none⟩), .slice (some ⟨M.pb,0,none⟩) M.np M.c4, .int .i64 M.ck, .int .i64 M.bd, .int .i64 M.la.ki, .int .i64 M.la.th, .int .i64 M.la.pl, .int .u64 M.la.ol, .int .u64 M.la.ne, .bool M.la.dn] 141 (0,0)):=uU.out.row
 have ra:=(OD.block (W.heap.size+1) (by have:=HS.out;omega) (HM.out.Ab (by omega))).trans OF.out
 have rz:=(OD.block W.heap.size (by have:=HS.out;omega) (HM.out.Ab (by omega))).trans HZ.out
 have HT5:Hid (Ja M.own W w5):=Lib.hid ((Ja.jc HB.out).trans OD (fun _ _ h=>h));clear a0 a1 a2 a3 a4 a5 af z0 z1 z2 z3 z4 z5 zf m0 m2 m3 m4 m5 m6 m7 m8 m9 mf MG OD;obtain ⟨a0,a1,a2,a3,a4,a5,af⟩:=Td ra;obtain ⟨z0,z1,z2,z3,z4,z5,zf⟩:=Td rz;obtain ⟨m0,m1,m2,m3,m4,m5,m6,m7,m8,m9,mf⟩:=qd qi;have HZ5:=Lib.hid rz;clear ra rz qi m0 m1
 go_wp2_with fail
 have hA:∀k,Rv.own (M.Rc t (at_/8)) k->k≠W.heap.size+1:=fun k hk e=>HM.out.Ab (by omega) (e▸(HO.out k hk))
 have cp:za (w5.setCell ⟨W.heap.size+1,5,none⟩ (.bool true)) (M.Rc t (at_/8)):=uU.out.keep fun k hk=>by rw [aa (hA k hk)]
 have Xx:Ja M.own W (w5.setCell ⟨W.heap.size+1,5,none⟩ (.bool true)):=(HT5.out.set (fun e=>absurd e (by omega)) _ _);have Yx:=((aa (j:=5) (v:= .bool true) (show W.heap.size≠W.heap.size+1 by omega)).trans HZ5.out);obtain ⟨f1,f2⟩:=cd cp Xx rfl rfl (Nat.le_refl W.heap.size) HM.out ⟨4,t,at_,0,0,true⟩ true;refine bodyPost_ret (v:= .agg (Acc.cells ⟨4,t,at_,0,0,true⟩)) ?_ rfl ?_
 . exact Lb rfl rfl (Od n1 Yx M.ck M.bd ⟨4,t,at_,0,0,true⟩ true)
 . exact ⟨rfl,f1,f2⟩
set_option maxRecDepth 100000 in
set_option maxHeartbeats 1000000 in
theorem OG(M:Rv)(t at_ old w:Int)(q0:-9223372036854775808<=at_)(q1:at_<=9223372036854775807)(W:World)(h:za W M)(hc:M.ck<=1000000)(o:Int)(b:Bool)(hp:M.Ua at_=(o,b))(q2:0<=at_)(hE:M.Nb t (at_/8)≠0):
  Calls Tryz.prog 47 #[.pointer (some ⟨M.m,0,none⟩), .int .i64 4, .int .i64 t, .int .i64 at_, .int .u64 old, .int .u64 w] W (Yi M (M.note ⟨4,t,at_,0,0,false⟩ false) W):=by
 have HP:=Lib.hid (Ke M at_ q0 q1 o b hp);have HM:=Lib.hid h;have Db:=h.lt (k:=M.m) (Or.inl (by simp [Rv.blocks]));have n1:W.heap.size≠M.m:=by omega
 have n2:W.heap.size+1≠M.m:=by omega
 have n3:M.m≠W.heap.size:=by omega
 have n4:M.m≠W.heap.size+1:=by omega
 have b0:=h.Cm;have b1:=h.fA;have b2:=h.Mu;have HO:Hid (∀k,Rv.own M k->M.own k):=Lib.hid fun _ h=>h
 have d0:decide (0<=at_)=true:=ga q2;have e8:at_.tdiv 8=at_/8:=Int.tdiv_eq_ediv_of_nonneg q2;obtain ⟨E,hE2⟩:∃E,E=M.Nb t (at_/8):=⟨_,rfl⟩;rw [<-hE2]at hE;have HC:Hid (∀w,za w M->Calls Tryz.prog 70 #[.pointer (some ⟨M.d,0,none⟩), .int .i64 0, .int .i64 t, .int .i64 (at_/8)] w (yn M M (.int .i64 E) w)):=Lib.hid fun w hw=>by
  have:=vp M t (at_/8) w hw;rw [<-hE2,if_neg hE]at this;exact this
 have e0:(E==0)=false:=by simpa using hE
 clear hE hE2;clear h hp Db
 go_enter Tryz.func47,Tryz.ntmps47
 go_wp2_with fail
 with_reducible refine (HP.out _ (HM.out.below (((Below.refl _ _).alloc (Nat.le_refl _) _).alloc (by simp) _))).mono ?_
 rintro e w2 ⟨rfl,hb,hh⟩;obtain ⟨rz,ra⟩:=Kd hh;have HB:Hid (Below W.heap.size W w2):=Lib.hid ((((Below.refl _ _).alloc (Nat.le_refl _) _).alloc (by simp) _).trans (hb.mono (by simp;omega)));have HS:Hid (W.heap.size+1<w2.heap.size):=Lib.hid (by rw [hh];simp);have Kg:=Lib.hid (HM.out.below HB.out);obtain ⟨a0,a1,a2,a3,a4,a5,af⟩:=Td ra;obtain ⟨z0,z1,z2,z3,z4,z5,zf⟩:=Td rz;obtain ⟨m0,m1,m2,m3,m4,m5,m6,m7,m8,m9,mf⟩:=qd Kg.out.row;have HZ:=Lib.hid rz;have OF:=Lib.hid ra;clear hb hh ra rz m1
 go_wp2_with fail
 with_reducible refine (HC.out w2 Kg.out).mono ?_
 rintro e w5 ⟨rfl,MG,OD⟩;have uU:Hid (za w5 M):=Lib.hid MG;have qi:w5.heap[M.m]?=some (.cells #[.pointer (some ⟨M.d,0,none⟩), .slice (some ⟨M.pb,0,none⟩) M.np M.c4, .int .i64 M.ck, .int .i64 M.bd, .int .i64 M.la.ki, .int .i64 M.la.th, .int .i64 M.la.pl, .int .u64 M.la.ol, .int .u64 M.la.ne, .bool M.la.dn] 141 (0,0)):=uU.out.row
 have ra:=(OD.block (W.heap.size+1) (by have:=HS.out;omega) (HM.out.Ab (by omega))).trans OF.out
 have rz:=(OD.block W.heap.size (by have:=HS.out;omega) (HM.out.Ab (by omega))).trans HZ.out
 have HT5:Hid (Ja M.own W w5):=Lib.hid ((Ja.jc HB.out).trans OD (fun _ _ h=>h));clear a0 a1 a2 a3 a4 a5 af z0 z1 z2 z3 z4 z5 zf m0 m2 m3 m4 m5 m6 m7 m8 m9 mf MG OD;obtain ⟨a0,a1,a2,a3,a4,a5,af⟩:=Td ra;obtain ⟨z0,z1,z2,z3,z4,z5,zf⟩:=Td rz;obtain ⟨m0,m1,m2,m3,m4,m5,m6,m7,m8,m9,mf⟩:=qd qi;have HZ5:=Lib.hid rz;clear ra rz qi m0 m1
 go_wp2_with fail
 have hA:∀k,Rv.own M k->k≠W.heap.size+1:=fun k hk e=>HM.out.Ab (by omega) (e▸(HO.out k hk))
 have cp:za (w5.setCell ⟨W.heap.size+1,5,none⟩ (.bool false)) M:=uU.out.keep fun k hk=>by rw [aa (hA k hk)]
 have Xx:Ja M.own W (w5.setCell ⟨W.heap.size+1,5,none⟩ (.bool false)):=(HT5.out.set (fun e=>absurd e (by omega)) _ _);have Yx:=((aa (j:=5) (v:= .bool false) (show W.heap.size≠W.heap.size+1 by omega)).trans HZ5.out);obtain ⟨f1,f2⟩:=cd cp Xx rfl rfl (Nat.le_refl W.heap.size) HM.out ⟨4,t,at_,0,0,false⟩ false;refine bodyPost_ret (v:= .agg (Acc.cells ⟨4,t,at_,0,0,false⟩)) ?_ rfl ?_
 . exact Lb rfl rfl (Od n1 Yx M.ck M.bd ⟨4,t,at_,0,0,false⟩ false)
 . exact ⟨rfl,f1,f2⟩
set_option maxRecDepth 100000 in
set_option maxHeartbeats 1000000 in
theorem PD(M:Rv)(t at_ old w:Int)(q0:-9223372036854775808<=at_)(q1:at_<=9223372036854775807)(W:World)(h:za W M)(hc:M.ck<=1000000)(o:Int)(b:Bool)(hp:M.Ua at_=(o,b))(k:Nat)(hk:k<M.nt)(hw:M.wm<=999999)(htk:t=(k:Int)):
  Calls Tryz.prog 47 #[.pointer (some ⟨M.m,0,none⟩), .int .i64 5, .int .i64 t, .int .i64 at_, .int .u64 old, .int .u64 w] W (Yi M ((M.fenced k).note ⟨5,(k:Int),0,0,0,true⟩ true) W):=by
 have HP:=Lib.hid (Ke M at_ q0 q1 o b hp);have HM:=Lib.hid h;have Db:=h.lt (k:=M.m) (Or.inl (by simp [Rv.blocks]));have n1:W.heap.size≠M.m:=by omega
 have n2:W.heap.size+1≠M.m:=by omega
 have n3:M.m≠W.heap.size:=by omega
 have n4:M.m≠W.heap.size+1:=by omega
 have b0:=h.Cm;have b1:=h.fA;have b2:=h.Mu;have HO:Hid (∀k,Rv.own (M.fenced k) k->M.own k):=Lib.hid fun _ h=>h
 subst htk;have n8:W.heap.size+1≠M.d:=fun e=>by have:=h.lt (k:=M.d) (Or.inl (by simp [Rv.blocks]));omega
 have HC:Hid (∀w,za w M->Calls Tryz.prog 70 #[.pointer (some ⟨M.d,0,none⟩), .int .i64 1, .int .i64 k, .int .i64 0] w (yn M (M.fenced k) (.int .i64 0) w)):=Lib.hid fun w h=>iA M k hk w h hw
 clear hk hw;clear h hp Db
 go_enter Tryz.func47,Tryz.ntmps47
 go_wp2_with fail
 with_reducible refine (HP.out _ (HM.out.below (((Below.refl _ _).alloc (Nat.le_refl _) _).alloc (by simp) _))).mono ?_
 rintro e w2 ⟨rfl,hb,hh⟩;obtain ⟨rz,ra⟩:=Kd hh;have HB:Hid (Below W.heap.size W w2):=Lib.hid ((((Below.refl _ _).alloc (Nat.le_refl _) _).alloc (by simp) _).trans (hb.mono (by simp;omega)));have HS:Hid (W.heap.size+1<w2.heap.size):=Lib.hid (by rw [hh];simp);have Kg:=Lib.hid (HM.out.below HB.out);obtain ⟨a0,a1,a2,a3,a4,a5,af⟩:=Td ra;obtain ⟨z0,z1,z2,z3,z4,z5,zf⟩:=Td rz;obtain ⟨m0,m1,m2,m3,m4,m5,m6,m7,m8,m9,mf⟩:=qd Kg.out.row;have HZ:=Lib.hid rz;have OF:=Lib.hid ra;clear hb hh ra rz m1
 go_wp2_with fail
 have hq:za (w2.setCell ⟨W.heap.size+1,2,none⟩ (.int .i64 0)) M:=Kg.out.keep fun k hk=>aa fun e=>HM.out.Ab (by omega) (e▸hk)
 with_reducible refine (HC.out _ hq).mono ?_
 rintro e w5 ⟨rfl,MG,OD⟩;have uU:Hid (za w5 (M.fenced k)):=Lib.hid MG;have qi:w5.heap[M.m]?=some (.cells #[.pointer (some ⟨M.d,0,none⟩), .slice (some ⟨M.pb,0,none⟩) M.np M.c4, .int .i64 M.ck, .int .i64 M.bd, .int .i64 M.la.ki, .int .i64 M.la.th, .int .i64 M.la.pl, .int .u64 M.la.ol, .int .u64 M.la.ne, .bool M.la.dn] 141 (0,0)):=uU.out.row
 have ra:=(OD.block (W.heap.size+1) (by have:=HS.out;simp [World.setCell];omega) (HM.out.Ab (by omega))).trans (heap_set (j:=2) (.int .i64 0) OF.out)
 have rz:=(OD.block W.heap.size (by have:=HS.out;simp [World.setCell];omega) (HM.out.Ab (by omega))).trans ((aa (j:=2) (v:= .int .i64 0) (show W.heap.size≠W.heap.size+1 by omega)).trans HZ.out)
 simp only [List.setIfInBounds_toArray,List.set_cons_succ,List.set_cons_zero]at ra;have HT5:Hid (Ja M.own W w5):=Lib.hid (((Ja.jc HB.out).set (fun e=>absurd e (by omega)) _ _).trans OD (fun _ _ h=>h));clear a0 a1 a2 a3 a4 a5 af z0 z1 z2 z3 z4 z5 zf m0 m2 m3 m4 m5 m6 m7 m8 m9 mf MG OD;obtain ⟨a0,a1,a2,a3,a4,a5,af⟩:=Td ra;obtain ⟨z0,z1,z2,z3,z4,z5,zf⟩:=Td rz;obtain ⟨m0,m1,m2,m3,m4,m5,m6,m7,m8,m9,mf⟩:=qd qi;have HZ5:=Lib.hid rz;clear ra rz qi m0 m1
 go_wp2_with fail
 have hA:∀k,Rv.own (M.fenced k) k->k≠W.heap.size+1:=fun k hk e=>HM.out.Ab (by omega) (e▸(HO.out k hk))
 have cp:za (w5.setCell ⟨W.heap.size+1,5,none⟩ (.bool true)) (M.fenced k):=uU.out.keep fun k hk=>by rw [aa (hA k hk)]
 have Xx:Ja M.own W (w5.setCell ⟨W.heap.size+1,5,none⟩ (.bool true)):=(HT5.out.set (fun e=>absurd e (by omega)) _ _);have Yx:=((aa (j:=5) (v:= .bool true) (show W.heap.size≠W.heap.size+1 by omega)).trans HZ5.out);obtain ⟨f1,f2⟩:=cd cp Xx rfl rfl (Nat.le_refl W.heap.size) HM.out ⟨5,(k:Int),0,0,0,true⟩ true;refine bodyPost_ret (v:= .agg (Acc.cells ⟨5,(k:Int),0,0,0,true⟩)) ?_ rfl ?_
 . exact Lb rfl rfl (Od n1 Yx M.ck M.bd ⟨5,(k:Int),0,0,0,true⟩ true)
 . exact ⟨rfl,f1,f2⟩
set_option maxRecDepth 100000 in
set_option maxHeartbeats 1000000 in
theorem PG(M:Rv)(t at_ old w:Int)(q0:-9223372036854775808<=at_)(q1:at_<=9223372036854775807)(W:World)(h:za W M)(hc:M.ck<=1000000)(o:Int)(b:Bool)(hp:M.Ua at_=(o,b))(hE:Hb M.nt t≠0):
  Calls Tryz.prog 47 #[.pointer (some ⟨M.m,0,none⟩), .int .i64 5, .int .i64 t, .int .i64 at_, .int .u64 old, .int .u64 w] W (Yi M (M.note ⟨5,t,0,0,0,false⟩ false) W):=by
 have HP:=Lib.hid (Ke M at_ q0 q1 o b hp);have HM:=Lib.hid h;have Db:=h.lt (k:=M.m) (Or.inl (by simp [Rv.blocks]));have n1:W.heap.size≠M.m:=by omega
 have n2:W.heap.size+1≠M.m:=by omega
 have n3:M.m≠W.heap.size:=by omega
 have n4:M.m≠W.heap.size+1:=by omega
 have b0:=h.Cm;have b1:=h.fA;have b2:=h.Mu;have HO:Hid (∀k,Rv.own M k->M.own k):=Lib.hid fun _ h=>h
 have n8:W.heap.size+1≠M.d:=fun e=>by have:=h.lt (k:=M.d) (Or.inl (by simp [Rv.blocks]));omega
 have HC:Hid (∀w,za w M->Calls Tryz.prog 70 #[.pointer (some ⟨M.d,0,none⟩), .int .i64 1, .int .i64 t, .int .i64 0] w (yn M M (.int .i64 1) w)):=Lib.hid fun w h=>Qs M t 0 w h hE
 clear hE;clear h hp Db
 go_enter Tryz.func47,Tryz.ntmps47
 go_wp2_with fail
 with_reducible refine (HP.out _ (HM.out.below (((Below.refl _ _).alloc (Nat.le_refl _) _).alloc (by simp) _))).mono ?_
 rintro e w2 ⟨rfl,hb,hh⟩;obtain ⟨rz,ra⟩:=Kd hh;have HB:Hid (Below W.heap.size W w2):=Lib.hid ((((Below.refl _ _).alloc (Nat.le_refl _) _).alloc (by simp) _).trans (hb.mono (by simp;omega)));have HS:Hid (W.heap.size+1<w2.heap.size):=Lib.hid (by rw [hh];simp);have Kg:=Lib.hid (HM.out.below HB.out);obtain ⟨a0,a1,a2,a3,a4,a5,af⟩:=Td ra;obtain ⟨z0,z1,z2,z3,z4,z5,zf⟩:=Td rz;obtain ⟨m0,m1,m2,m3,m4,m5,m6,m7,m8,m9,mf⟩:=qd Kg.out.row;have HZ:=Lib.hid rz;have OF:=Lib.hid ra;clear hb hh ra rz m1
 go_wp2_with fail
 have hq:za (w2.setCell ⟨W.heap.size+1,2,none⟩ (.int .i64 0)) M:=Kg.out.keep fun k hk=>aa fun e=>HM.out.Ab (by omega) (e▸hk)
 with_reducible refine (HC.out _ hq).mono ?_
 rintro e w5 ⟨rfl,MG,OD⟩;have uU:Hid (za w5 M):=Lib.hid MG;have qi:w5.heap[M.m]?=some (.cells #[.pointer (some ⟨M.d,0,none⟩), .slice (some ⟨M.pb,0,none⟩) M.np M.c4, .int .i64 M.ck, .int .i64 M.bd, .int .i64 M.la.ki, .int .i64 M.la.th, .int .i64 M.la.pl, .int .u64 M.la.ol, .int .u64 M.la.ne, .bool M.la.dn] 141 (0,0)):=uU.out.row
 have ra:=(OD.block (W.heap.size+1) (by have:=HS.out;simp [World.setCell];omega) (HM.out.Ab (by omega))).trans (heap_set (j:=2) (.int .i64 0) OF.out)
 have rz:=(OD.block W.heap.size (by have:=HS.out;simp [World.setCell];omega) (HM.out.Ab (by omega))).trans ((aa (j:=2) (v:= .int .i64 0) (show W.heap.size≠W.heap.size+1 by omega)).trans HZ.out)
 simp only [List.setIfInBounds_toArray,List.set_cons_succ,List.set_cons_zero]at ra;have HT5:Hid (Ja M.own W w5):=Lib.hid (((Ja.jc HB.out).set (fun e=>absurd e (by omega)) _ _).trans OD (fun _ _ h=>h));clear a0 a1 a2 a3 a4 a5 af z0 z1 z2 z3 z4 z5 zf m0 m2 m3 m4 m5 m6 m7 m8 m9 mf MG OD;obtain ⟨a0,a1,a2,a3,a4,a5,af⟩:=Td ra;obtain ⟨z0,z1,z2,z3,z4,z5,zf⟩:=Td rz;obtain ⟨m0,m1,m2,m3,m4,m5,m6,m7,m8,m9,mf⟩:=qd qi;have HZ5:=Lib.hid rz;clear ra rz qi m0 m1
 go_wp2_with fail
 have hA:∀k,Rv.own M k->k≠W.heap.size+1:=fun k hk e=>HM.out.Ab (by omega) (e▸(HO.out k hk))
 have cp:za (w5.setCell ⟨W.heap.size+1,5,none⟩ (.bool false)) M:=uU.out.keep fun k hk=>by rw [aa (hA k hk)]
 have Xx:Ja M.own W (w5.setCell ⟨W.heap.size+1,5,none⟩ (.bool false)):=(HT5.out.set (fun e=>absurd e (by omega)) _ _);have Yx:=((aa (j:=5) (v:= .bool false) (show W.heap.size≠W.heap.size+1 by omega)).trans HZ5.out);obtain ⟨f1,f2⟩:=cd cp Xx rfl rfl (Nat.le_refl W.heap.size) HM.out ⟨5,t,0,0,0,false⟩ false;refine bodyPost_ret (v:= .agg (Acc.cells ⟨5,t,0,0,0,false⟩)) ?_ rfl ?_
 . exact Lb rfl rfl (Od n1 Yx M.ck M.bd ⟨5,t,0,0,0,false⟩ false)
 . exact ⟨rfl,f1,f2⟩
theorem Cr{M:Rv}{at_:Int}(h:(M.Ua at_).2=false):(M.Ua at_).1=0:=by
 unfold Rv.Ua Je at*;by_cases h0:0<=at_<;>by_cases h1:at_/8<(M.n:Int)<;>by_cases h2:-1 -at_<(M.np:Int)<;>simp [h0,h1,h2]at h⊢
theorem Zx{M:Rv}{at_:Int}(h:(M.Ua at_).2=true):(0<=at_/\at_.toNat<8*M.n)\/(¬0<=at_/\(-1 -at_).toNat<M.np/\at_=-1 -((-1 -at_).toNat:Int)):=by
 unfold Rv.Ua Je at h;by_cases h0:0<=at_
 . rw [if_pos h0]at h;by_cases h1:at_/8<(M.n:Int)
   . exact Or.inl ⟨h0,by omega⟩
   . rw [if_neg h1]at h;cases h
 . rw [if_neg h0]at h;by_cases h1:-1 -at_<(M.np:Int)
   . exact Or.inr ⟨h0,by omega,by omega⟩
   . rw [if_neg h1]at h;cases h
theorem Dr(M:Rv)(t at_ old w:Int)(q0:-9223372036854775808<=at_)(q1:at_<=9223372036854775807)(W:World)(h:za W M)(hc:M.ck<=1000000):
  Calls Tryz.prog 47 #[.pointer (some ⟨M.m,0,none⟩), .int .i64 1, .int .i64 t, .int .i64 at_, .int .u64 old, .int .u64 w] W (Yi M (M.load t at_) W):=by
 unfold Rv.load Rv.Ye Rv.res;cases hp:(M.Ua at_).2 with
 |true=>
  have:=ID M t at_ old w q0 q1 W h hc (M.Ua at_).1 (Prod.ext rfl hp)
  simpa [hp]using this
 |false=>
  have e:=Cr hp;have:=pA M t at_ old w q0 q1 W h hc 0 (Prod.ext e hp)
  simpa [hp]using this
theorem Qj(M:Rv)(t at_ old w:Int)(q0:-9223372036854775808<=at_)(q1:at_<=9223372036854775807)(W:World)(h:za W M)(hc:M.ck<=1000000):
  Calls Tryz.prog 47 #[.pointer (some ⟨M.m,0,none⟩), .int .i64 2, .int .i64 t, .int .i64 at_, .int .u64 old, .int .u64 w] W (Yi M (M.store t at_ w) W):=by
 unfold Rv.store Rv.Ye Rv.res;cases hp:(M.Ua at_).2 with
 |true=>
  rcases Zx hp with⟨h0,h1⟩|⟨h0,h1,h2⟩
  . obtain ⟨k,rfl⟩:=Int.eq_ofNat_of_zero_le h0;have:=qA M t old w k W h hc (M.Ua (k:Int)).1 (Prod.ext rfl hp) h1
    simpa [hp,Rv.put]using this
  . obtain ⟨k,hk⟩:∃k,k=(-1 -at_).toNat:=⟨_,rfl⟩
    rw [<-hk]at h1 h2;subst h2;have:=rA M t old w k W h hc (M.Ua (-1 -(k:Int))).1 (Prod.ext rfl hp) h1
    have e:(-1 -(-1 -(k:Int))).toNat=k:=by omega
    have h9:¬((k:Int)<=-1):=by omega
    simpa [hp,Rv.put,h9,e]using this
 |false=>
  have e:=Cr hp;have:=JD M t at_ old w q0 q1 W h hc 0 (Prod.ext e hp)
  simpa [hp]using this
theorem rh(M:Rv)(t at_ old w:Int)(q0:-9223372036854775808<=at_)(q1:at_<=9223372036854775807)(W:World)(h:za W M)(hc:M.ck<=1000000):
  Calls Tryz.prog 47 #[.pointer (some ⟨M.m,0,none⟩), .int .i64 3, .int .i64 t, .int .i64 at_, .int .u64 old, .int .u64 w] W (Yi M (M.swap t at_ old w) W):=by
 unfold Rv.swap Rv.Ye Rv.res;cases hp:(M.Ua at_).2 with
 |true=>
  cases he:((M.Ua at_).1==old)with
  |true=>
   rcases Zx hp with⟨h0,h1⟩|⟨h0,h1,h2⟩
   . obtain ⟨k,rfl⟩:=Int.eq_ofNat_of_zero_le h0;have:=KD M t old w k W h hc (M.Ua (k:Int)).1 (Prod.ext rfl hp) h1 he
     simpa [hp,he,Rv.put]using this
   . obtain ⟨k,hk⟩:∃k,k=(-1 -at_).toNat:=⟨_,rfl⟩
     rw [<-hk]at h1 h2;subst h2;have:=LD M t old w k W h hc (M.Ua (-1 -(k:Int))).1 (Prod.ext rfl hp) h1 he
     have e:(-1 -(-1 -(k:Int))).toNat=k:=by omega
     have h9:¬((k:Int)<=-1):=by omega
     simpa [hp,he,Rv.put,h9,e]using this
  |false=>
   have:=QJ M t at_ old w q0 q1 W h hc (M.Ua at_).1 (Prod.ext rfl hp) he
   simpa [hp,he]using this
 |false=>
  have e:=Cr hp;have:=LG M t at_ old w q0 q1 W h hc 0 (Prod.ext e hp)
  simpa [hp]using this
theorem yp(M:Rv)(t at_ old w:Int)(q0:-9223372036854775808<=at_)(q1:at_<=9223372036854775807)(W:World)(h:za W M)(hc:M.ck<=1000000):
  Calls Tryz.prog 47 #[.pointer (some ⟨M.m,0,none⟩), .int .i64 4, .int .i64 t, .int .i64 at_, .int .u64 old, .int .u64 w] W (Yi M (M.Ka t at_) W):=by
 unfold Rv.Ka;by_cases h0:0<=at_
 . by_cases hE:M.Nb t (at_/8)=0
   . rw [if_pos ⟨h0,hE⟩];exact ND M t at_ old w q0 q1 W h hc _ _ rfl h0 hE
   . rw [if_neg (fun c=>hE c.2)];exact OG M t at_ old w q0 q1 W h hc _ _ rfl h0 hE
 . rw [if_neg (fun c=>h0 c.1)];exact MD M t at_ old w q0 q1 W h hc _ _ rfl (by omega)
theorem zp(M:Rv)(t at_ old w:Int)(q0:-9223372036854775808<=at_)(q1:at_<=9223372036854775807)(W:World)(h:za W M)(hc:M.ck<=1000000)(hw:M.wm<=999999):
  Calls Tryz.prog 47 #[.pointer (some ⟨M.m,0,none⟩), .int .i64 5, .int .i64 t, .int .i64 at_, .int .u64 old, .int .u64 w] W (Yi M (M.Ma t) W):=by
 unfold Rv.Ma;by_cases hE:Hb M.nt t=0
 . rw [if_pos hE];have ht:0<=t/\t<M.nt:=by unfold Hb at hE;split at hE;cases hE;omega
   obtain ⟨k,rfl⟩:=Int.eq_ofNat_of_zero_le ht.1
   exact PD M _ at_ old w q0 q1 W h hc _ _ rfl k (by omega) hw rfl
 . rw [if_neg hE];exact PG M t at_ old w q0 q1 W h hc _ _ rfl hE
theorem VP(M:Rv)(a:Acc):(M.YF a).own=M.own/\(M.YF a).m=M.m/\(M.YF a).wm<=M.wm+1/\(M.YF a).ck<=M.ck+1:=by
 unfold Rv.YF;have hp:∀x v,(M.put x v).own=M.own/\(M.put x v).m=M.m/\(M.put x v).wm=M.wm/\(M.put x v).ck=M.ck:=fun x v=>by unfold Rv.put;split<;>exact ⟨rfl,rfl,rfl,rfl⟩
 have hd:∀x nw pu,(M.Ye x nw pu).own=M.own/\(M.Ye x nw pu).m=M.m/\(M.Ye x nw pu).wm<=M.wm+1/\(M.Ye x nw pu).ck<=M.ck+1:=fun x nw pu=>by
  unfold Rv.Ye
  split
  . obtain ⟨a,b,c,d⟩:=hp x.pl nw;exact ⟨a,b,by show(M.put x.pl nw).wm<=_;omega,by show(M.put x.pl nw).ck+1<=_;omega⟩
  . exact ⟨rfl,rfl,by show M.wm<=M.wm+1;omega,by show M.ck+1<=M.ck+1;omega⟩
 split
 . exact hd _ _ _
 split
 . exact hd _ _ _
 split
 . exact hd _ _ _
 split
 . unfold Rv.Ka;split
   . exact ⟨rfl,rfl,by show M.wm<=M.wm+1;omega,by show M.ck+1<=M.ck+1;omega⟩
   . exact ⟨rfl,rfl,by show M.wm<=M.wm+1;omega,by show M.ck+1<=M.ck+1;omega⟩
 split
 . unfold Rv.Ma;split
   . exact ⟨rfl,rfl,by show M.wm+1<=M.wm+1;omega,by show M.ck+1<=M.ck+1;omega⟩
   . exact ⟨rfl,rfl,by show M.wm<=M.wm+1;omega,by show M.ck+1<=M.ck+1;omega⟩
 . exact ⟨rfl,rfl,by omega,by omega⟩
end Go.Proofs.YtfnkmolffhfpoaaGreat
namespace Go.Proofs.YtfnkmolffhfpoaaGreat
namespace Sk
open Go.RowKit
theorem Ve(M:Rv)(x:Acc)(nw:Int)(pu:Bool):(M.Ye x nw pu).own=M.own/\(M.Ye x nw pu).m=M.m:=by
 unfold Rv.Ye Rv.note
 split
 . unfold Rv.put;split<;>exact ⟨rfl,rfl⟩
 . exact ⟨rfl,rfl⟩
theorem Zp(M:Rv)(t a:Int):(M.Ka t a).own=M.own/\(M.Ka t a).m=M.m:=by unfold Rv.Ka;split<;>exact ⟨rfl,rfl⟩
theorem aq(M:Rv)(t:Int):(M.Ma t).own=M.own/\(M.Ma t).m=M.m:=by unfold Rv.Ma;split<;>exact ⟨rfl,rfl⟩
section
variable{ρ:Nat->Int}{γ:Nat->Gh}
theorem cM{σ:AH}{p e m:Value}(h:sE 10 σ p=some e)(hm:VC e=some m){B:Nat->Prop}{w0:World}{R:Mp}{w:World}{p':Value}(hS: @Qc (Th.at ρ γ) B w0 R σ w)(hp: @VR (Th.at ρ γ) R p p'):
  ∃b r s A M,jn p=b/\p'= .pointer (some ⟨r,0,none⟩)/\R b=some (r,s)/\σ.get b=some (.gh e)/\ @den (Th.at ρ γ) m= .g (Gh.mem A)/\za w M/\M.m=r/\Rb M A/\Wd A/\(∀b2 r2 s2 o2,b2≠b->R b2=some (r2,s2)->σ.get b2=some o2->¬M.own r2)/\
   ∀w' e' M' A', @den (Th.at ρ γ) e'= .g (Gh.ref A')->za w' M'->M'.m=r->Rb M' A'->Wd A'->(∀k,M'.own k->M.own k\/w.heap.size<=k)->Ja M.own w w'-> @Qc (Th.at ρ γ) B w0 R (σ.put b (some (.gh e'))) w':=by
 letI:Interp:=Th.at ρ γ
 obtain ⟨b,r,s,_,_,rfl,rfl,h1,h2,h3,_,_⟩:=zD h hS hp;obtain ⟨_,A,hA,hE⟩:=Gx (ρ:=ρ) (γ:=γ) hm;obtain ⟨g0,O0,k1,k2,k3,k5,k4⟩:=hS.gat h1 h2;rw [hE]at k1;injection k1 with k1
 subst k1;obtain ⟨M,m1,m2,rfl,m4,m5⟩:=k2;refine ⟨b,r,s,A,M,rfl,rfl,h1,h2,hA,m1,m2,m4,m5,k5,fun w' e' M' A' q1 q2 q3 q4 q5 q6 q7=> ?_⟩;exact k4 w' e' (Gh.ref A') M'.own q1 ⟨M',q2,q3,rfl,q4,q5⟩ q6 (FG q7)
theorem gRf{m:Value}{A:Rv}(h: @den (Th.at ρ γ) m= .g (Gh.mem A)): @den (Th.at ρ γ) (sy Uq [m])= .g (Gh.ref A):=by
 have e1: @den (Th.at ρ γ) (sy Uq [m])=(Tc.g (Ru 10 (Dm 20 [@den (Th.at ρ γ) m])):Tc Gh):=rfl;rw [h]at e1;exact e1
theorem ay[Interp]{R:Mp}{v1 v2 v3 v4 v5 v6:Value}{a1 a2 a3 a4 a5:Int}{a6:Bool}(h1:VR R v1 (.int .i64 a1))(h2:VR R v2 (.int .i64 a2))(h3:VR R v3 (.int .i64 a3))(h4:VR R v4 (.int .u64 a4))(h5:VR R v5 (.int .u64 a5))(h6:VR R v6 (.bool a6)){x:Acc}(hx:x=⟨a1,a2,a3,a4,a5,a6⟩):VR R (.agg ⟨[v1,v2,v3,v4,v5,v6]⟩) (.agg x.cells):=by
 subst hx;exact (LR.cons h1 (.cons h2 (.cons h3 (.cons h4 (.cons h5 (.cons h6 (.nil R))))))).agg
variable{F:List (Value×Value)}(hF:∀p,p∈F-> @den (Th.at ρ γ) p.1= @den (Th.at ρ γ) p.2)
include hF
theorem pah: @yG (Th.at ρ γ) Tryz.prog F oDo 47:=by
 letI:Interp:=Th.at ρ γ
 haveI:Wc:=Ia ρ γ
 intro args σ v σ' hg B w0 R w args' hS hl;unfold oDo at hg
 split at hg
 . rename_i p k t a o x
   split at hg
   . rename_i e he
     split at hg
     . rename_i m n hm hn
       split at hg
       . rename_i hc hf;simp only [Da,Bool.and_eq_true]at hc;obtain ⟨hk,ht,ha,ho,hx⟩:=hc;obtain ⟨p',l',rfl,hp,hl⟩:=hl.ya;obtain ⟨k',l',rfl,yI,hl⟩:=hl.ya;obtain ⟨t',l',rfl,um,hl⟩:=hl.ya;obtain ⟨a',l',rfl,Rx,hl⟩:=hl.ya;obtain ⟨o',l',rfl,wO,hl⟩:=hl.ya;obtain ⟨x',l',rfl,RO,hl⟩:=hl.ya;cases hl.ic;obtain ⟨b,r,s,A,M,rfl,rfl,k1,k2,k3,k4,rfl,k5,k6,_,k7⟩:=cM he hm hS hp;obtain ⟨kn,rfl,dk,_,_⟩:=Te yI hk;obtain ⟨tn,rfl,dt,t0,t1⟩:=Te um ht;obtain ⟨an,rfl,da,a0,a1⟩:=Te Rx ha;obtain ⟨on,rfl,dO,ou⟩:=mu wO ho;obtain ⟨xn,rfl,dx,xu⟩:=mu RO hx;obtain ⟨c1,c2⟩:=ij hF hf k3 k6;have jg:M.ck<=1000000:=by rw [k5.ck];omega
         have ct:M.wm<=999999:=by rw [k5.wm];omega
         have mq:kn=n:=by
          obtain ⟨q,rfl⟩:=UL hn;exact cm dk
         subst mq;obtain ⟨⟨q,q1⟩,q2⟩:=Ue hF [m,a] (t:=Zt) (by decide);obtain ⟨⟨z,z1⟩,z2⟩:=Ue hF [m,a] (t:=tIs) (by decide);have hp:=k5.Ua an;have vpk:VR R (mk F Zt [m,a]) (.int .u64 (A.Ua an).1):=Yc R q1 (q2.trans (K5 k6 k3 da));have vis:VR R (mk F tIs [m,a]) (.bool (A.Ua an).2):=Yc R z1 (z2.trans (dIs k3 da));have v0:VR R (zj 0) (.int .u64 0):=Yc R (c:=7) rfl rfl;have vz:VR R (Cb 0) (.int .i64 0):=Yc R (c:=3) rfl rfl;have tg:(A.Ua an).2=false->(A.Ua an).1=0:=fun h=>Cr h
         split at hg
         . rw [Ec]at hg;cases hg;refine (Dr M tn an on xn a0 a1 w k4 jg).mono ?_
           rintro y w' ⟨rfl,m1,m2⟩;refine ⟨R,_,rfl,Of k1 _,ay yI um Rx vpk v0 vis ?_,k7 w' _ (M.load tn an) (A.load tn an) (gRf (gLd k3 dt da)) m1 (Ve M ⟨1,tn,an,0,0,false⟩ 0 false).2 (k5.Ye _ _ _) (k6.Ye _ _ (by omega) u0) (fun k hk=> .inl (by have:=(Ve M ⟨1,tn,an,0,0,false⟩ 0 false).1;exact this▸hk)) m2⟩
           show M.res ⟨1,tn,an,0,0,false⟩ _=_
           unfold Rv.res;rw [hp];cases hb:(A.Ua an).2 with
           |true=>simp
           |false=>simp [tg hb]
         . rw [Ec]at hg;cases hg;refine (Qj M tn an on xn a0 a1 w k4 jg).mono ?_
           rintro y w' ⟨rfl,m1,m2⟩;refine ⟨R,_,rfl,Of k1 _,ay yI um Rx vpk RO vis ?_,k7 w' _ (M.store tn an xn) (A.store tn an xn) (gRf (gSt k3 dt da dx)) m1 (Ve M ⟨2,tn,an,0,xn,false⟩ xn true).2 (k5.Ye _ _ _) (k6.Ye _ _ (by omega) xu) (fun k hk=> .inl (by have:=(Ve M ⟨2,tn,an,0,xn,false⟩ xn true).1;exact this▸hk)) m2⟩
           show M.res ⟨2,tn,an,0,xn,false⟩ _=_
           unfold Rv.res;rw [hp];cases hb:(A.Ua an).2 with
           |true=>simp
           |false=>simp [tg hb]
         . rw [Ec]at hg;cases hg;obtain ⟨⟨y,y1⟩,y2⟩:=Ue hF [m,a,o] (t:=au) (by decide);have vsw:VR R (mk F au [m,a,o]) (.bool ((A.Ua an).2&&(A.Ua an).1==on)):=Yc R y1 (y2.trans (Zag k3 da dO));refine (rh M tn an on xn a0 a1 w k4 jg).mono ?_
           rintro y w' ⟨rfl,m1,m2⟩;refine ⟨R,_,rfl,Of k1 _,ay yI um Rx vpk RO vsw ?_,k7 w' _ (M.swap tn an on xn) (A.swap tn an on xn) (gRf (gSw k3 dt da dO dx)) m1 (Ve M ⟨3,tn,an,0,xn,false⟩ xn ((M.Ua an).1==on)).2 (k5.swap _ _ _ _) (k6.Ye _ _ (by omega) xu) (fun k hk=> .inl (by have:=(Ve M ⟨3,tn,an,0,xn,false⟩ xn ((M.Ua an).1==on)).1;exact this▸hk)) m2⟩
           show M.res ⟨3,tn,an,0,xn,false⟩ _=_
           unfold Rv.res;rw [hp];cases hb:(A.Ua an).2 with
           |true=>simp
           |false=>simp [tg hb]
         . rw [Ec]at hg;cases hg;obtain ⟨⟨y,y1⟩,y2⟩:=Ue hF [m,t,a] (t:=bZ) (by decide);have vfl:VR R (mk F bZ [m,t,a]) (.bool (A.Ka tn an).la.dn):=Yc R y1 (y2.trans (taJ k3 dt da));refine (yp M tn an on xn a0 a1 w k4 jg).mono ?_
           rintro y w' ⟨rfl,m1,m2⟩;refine ⟨R,_,rfl,Of k1 _,ay yI um Rx v0 v0 vfl ?_,k7 w' _ (M.Ka tn an) (A.Ka tn an) (gRf (gFl k3 dt da)) m1 (Zp M tn an).2 (k5.Ka _ _) (k6.Ka _ _ (by omega)) (fun k hk=> .inl (by have:=(Zp M tn an).1;exact this▸hk)) m2⟩
           show(M.Ka tn an).la=_
           rw [<-(k5.Ka tn an).la];unfold Rv.Ka
           split<;>rfl
         . rw [Ec]at hg;cases hg;obtain ⟨⟨y,y1⟩,y2⟩:=Ue hF [m,t] (t:=cZ) (by decide);have vfe:VR R (mk F cZ [m,t]) (.bool (A.Ma tn).la.dn):=Yc R y1 (y2.trans (uaJ k3 dt));refine (zp M tn an on xn a0 a1 w k4 jg ct).mono ?_
           rintro y w' ⟨rfl,m1,m2⟩;refine ⟨R,_,rfl,Of k1 _,ay yI um vz v0 v0 vfe ?_,k7 w' _ (M.Ma tn) (A.Ma tn) (gRf (gFe k3 dt)) m1 (aq M tn).2 (k5.Ma _) (k6.Ma _ (by omega) (by omega)) (fun k hk=> .inl (by have:=(aq M tn).1;exact this▸hk)) m2⟩
           show(M.Ma tn).la=_
           rw [<-(k5.Ma tn).la];unfold Rv.Ma
           split<;>rfl
         . cases hg
       . cases hg
     . cases hg
   . cases hg
 . cases hg
end
end Sk
end Go.Proofs.YtfnkmolffhfpoaaGreat
