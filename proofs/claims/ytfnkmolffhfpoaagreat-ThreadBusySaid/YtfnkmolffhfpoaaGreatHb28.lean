/- -/
import Derived.Test.YtfnkmolffhfpoaaGreatHb27
import Derived.Test.YtfnkmolffhfpoaaGreatHb1
import Derived.Test.YtfnkmolffhfpoaaGreatHb25
set_option linter.unusedVariables false
set_option linter.unusedSimpArgs false
set_option linter.unusedSectionVars false
namespace Go.Proofs.YtfnkmolffhfpoaaGreat
namespace Sk
open Go.RowKit
section
variable[Interp][Bc]
theorem Co(q:IntKind)(n:Int):den (Value.int q n)= .v (.int q n):=rfl
theorem Dac{q:IntKind}{x y:Value}{a b:Int}(hx:den x= .v (.int q a))(hy:den y= .v (.int q b)):den (sy (16+Xb q) [x,y])= .v (.int q (q.wrap (a+b))):=by
 have:=xg (n:=1) (k:=Xb q) (by have:=Ef q;omega) (by decide) [x,y];simp only [jc,hx,hy,List.map,Ha,vk,Pn,Hc]at this;exact this
theorem Eac(n m:Nat):Int.sub (Int.ofNat (Nat.mod n m)) (Int.ofNat 1)=((n %m:Nat):Int) -1:=rfl
theorem EM(n d m:Nat):Int.sub (Int.ofNat (Nat.mod (Nat.div n d) m)) (Int.ofNat 1)=((n/d %m:Nat):Int) -1:=rfl
theorem Fac(n d:Nat):Nat.beq (Nat.div n d) 1=decide (n/d=1):=Ja _ _
theorem xY(n m:Nat):Int.ofNat (Nat.mod n m)=(n:Int) %m:=rfl
theorem FM{t:Nat}{l:List Value}{u:Value}(h:PL t l=some u):IA u (sy t l):=by
 unfold PL at h
 split at h
 . rename_i k a
   split at h
   . rename_i n;have hx:den (Value.int .u64 (Int.ofNat n))= .v (.int .u64 (n:Int)):=rfl
     split at h
     . rename_i ht;rw [Ja]at ht;have ht:=of_decide_eq_true ht;cases h;refine ⟨⟨3,rfl⟩, ?_⟩;subst ht;have:=mg (n:=64) (k:=3) (by decide) (by decide) [Value.int .u64 (Int.ofNat n)];simp only [jc,hx,Bc.wTo,Ha,ME]at this;refine Eq.trans ?_ this.symm
       rw [Eac,Co,IntKind.wrap_i64];have e:KA (n:Int)=(n:Int) %4294967296 -1:=by
        unfold KA Nc;rw [show((2:Int)^0)=1 by decide,show((2:Int)^32)=4294967296 by decide,Int.ediv_one]
       rw [e]
       congr 2
       omega
     . split at h
       . rename_i ht;rw [Ja]at ht;have ht:=of_decide_eq_true ht;cases h;refine ⟨⟨3,rfl⟩, ?_⟩;subst ht;have:=mg (n:=65) (k:=3) (by decide) (by decide) [Value.int .u64 (Int.ofNat n)];simp only [jc,hx,Bc.wBy,Ha,ME]at this;refine Eq.trans ?_ this.symm
         rw [EM,Co,IntKind.wrap_i64];have e:QH (n:Int)=(n:Int)/4294967296 %128 -1:=by
          unfold QH Nc;rw [show((2:Int)^32)=4294967296 by decide,show((2:Int)^7)=128 by decide]
         rw [e];exact congrArg (fun z=>(tc.v (Value.int .i64 z):tc Interp.G)) (by omega)
       . split at h
         . rename_i ht;rw [Ja]at ht;have ht:=of_decide_eq_true ht;cases h;refine ⟨⟨8,rfl⟩, ?_⟩;subst ht;refine Eq.trans ?_ (Dp hx).symm
           rw [Fac];refine congrArg (fun z=>(tc.v (Value.bool z):tc Interp.G)) ?_
           unfold vf;by_cases h2:n/9223372036854775808=1
           . rw [decide_eq_true h2];have:((n:Int)/9223372036854775808)=1:=by omega
             rw [this];rfl
           . rw [decide_eq_false h2];have:¬((n:Int)/9223372036854775808)=1:=by omega
             simpa using this
         . split at h
           . rename_i ht;rw [Ja]at ht;have ht:=of_decide_eq_true ht;cases h;refine ⟨⟨7,rfl⟩, ?_⟩;subst ht;refine Eq.trans ?_ (Lk hx).symm
             rw [xY,Co];rfl
           . cases h
   . cases h
 . rename_i k a k' b
   split at h
   . rename_i hk;rw [Ja]at hk;have hk:=of_decide_eq_true hk;have:k'=k:=Nb (by rw [Ja];exact decide_eq_true hk.symm);subst this
     split at h
     . rename_i ht;rw [Ja]at ht;have ht:=of_decide_eq_true ht;subst ht;cases h;refine ⟨⟨8,rfl⟩, ?_⟩;refine Eq.trans ?_ (IG (Co _ _) (Co _ _)).symm
       show tc.v (Value.bool _)=_
       congr 2
       rw [ke,zy,<-decide_not];rw [decide_eq_decide];omega
     . split at h
       . rename_i ht;rw [Ja]at ht;have ht:=of_decide_eq_true ht;subst ht;cases h;refine ⟨⟨8,rfl⟩, ?_⟩;refine Eq.trans ?_ (UT (Co _ _) (Co _ _)).symm
         rw [oe];rfl
       . split at h
         . rename_i ht;rw [Ja]at ht;have ht:=of_decide_eq_true ht;cases h;refine ⟨⟨Xb k',rfl⟩, ?_⟩;subst ht;refine Eq.trans ?_ (Dac (Co _ _) (Co _ _)).symm
           rw [tk];rfl
         . cases h
   . cases h
 . cases h
theorem GM{F:List (Value×Value)}(hF:∀p,p∈F->den p.1=den p.2){t:Nat}{l:List Value}{u:Value}(h:QL F t l=some u):IA u (sy t l):=by
 have tK:∀{a:Nat},Nat.beq t a=true->t=a:=fun h=>by rw [Ja]at h;exact of_decide_eq_true h
 unfold QL at h
 split at h
 . split at h
   . rename_i ht;rw [tK ht];exact sR h
   . split at h
     . rename_i ht;rw [tK ht];exact tR h
     . split at h
       . rename_i ht;rw [tK ht];exact jJ hF h
       . split at h
         . rename_i ht;rw [tK ht];exact kJ h
         . split at h
           . rename_i ht;rw [tK ht];exact yM hF h
           . cases h
 . split at h
   . rename_i ht;rw [tK ht];exact vY hF h
   . split at h
     . rename_i ht;rw [tK ht];exact wY hF h
     . split at h
       . rename_i ht;rw [tK ht]
         split at h
         . exact JG h
         . cases h
       . split at h
         . rename_i ht;rw [tK ht];exact vR h
         . split at h
           . rename_i ht;rw [tK ht];exact BM h
           . split at h
             . rename_i ht;rw [tK ht];exact xR h
             . cases h
 . split at h
   . rename_i ht;rw [tK ht];exact DM h
   . cases h
 . cases h
theorem FC(F:List (Value×Value))(hF:∀p,p∈F->den p.1=den p.2)(v:Value)(c:Nat)(hv:Ue v=some c):(∃c',Ue (WB F v)=some c')/\den (WB F v)=den v:=by
 unfold WB
 split
 . rename_i t s l c'
   split
   . rename_i u hu;exact FM hu
   . split
     . rename_i u hu
       split
       . exact GM hF hu
       . exact ⟨⟨_,hv⟩,rfl⟩
     . exact ⟨⟨_,hv⟩,rfl⟩
 . exact ⟨⟨_,hv⟩,rfl⟩
end
theorem ua(ρ:Nat->Int)(γ:Nat->Gh): @Bc (Th.at ρ γ):=by
 letI:Interp:=Th.at ρ γ
 exact ⟨fun x=>rfl,fun x=>rfl,fun x=>rfl,fun x=>rfl,fun x=>rfl,fun x=>rfl,fun x=>rfl,fun x=>rfl,fun x=>rfl,fun x=>rfl,fun x y=>rfl,fun x y=>rfl,fun x y=>rfl,fun x y z=>rfl,fun g k a b h1 h0=>by
  have:=mM (Mj g).C (k:=Ha (.v k:tc Gh)) (a:=Ha (.v a:tc Gh)) (b:=Ha (.v b:tc Gh)) h1
  exact ⟨this.1,Int.le_trans this.2 (by decide)⟩⟩
theorem yR{k:Nat}{e:Value}(h:Ml k e=true):∃t s a c,e= .func (.methodOf t s) a c/\t %16=k/\9<=k:=by
 unfold Ml at h
 split at h
 . rename_i t s a c;simp only [za,Bool.and_eq_true,Ja,jd,ke,decide_eq_true_eq,Bool.not_eq_true',decide_eq_false_iff_not]at h;have h1:¬t %16<=8:=h.1
   have h2:t %16=k:=h.2
   exact ⟨t,s,a,c,rfl,h2,by omega⟩
 . cases h
theorem yY[Interp]{t:Nat}(l:List (tc Interp.G))(h:¬t %16<=8):∃g,rh t l= .g (Interp.W (t %16) g):=by
 have:Nat.ble (Nat.mod t 16) 8=false:=by rw [jd];exact decide_eq_false h
 unfold rh;rw [this];exact ⟨_,rfl⟩
section
variable{ρ:Nat->Int}{γ:Nat->Gh}
theorem GC{k:Nat}{e:Value}(h:Ml k e=true):∃g, @den (Th.at ρ γ) e= .g g/\Wv k g=g:=by
 letI:Interp:=Th.at ρ γ
 obtain ⟨t,s,a,c,rfl,h1,h2⟩:=yR h;obtain ⟨g,hg⟩:= @yY (Th.at ρ γ) t (LD a) (fun h=>by rw [h1]at h;exact absurd h (by omega));refine ⟨_,hg, ?_⟩;rw [h1];exact Th.W_W k g
theorem Wq{e:Value}(h:Ml 9 e=true):∃A, @den (Th.at ρ γ) e= .g (Gh.mem A):=by
 obtain ⟨g,h1,h2⟩:=GC (ρ:=ρ) (γ:=γ) h;have h2:Gh.mem g.A=g:=h2;exact ⟨g.A,by rw [h1,h2]⟩
theorem KG{e:Value}(h:Ml 11 e=true):∃c, @den (Th.at ρ γ) e= .g (Gh.lay c)/\Bg c:=by
 obtain ⟨g,h1,h2⟩:=GC (ρ:=ρ) (γ:=γ) h;have h2:Gh.lay (qm g.C)=g:=h2;exact ⟨qm g.C,by rw [h1,h2],GG _⟩
theorem IC{e m:Value}(h:lE e=some m):Ml 9 m=true/\∃A, @den (Th.at ρ γ) m= .g (Gh.mem A)/\ @den (Th.at ρ γ) e= .g (Gh.ref A):=by
 letI:Interp:=Th.at ρ γ
 unfold lE at h
 split at h
 . rename_i m' hm
   split at h
   . rename_i hg;cases h;obtain ⟨A,hA⟩:=Wq (ρ:=ρ) (γ:=γ) hg;refine ⟨hg,A,hA, ?_⟩;rw [(qc hm).1]
     show rh xp [den m]=_
     rw [hA];rfl
   . cases h
 . cases h
theorem dCk{m:Value}{A:Rv}(h: @den (Th.at ρ γ) m= .g (Gh.mem A)): @den (Th.at ρ γ) (sy EI [m])= .v (.int .i64 (IntKind.i64.wrap A.ck)):=by
 letI:Interp:=Th.at ρ γ
 have:= @mg (Th.at ρ γ) 92 3 (by decide) (by decide) [m];rw [ME]at this;have e: @jc (Th.at ρ γ) [m]=[.g (Gh.mem A)]:=by
  show[@den (Th.at ρ γ) m]=_
  rw [h]
 rw [e]at this;exact this
theorem dWm{m:Value}{A:Rv}(h: @den (Th.at ρ γ) m= .g (Gh.mem A)): @den (Th.at ρ γ) (sy V1 [m])= .v (.int .i64 (IntKind.i64.wrap A.wm)):=by
 letI:Interp:=Th.at ρ γ
 have:= @mg (Th.at ρ γ) 96 3 (by decide) (by decide) [m];rw [ME]at this;have e: @jc (Th.at ρ γ) [m]=[.g (Gh.mem A)]:=by
  show[@den (Th.at ρ γ) m]=_
  rw [h]
 rw [e]at this;exact this
theorem IM(r o:Nat)(n:Int)(w:World)(h:w.cell? ⟨r,o,none⟩=some (.int .i64 n)):(loadVar 3 ⟨r,o,none⟩).run Tryz.prog w= .ok (.int .i64 n) w:=by
 have XW:(isAgg 3).run Tryz.prog w= .ok false w:=by go_simp
 simp [loadVar,XW,Result.andThen,h]
theorem zR(e:Value)(o:Nat)(ty:TypeId)(v:Value)(h:AX e o ty=some v)(g:Gh)(r:Nat)(O:Nat->Prop)(w:World)(hd: @den (Th.at ρ γ) e= .g g)(hg:pM g r O w):
  ∃v',(∃c,Ue v=some c)/\ @den (Th.at ρ γ) v= .v v'/\(loadVar ty ⟨r,o,none⟩).run Tryz.prog w= .ok v' w:=by
 unfold AX at h
 split at h
 . rename_i m hm
   split at h
   . rename_i hc;simp only [za,Bool.and_eq_true,Ja,decide_eq_true_eq]at hc;cases h;obtain ⟨_,A,h1,h2⟩:=IC (ρ:=ρ) (γ:=γ) hm;rw [h2]at hd;injection hd with hd
     subst hd;obtain ⟨R,k1,k2,k3,k4,k5⟩:=hg;obtain ⟨q1,q2,q3⟩:=hc;refine ⟨_,⟨3,rfl⟩,dCk h1, ?_⟩;have c0:=k5.ak;have c1:=k5.ck;have:IntKind.i64.wrap A.ck=R.ck:=by rw [k4.ck,IntKind.wrap_i64];omega
     rw [this,show o=2 from q1,show ty=3 from q3];refine IM r 2 R.ck w ?_
     rw [<-k2,Ma k1.row];rfl
   . cases h
 . cases h
end
end Sk
end Go.Proofs.YtfnkmolffhfpoaaGreat
namespace Go.Proofs.YtfnkmolffhfpoaaGreat
open Go.RowKit Go.BigFrame
theorem Oj(x d:Int)(h:0<=x):Int.tdiv x d=x/d:=Int.tdiv_eq_ediv_of_nonneg h
theorem Te(x d:Int)(h:0<=x):Int.tmod x d=x %d:=Int.tmod_eq_emod_of_nonneg h
theorem zt(n d:Int):(0<=n/\n.tmod d=n %d)\/(n<0/\n.tmod d=-((-n) %d)):=by
 by_cases h:0<=n
 . exact .inl ⟨h,Int.tmod_eq_emod_of_nonneg h⟩
 . refine .inr ⟨by omega, ?_⟩
   rw [<-Int.tmod_eq_emod_of_nonneg (show 0<=-n by omega),Int.neg_tmod];omega
theorem p2:((2:Int)^0=1/\(2:Int)^1=2/\(2:Int)^7=128/\(2:Int)^31=2147483648)/\(2:Int)^32=4294967296/\(2:Int)^33=8589934592:=by decide
theorem zY(x:Int)(h:cd x)(w:World):Calls Tryz.prog 243 #[.int .u64 x] w (Rb (.int .i64 (KA x)) w):=by
 have HC:Hid (wrap64 (wrap64 (x.tmod 4294967296)+-1)=KA x):=Lib.hid (by
  have h0:=h.1
  have h1:=h.2
  obtain ⟨⟨p0,p1,p7,LG⟩,Iz,MG⟩:=p2;simp only [Te x _ h0,Oj x _ h0,IntKind.wrap_u64];unfold KA Nc wrap64;rw [p0,Iz];omega)
 clear h
 go_enter Tryz.func243,Tryz.ntmps243
 go_wp2_with fail
 go_ret
 exact ⟨Fa HC.out,rfl⟩
theorem AY(x:Int)(h:cd x)(w:World):Calls Tryz.prog 150 #[.int .u64 x] w (Rb (.int .i64 (QH x)) w):=by
 have HC:Hid (wrap64 (wrap64 ((IntKind.u64.wrap (x.tdiv 4294967296)).tmod 128)+-1)=QH x):=Lib.hid (by
  have h0:=h.1
  have h1:=h.2
  obtain ⟨⟨p0,p1,p7,LG⟩,Iz,MG⟩:=p2;simp only [Te x _ h0,Oj x _ h0,IntKind.wrap_u64];rw [Te _ _ (by omega)];unfold QH Nc wrap64;rw [p7,Iz];omega)
 clear h
 go_enter Tryz.func150,Tryz.ntmps150
 go_wp2_with fail
 go_ret
 exact ⟨Fa HC.out,rfl⟩
theorem lJ(x:Int)(h:cd x)(w:World):Calls Tryz.prog 252 #[.int .u64 x] w (Rb (.bool (vf x)) w):=by
 have HC:Hid ((IntKind.u64.wrap (x.tdiv 9223372036854775808)==1)=vf x):=Lib.hid (by
  have h0:=h.1
  have h1:=h.2
  obtain ⟨⟨p0,p1,p7,LG⟩,Iz,MG⟩:=p2;simp only [Te x _ h0,Oj x _ h0,IntKind.wrap_u64];have e:x/9223372036854775808 %18446744073709551616=x/9223372036854775808:=by omega
  rw [e];rfl)
 clear h
 go_enter Tryz.func252,Tryz.ntmps252
 go_wp2_with fail
 go_ret
 exact ⟨br HC.out,rfl⟩
theorem mJ(x:Int)(h:cd x)(w:World):Calls Tryz.prog 251 #[.int .u64 x] w (Rb (.int .u64 (Od x)) w):=by
 have HC:Hid (x.tmod 9223372036854775808=Od x):=Lib.hid (by
  have h0:=h.1
  have h1:=h.2
  obtain ⟨⟨p0,p1,p7,LG⟩,Iz,MG⟩:=p2;simp only [Te x _ h0,Oj x _ h0,IntKind.wrap_u64];rfl)
 clear h
 go_enter Tryz.func251,Tryz.ntmps251
 go_wp2_with fail
 go_ret
 exact ⟨Fa HC.out,rfl⟩
theorem Eo(x:Int)(h:cd x)(w:World):Calls Tryz.prog 292 #[.int .u64 x] w (Rb (.int .u64 (Xa x)) w):=by
 have HC:Hid (IntKind.u64.wrap (x.tmod 9223372036854775808+9223372036854775808)=Xa x):=Lib.hid (by
  have h0:=h.1
  have h1:=h.2
  obtain ⟨⟨p0,p1,p7,LG⟩,Iz,MG⟩:=p2;simp only [Te x _ h0,Oj x _ h0,IntKind.wrap_u64];unfold Xa Od;omega)
 clear h
 go_enter Tryz.func292,Tryz.ntmps292
 go_wp2_with fail
 go_ret
 exact ⟨Fa HC.out,rfl⟩
theorem nJ(x:Int)(h:cd x)(w:World):Calls Tryz.prog 293 #[.int .u64 x] w (Rb (.int .i64 (mh x)) w):=by
 have HC:Hid (wrap64 (wrap64 (IntKind.u64.wrap (x.tdiv 4294967296))+-1)=mh x):=Lib.hid (by
  have h0:=h.1
  have h1:=h.2
  obtain ⟨⟨p0,p1,p7,LG⟩,Iz,MG⟩:=p2;simp only [Te x _ h0,Oj x _ h0,IntKind.wrap_u64];unfold mh Nc wrap64;rw [Iz];omega)
 clear h
 go_enter Tryz.func293,Tryz.ntmps293
 go_wp2_with fail
 go_ret
 exact ⟨Fa HC.out,rfl⟩
theorem AR(x:Int)(h:cd x)(w:World):Calls Tryz.prog 156 #[.int .u64 x] w (Rb (.int .i64 (Nc 33 31 x)) w):=by
 have HC:Hid (wrap64 (IntKind.u64.wrap (x.tdiv 8589934592))=Nc 33 31 x):=Lib.hid (by
  have h0:=h.1
  have h1:=h.2
  obtain ⟨⟨p0,p1,p7,LG⟩,Iz,MG⟩:=p2;simp only [Te x _ h0,Oj x _ h0,IntKind.wrap_u64];unfold Nc wrap64;rw [LG,MG];omega)
 clear h
 go_enter Tryz.func156,Tryz.ntmps156
 go_wp2_with fail
 go_ret
 exact ⟨Fa HC.out,rfl⟩
theorem JM(x:Int)(h:cd x)(w:World):Calls Tryz.prog 153 #[.int .u64 x] w (Rb (.bool (Nc 32 1 x==1)) w):=by
 have HC:Hid (((IntKind.u64.wrap (x.tdiv 4294967296)).tmod 2==1)=(Nc 32 1 x==1)):=Lib.hid (by
  have h0:=h.1
  have h1:=h.2
  obtain ⟨⟨p0,p1,p7,LG⟩,Iz,MG⟩:=p2;simp only [Te x _ h0,Oj x _ h0,IntKind.wrap_u64];rw [Te _ _ (by omega)];unfold Nc;rw [p1,Iz];have e:x/4294967296 %18446744073709551616=x/4294967296:=by omega
  rw [e])
 clear h
 go_enter Tryz.func153,Tryz.ntmps153
 go_wp2_with fail
 go_ret
 exact ⟨br HC.out,rfl⟩
theorem BR(x:Int)(h:cd x)(w:World):Calls Tryz.prog 302 #[.int .u64 x] w (Rb (.int .u32 (iv x)) w):=by
 have HC:Hid (IntKind.u64.wrap (x.tdiv 4294967296) %4294967296=iv x):=Lib.hid (by
  have h0:=h.1
  have h1:=h.2
  obtain ⟨⟨p0,p1,p7,LG⟩,Iz,MG⟩:=p2;simp only [Te x _ h0,Oj x _ h0,IntKind.wrap_u64];unfold iv;omega)
 clear h
 go_enter Tryz.func302,Tryz.ntmps302
 go_wp2_with fail
 go_ret
 exact ⟨Fa HC.out,rfl⟩
theorem Jz(n:Int)(h0:-9223372036854775808<=n)(h1:n<=9223372036854775807)(w:World):Calls Tryz.prog 250 #[.int .i64 n, .int .i64 4294967296] w (Rb (.int .i64 ((n+1) %4294967296)) w):=by
 have HC:Hid (∀t,n.tmod 4294967296=t->(t<0->(wrap64 (wrap64 (t+4294967296)+1)).tmod 4294967296=(n+1) %4294967296)/\(0<=t->(wrap64 (t+1)).tmod 4294967296=(n+1) %4294967296)):=Lib.hid (by
  intro t ht;rcases zt n 4294967296 with⟨a,b⟩|⟨a,b⟩
  . rw [b]at ht;refine ⟨fun h=>by omega,fun h=> ?_⟩;have e:wrap64 (t+1)=t+1:=by unfold wrap64;omega
    rw [e,Te _ _ (by omega)];omega
  . rw [b]at ht;refine ⟨fun h=> ?_,fun h=> ?_⟩
    . have e:wrap64 (wrap64 (t+4294967296)+1)=t+4294967296+1:=by unfold wrap64;omega
      rw [e,Te _ _ (by omega)];omega
    . have e:wrap64 (t+1)=t+1:=by unfold wrap64;omega
      rw [e,Te _ _ (by omega)];omega)
 obtain ⟨t,ht⟩:∃t,t=n.tmod 4294967296:=⟨_,rfl⟩;have HT:=Lib.hid ht;clear ht h0 h1
 go_enter Tryz.func250,Tryz.ntmps250
 go_wp2_with fail
 . rename_i q
   go_ret
   exact ⟨Fa ((HC.out _ rfl).1 q),rfl⟩
 . rename_i q
   go_ret
   exact ⟨Fa ((HC.out _ rfl).2 q),rfl⟩
theorem Gac(n:Int)(h0:-9223372036854775808<=n)(h1:n<=9223372036854775807)(w:World):Calls Tryz.prog 250 #[.int .i64 n, .int .i64 128] w (Rb (.int .i64 ((n+1) %128)) w):=by
 have HC:Hid (∀t,n.tmod 128=t->(t<0->(wrap64 (wrap64 (t+128)+1)).tmod 128=(n+1) %128)/\(0<=t->(wrap64 (t+1)).tmod 128=(n+1) %128)):=Lib.hid (by
  intro t ht;rcases zt n 128 with⟨a,b⟩|⟨a,b⟩
  . rw [b]at ht;refine ⟨fun h=>by omega,fun h=> ?_⟩;have e:wrap64 (t+1)=t+1:=by unfold wrap64;omega
    rw [e,Te _ _ (by omega)];omega
  . rw [b]at ht;refine ⟨fun h=> ?_,fun h=> ?_⟩
    . have e:wrap64 (wrap64 (t+128)+1)=t+128+1:=by unfold wrap64;omega
      rw [e,Te _ _ (by omega)];omega
    . have e:wrap64 (t+1)=t+1:=by unfold wrap64;omega
      rw [e,Te _ _ (by omega)];omega)
 obtain ⟨t,ht⟩:∃t,t=n.tmod 128:=⟨_,rfl⟩;have HT:=Lib.hid ht;clear ht h0 h1
 go_enter Tryz.func250,Tryz.ntmps250
 go_wp2_with fail
 . rename_i q
   go_ret
   exact ⟨Fa ((HC.out _ rfl).1 q),rfl⟩
 . rename_i q
   go_ret
   exact ⟨Fa ((HC.out _ rfl).2 q),rfl⟩
theorem KM(t b:Int)(t0:-9223372036854775808<=t)(t1:t<=9223372036854775807)(b0:-9223372036854775808<=b)(b1:b<=9223372036854775807)(w:World):Calls Tryz.prog 161 #[.int .i64 t, .int .i64 b] w (Rb (.int .u64 (nh t b)) w):=by
 have HC:Hid ((t+1) %4294967296+4294967296*((b+1) %128)=nh t b):=Lib.hid (by
  obtain ⟨⟨p0,p1,p7,LG⟩,Iz,MG⟩:=p2;unfold nh Sb Tc;rw [p0,Iz,p7];omega)
 have H1:=Lib.hid fun w=>Jz t t0 t1 w
 have H2:=Lib.hid fun w=>Gac b b0 b1 w
 clear t0 t1 b0 b1
 go_enter Tryz.func161,Tryz.ntmps161
 go_wp2_with fail
 refine (H1.out _).mono ?_
 rintro e w1 ⟨rfl,rfl⟩
 go_wp2_with fail
 refine (H2.out _).mono ?_
 rintro e w1 ⟨rfl,rfl⟩
 go_wp2_with fail
 go_ret
 exact ⟨Fa HC.out,rfl⟩
theorem oJ(t b:Int)(t0:-9223372036854775808<=t)(t1:t<=9223372036854775807)(b0:-9223372036854775808<=b)(b1:b<=9223372036854775807)(w:World):Calls Tryz.prog 249 #[.int .i64 t, .int .i64 b] w (Rb (.int .u64 (oh t b)) w):=by
 have HC:Hid ((t+1) %4294967296+4294967296*((b+1) %4294967296)=oh t b):=Lib.hid (by
  obtain ⟨⟨p0,p1,p7,LG⟩,Iz,MG⟩:=p2;unfold oh Sb Tc;rw [p0,Iz];omega)
 have H1:=Lib.hid fun w=>Jz t t0 t1 w
 have H2:=Lib.hid fun w=>Jz b b0 b1 w
 clear t0 t1 b0 b1
 go_enter Tryz.func249,Tryz.ntmps249
 go_wp2_with fail
 refine (H1.out _).mono ?_
 rintro e w1 ⟨rfl,rfl⟩
 go_wp2_with fail
 refine (H2.out _).mono ?_
 rintro e w1 ⟨rfl,rfl⟩
 go_wp2_with fail
 go_ret
 exact ⟨Fa HC.out,rfl⟩
theorem CR(t v:Int)(t0:-9223372036854775808<=t)(t1:t<=9223372036854775807)(h0:0<=v)(h1:v<4294967296)(w:World):Calls Tryz.prog 301 #[.int .i64 t, .int .u32 v] w (Rb (.int .u64 (vq t v)) w):=by
 have HC:Hid ((t+1) %4294967296+4294967296*v=vq t v):=Lib.hid (by
  obtain ⟨⟨p0,p1,p7,LG⟩,Iz,MG⟩:=p2;unfold vq Sb Tc;rw [p0,Iz];omega)
 have H1:=Lib.hid fun w=>Jz t t0 t1 w
 clear t0 t1
 go_enter Tryz.func301,Tryz.ntmps301
 go_wp2_with fail
 refine (H1.out _).mono ?_
 rintro e w1 ⟨rfl,rfl⟩
 go_wp2_with fail
 go_ret
 exact ⟨Fa HC.out,rfl⟩
theorem LM(q v:Int)(d:Bool)(q0:-9223372036854775808<=q)(q1:q<=9223372036854775807)(h0:0<=v)(h1:v<4294967296)(w:World):Calls Tryz.prog 155 #[.int .i64 q, .bool d, .int .u32 v] w (Rb (.int .u64 (cellW q d v)) w):=by
 go_enter Tryz.func155,Tryz.ntmps155
 cases d
 all_goals go_wp2_with fail
 all_goals go_ret
 all_goals refine ⟨Fa (?_:_=_),rfl⟩
 all_goals
  obtain ⟨⟨p0,p1,p7,LG⟩,Iz,MG⟩:=p2;simp only [IntKind.wrap_u64];unfold cellW Sb;rw [LG,MG];simp only [Bool.false_eq_true,if_false,if_true]
  try unfold wrap64
  rcases zt q 2147483648 with⟨a,b⟩|⟨a,b⟩
  all_goals omega
end Go.Proofs.YtfnkmolffhfpoaaGreat
namespace Go.Proofs.YtfnkmolffhfpoaaGreat
namespace Sk
open Go.RowKit
section
variable[Interp]
theorem Ic.same{B:Nat->Prop}{w0:World}{R:Mp}{σ:AH}{w w':World}(hS:Ic B w0 R σ w)(h:Below w.heap.size w w'):Ic B w0 R σ w' where
 tD:=hS.tD
 lt:=fun b r s hb=>Nat.lt_of_lt_of_le (hS.lt b r s hb) h.size
 obj:=fun b r s o hb ho=>⟨(hS.obj b r s o hb ho).1,by rw [h.block r (hS.lt b r s hb)];exact (hS.obj b r s o hb ho).2⟩
 inj:=hS.inj
 below:=⟨h.os.trans hS.below.os,h.tape.trans hS.below.tape,h.output.trans hS.below.output,Nat.le_trans hS.below.size h.size,fun k hk hb=>(h.block k (Nat.lt_of_lt_of_le hk hS.below.size)).trans (hS.below.block k hk hb)⟩
 base:=hS.base
 lK:=by
  obtain ⟨O,hO⟩:=hS.lK;refine ⟨O,fun b r s e hb he=> ?_⟩;obtain ⟨⟨g,h1,h2⟩,h3⟩:=hO b r s e hb he;exact ⟨⟨g,h1,Interp.gh_keep g r (O b) w w' h2 h.size fun k hk=>h.block k (Interp.gh_lt g r (O b) w h2 k hk)⟩,h3⟩
theorem MM{R:Mp}{k:Nat}{v v':Value}(h:VR R v v')(hs:Qb k v=true)(hk:k<=7):∃n q,Xb q=k/\v'= .int q n/\den v= .v (.int q n)/\q.wrap n=n:=by
 obtain ⟨n,⟨q,h1,h2,h3⟩,h4⟩:=ji hs hk;have:=Wo h h4;rw [h2]at this;injection this with this
 exact ⟨n,q,h1,this.symm,h2,h3⟩
theorem te{R:Mp}{v v':Value}(h:VR R v v')(hs:Qb 3 v=true):∃n,v'= .int .i64 n/\den v= .v (.int .i64 n)/\-9223372036854775808<=n/\n<=9223372036854775807:=by
 obtain ⟨n,q,h1,h2,h3,h4⟩:=MM h hs (by decide);have:q= .i64:=Nb (by rw [Ja];exact decide_eq_true h1)
 subst this;rw [IntKind.wrap_i64]at h4;exact ⟨n,h2,h3,by omega,by omega⟩
theorem Ho{R:Mp}{v v':Value}(h:VR R v v')(hs:Qb 7 v=true):∃n,v'= .int .u64 n/\den v= .v (.int .u64 n)/\cd n:=by
 obtain ⟨n,q,h1,h2,h3,h4⟩:=MM h hs (by decide);have:q= .u64:=Nb (by rw [Ja];exact decide_eq_true h1)
 subst this;rw [IntKind.wrap_u64]at h4;exact ⟨n,h2,h3,by unfold cd;omega⟩
theorem NM{R:Mp}{v v':Value}(h:VR R v v')(hs:Qb 6 v=true):∃n,v'= .int .u32 n/\den v= .v (.int .u32 n)/\0<=n/\n<4294967296:=by
 obtain ⟨n,q,h1,h2,h3,h4⟩:=MM h hs (by decide);have:q= .u32:=Nb (by rw [Ja];exact decide_eq_true h1)
 subst this;rw [IntKind.wrap_u32]at h4;exact ⟨n,h2,h3,by omega,by omega⟩
theorem Hac{R:Mp}{v v':Value}(h:VR R v v')(hs:Qb 8 v=true):∃b,v'= .bool b/\den v= .v (.bool b):=by
 obtain ⟨b,h1,h2⟩:=rM hs;have:=Wo h h2;rw [h1]at this;injection this with this
 exact ⟨b,this.symm,h1⟩
def yD(P:Program)(F:List (Value×Value))(g:List (Value×Value)->List Value->AH->Option (Value×AH))(f:FuncId):Prop:=
 ∀args σ v σ',g F args σ=some (v,σ')->∀(B:Nat->Prop) (w0:World) (R:Mp) (w:World) (args':List Value),Ic B w0 R σ w->LR R args args'->Calls P f ⟨args'⟩ w (Gg B w0 R σ v σ')
theorem cg{P:Program}{f:FuncId}{args':Array Value}{B:Nat->Prop}{w0:World}{R:Mp}{σ:AH}{w:World}{v v':Value}(hS:Ic B w0 R σ w)(hv:VR R v v')(h:Calls P f args' w (Rc v' w)):Calls P f args' w (Gg B w0 R σ v σ):=by
 refine h.mono ?_
 rintro e w' ⟨rfl,hb⟩;exact ⟨R,v',rfl,Ext.refl R σ,hv,hS.same hb⟩
variable[Bc]
theorem ze{F:List (Value×Value)}(hF:∀p,p∈F->den p.1=den p.2){t:Nat}(l:List Value)(ht:t %16<=8):(∃c,Ue (mk F t l)=some c)/\den (mk F t l)=den (sy t l):=by
 unfold mk;obtain ⟨⟨c,h1⟩,h2⟩:=FC F hF (sy t l) (t %16) (eB l ht);exact ⟨Ir h1,(ql hF _).trans h2⟩
def bc(P:Program)(f t:Nat)(ks:List Nat):Prop:=∀(args args':List Value) (R:Mp),Hj ks args=true->LR R args args'->∃v',den (sy t args)= .v v'/\∀w,Calls P f ⟨args'⟩ w (Rc v' w)
theorem Db{P:Program}{F:List (Value×Value)}(hF:∀p,p∈F->den p.1=den p.2){f t:Nat}{ks:List Nat}(ht:t %16<=8)(h:bc P f t ks):yD P F (Zb t ks) f:=by
 intro args σ v σ' hg B w0 R w args' hS hl;unfold Zb at hg
 split at hg
 . rename_i h1 h2;cases hg;obtain ⟨v',k1,k2⟩:=h args args' R h2 hl;obtain ⟨⟨c,q1⟩,q2⟩:=ze hF args ht;exact cg hS (Mc R q1 (q2.trans k1)) (k2 w)
 . cases hg
end
theorem Sa{v:Value}{w:World}{P:Program}{f:FuncId}{a:Array Value}(h:Calls P f a w (Rb v w)):Calls P f a w (Rc v w):=h.mono fun e w' ⟨h1,h2⟩=>⟨h1,h2▸Below.refl _ _⟩
theorem sq{k:Nat}{ks:List Nat}{args:List Value}(h:Hj (k::ks) args=true):∃x l,args=x::l/\Qb k x=true/\Hj ks l=true:=by
 cases args with
 |nil=>cases h
 |cons x l=>
  simp only [Hj]at h
  split at h
  . rename_i h1;exact ⟨x,l,rfl,h1,h⟩
  . cases h
theorem OG{args:List Value}(h:Hj [] args=true):args=[]:=by
 cases args with
 |nil=>rfl
 |cons x l=>cases h
section
variable[Interp][Bc]{P:Program}
theorem dg{f t:Nat}(h:∀x n,den x= .v (.int .u64 n)->cd n->∃v',den (sy t [x])= .v v'/\∀w,Calls P f #[.int .u64 n] w (Rc v' w)):bc P f t [7]:=fun args args' R hk hl=>by
 obtain ⟨x,l,rfl,h1,h2⟩:=sq hk;cases OG h2;obtain ⟨x',l',rfl,hx,hl⟩:=hl.qa;cases hl.uc;obtain ⟨n,rfl,hd,hu⟩:=Ho hx h1;exact h x n hd hu
theorem Kz{f t:Nat}(h:∀x n y m,den x= .v (.int .i64 n)->(-9223372036854775808<=n/\n<=9223372036854775807)->den y= .v (.int .i64 m)->(-9223372036854775808<=m/\m<=9223372036854775807)->∃v',den (sy t [x,y])= .v v'/\∀w,Calls P f #[.int .i64 n, .int .i64 m] w (Rc v' w)):bc P f t [3,3]:=fun args args' R hk hl=>by
 obtain ⟨x,l,rfl,h1,h2⟩:=sq hk;obtain ⟨y,l,rfl,h3,h4⟩:=sq h2;cases OG h4;obtain ⟨x',l',rfl,hx,hl⟩:=hl.qa;obtain ⟨y',l',rfl,hy,hl⟩:=hl.qa;cases hl.uc;obtain ⟨n,rfl,hd,hu⟩:=te hx h1;obtain ⟨m,rfl,uI,nQ⟩:=te hy h3;exact h x n y m hd hu uI nQ
theorem OM{f t:Nat}(h:∀x n y m,den x= .v (.int .i64 n)->(-9223372036854775808<=n/\n<=9223372036854775807)->den y= .v (.int .u32 m)->(0<=m/\m<4294967296)->∃v',den (sy t [x,y])= .v v'/\∀w,Calls P f #[.int .i64 n, .int .u32 m] w (Rc v' w)):bc P f t [3,6]:=fun args args' R hk hl=>by
 obtain ⟨x,l,rfl,h1,h2⟩:=sq hk;obtain ⟨y,l,rfl,h3,h4⟩:=sq h2;cases OG h4;obtain ⟨x',l',rfl,hx,hl⟩:=hl.qa;obtain ⟨y',l',rfl,hy,hl⟩:=hl.qa;cases hl.uc;obtain ⟨n,rfl,hd,hu⟩:=te hx h1;obtain ⟨m,rfl,uI,nQ⟩:=NM hy h3;exact h x n y m hd hu uI nQ
theorem PG{f t:Nat}(h:∀x n y b z m,den x= .v (.int .i64 n)->(-9223372036854775808<=n/\n<=9223372036854775807)->den y= .v (.bool b)->den z= .v (.int .u32 m)->(0<=m/\m<4294967296)->∃v',den (sy t [x,y,z])= .v v'/\∀w,Calls P f #[.int .i64 n, .bool b, .int .u32 m] w (Rc v' w)):bc P f t [3,8,6]:=fun args args' R hk hl=>by
 obtain ⟨x,l,rfl,h1,h2⟩:=sq hk;obtain ⟨y,l,rfl,h3,h4⟩:=sq h2;obtain ⟨z,l,rfl,h5,h6⟩:=sq h4;cases OG h6;obtain ⟨x',l',rfl,hx,hl⟩:=hl.qa;obtain ⟨y',l',rfl,hy,hl⟩:=hl.qa;obtain ⟨z',l',rfl,hz,hl⟩:=hl.qa;cases hl.uc;obtain ⟨n,rfl,hd,hu⟩:=te hx h1;obtain ⟨b,rfl,uI⟩:=Hac hy h3;obtain ⟨m,rfl,hd3,hu3⟩:=NM hz h5;exact h x n y b z m hd hu uI hd3 hu3
end
section
variable[Interp][Bc]
theorem Iac:bc Tryz.prog 120 LL [7]:=dg fun x n hx h=>⟨_,dTo hx h,fun w=>Z2 n h w⟩
theorem Jac:bc Tryz.prog 243 LL [7]:=dg fun x n hx h=>⟨_,dTo hx h,fun w=>Sa (zY n h w)⟩
theorem vaq:bc Tryz.prog 131 GQ [7]:=dg fun x n hx h=>⟨_,dBy hx h,fun w=>yam n h w⟩
theorem Kac:bc Tryz.prog 150 GQ [7]:=dg fun x n hx h=>⟨_,dBy hx h,fun w=>Sa (AY n h w)⟩
theorem Lac:bc Tryz.prog 308 Wm [7]:=dg fun x n hx h=>⟨_,PE hx h,fun w=>xK n h w⟩
theorem Mac:bc Tryz.prog 293 Wm [7]:=dg fun x n hx h=>⟨_,PE hx h,fun w=>Sa (nJ n h w)⟩
theorem Nac:bc Tryz.prog 309 CI [7]:=dg fun x n hx h=>⟨_,Cac hx h,fun w=>Sa (EW n h w)⟩
theorem Oac:bc Tryz.prog 302 CI [7]:=dg fun x n hx h=>⟨_,Cac hx h,fun w=>Sa (BR n h w)⟩
theorem Pac:bc Tryz.prog 132 DI [7]:=dg fun x n hx h=>⟨_,sY hx h,fun w=>Sa (DW n h w)⟩
theorem Qac:bc Tryz.prog 128 iE [7]:=dg fun x n hx h=>⟨_,tY hx h,fun w=>CW n h w⟩
theorem Rac:bc Tryz.prog 156 iE [7]:=dg fun x n hx h=>⟨_,tY hx h,fun w=>Sa (AR n h w)⟩
theorem Sac:bc Tryz.prog 134 Sw [7]:=dg fun x n hx h=>⟨_,VT hx,fun w=>XP n h w⟩
theorem Tac:bc Tryz.prog 153 Sw [7]:=dg fun x n hx h=>⟨_,VT hx,fun w=>Sa (JM n h w)⟩
theorem Uac:bc Tryz.prog 281 Sg [7]:=dg fun x n hx h=>⟨_,Dp hx,fun w=>Sa (yK n w)⟩
theorem Vac:bc Tryz.prog 252 Sg [7]:=dg fun x n hx h=>⟨_,Dp hx,fun w=>Sa (lJ n h w)⟩
theorem Wac:bc Tryz.prog 217 Tg [7]:=dg fun x n hx h=>⟨_,Lk hx,fun w=>Sa (zK n h w)⟩
theorem Xac:bc Tryz.prog 251 Tg [7]:=dg fun x n hx h=>⟨_,Lk hx,fun w=>Sa (mJ n h w)⟩
theorem Yac:bc Tryz.prog 236 tg [7]:=dg fun x n hx h=>⟨_,qx hx,fun w=>Sa (YP n h w)⟩
theorem Zac:bc Tryz.prog 292 tg [7]:=dg fun x n hx h=>⟨_,qx hx,fun w=>Sa (Eo n h w)⟩
theorem waq:bc Tryz.prog 84 mo [3,3]:=Kz fun x n y m hx h hy k=>⟨_,BC hx hy,fun w=>FW n m w⟩
theorem aad:bc Tryz.prog 161 mo [3,3]:=Kz fun x n y m hx h hy k=>⟨_,BC hx hy,fun w=>Sa (KM n m h.1 h.2 k.1 k.2 w)⟩
theorem cad:bc Tryz.prog 224 vp [3,3]:=Kz fun x n y m hx h hy k=>⟨_,uM hx hy,fun w=>AK n m w⟩
theorem dad:bc Tryz.prog 249 vp [3,3]:=Kz fun x n y m hx h hy k=>⟨_,uM hx hy,fun w=>Sa (oJ n m h.1 h.2 k.1 k.2 w)⟩
theorem ead:bc Tryz.prog 289 TB [3,6]:=OM fun x n y m hx h hy k=>⟨_,(uY hx hy).trans (by rw [Yc (CC k.1 k.2)]),fun w=>GW n m k.1 k.2 w⟩
theorem fad:bc Tryz.prog 301 TB [3,6]:=OM fun x n y m hx h hy k=>⟨_,(uY hx hy).trans (by rw [Yc (CC k.1 k.2)]),fun w=>Sa (CR n m h.1 h.2 k.1 k.2 w)⟩
theorem xaq:bc Tryz.prog 127 gm [3,8,6]:=PG fun x n y b z m hx h hy hz k=>⟨_,(DC hx hy hz).trans (by rw [Yc (Ep k.1 k.2)]),fun w=>IW n m b k.1 k.2 w⟩
theorem gad:bc Tryz.prog 155 gm [3,8,6]:=PG fun x n y b z m hx h hy hz k=>⟨_,(DC hx hy hz).trans (by rw [Yc (Ep k.1 k.2)]),fun w=>Sa (LM n m b h.1 h.2 k.1 k.2 w)⟩
end
end Sk
end Go.Proofs.YtfnkmolffhfpoaaGreat
namespace Go.Proofs.YtfnkmolffhfpoaaGreat
open Go.RowKit Go.BigFrame
def Lv.thr(v:Lv)(t at_:Int):Int:=v.word t v.th v.pt 1 at_
theorem yx(l:Nat)(v:Lv)(s at_:Int)(a0:0<=at_)(a1:at_<=100)(w:World)(h:Ac w l v):
  Calls Tryz.prog 218 #[.pointer (some ⟨l,0,none⟩), .int .i64 s, .int .i64 at_] w (fj (.int .i64 (v.thr s at_)) w):=by
 have HW:Hid (∀w,Ac w l v->Calls Tryz.prog 282 #[.pointer (some ⟨l,0,none⟩), .int .i64 s, .int .i64 v.th, .int .i64 v.pt, .int .i64 1, .int .i64 at_] w (Rb (.int .i64 (v.thr s at_)) w)):=Lib.hid fun w h=>
  Az l v s v.th v.pt 1 at_ (by have:=h.ok.dM;omega) h.ok.fR (by have:=h.ok.VX;omega) (by omega) (by omega) a0 a1 w h
 have HL:=Lib.hid h;obtain ⟨l0,l1,l2,l3,l4,l5,l6,l7,l8,lf⟩:=Aw h.row;clear h;generalize v.thr s at_=r at*;generalize v.th=sl at*;generalize v.pt=ps at*
 go_enter Tryz.func218,Tryz.ntmps218
 go_wp2_with fail
 go_quiet ((go_at_call 282;exact Calls.quiet_of_same (HW.out _ (HL.out.keep rfl))))
 go_wp2_with fail
 go_ret
 exact ⟨rfl,_,rfl⟩
theorem DR(l:Nat)(v:Lv)(s:Int)(w:World)(h:Ac w l v):Calls Tryz.prog 126 #[.pointer (some ⟨l,0,none⟩), .int .i64 s] w (fj (.int .i64 (v.thr s 0)) w):=by
 have HS:=Lib.hid (yx l v s 0 (by omega) (by omega) w h);clear h
 go_enter Tryz.func126,Tryz.ntmps126
 go_wp2_with fail
 refine HS.out.mono ?_
 rintro e w1 ⟨rfl,n,rfl⟩
 go_wp2_with fail
 go_ret
 exact ⟨rfl,n,rfl⟩
theorem pJ(l:Nat)(v:Lv)(s:Int)(w:World)(h:Ac w l v):Calls Tryz.prog 124 #[.pointer (some ⟨l,0,none⟩), .int .i64 s] w (fj (.int .i64 (v.thr s 1)) w):=by
 have HS:=Lib.hid (yx l v s 1 (by omega) (by omega) w h);clear h
 go_enter Tryz.func124,Tryz.ntmps124
 go_wp2_with fail
 refine HS.out.mono ?_
 rintro e w1 ⟨rfl,n,rfl⟩
 go_wp2_with fail
 go_ret
 exact ⟨rfl,n,rfl⟩
def Lv.log(v:Lv)(t n:Int):Int:=if hasB n v.lo then v.word t v.th v.pl v.ls n else v.ln*8
theorem BY(l:Nat)(v:Lv)(t n:Int)(w:World)(h:Ac w l v):Calls Tryz.prog 223 #[.pointer (some ⟨l,0,none⟩), .int .i64 t, .int .i64 n] w (Rc (.int .i64 (v.log t n)) w):=by
 have HA:=Lib.hid fun w=>Bp n v.lo w
 have HN:=Lib.hid fun w h=>El l v w h
 have HE:Hid (v.log t n=if hasB n v.lo then v.word t v.th v.pl v.ls n else v.ln*8):=Lib.hid rfl;have HW:Hid (hasB n v.lo=true->∀w,Ac w l v->Calls Tryz.prog 282 #[.pointer (some ⟨l,0,none⟩), .int .i64 t, .int .i64 v.th, .int .i64 v.pl, .int .i64 v.ls, .int .i64 n] w (Rb (.int .i64 (v.word t v.th v.pl v.ls n)) w)):=Lib.hid fun hb w h=>
  Az l v t v.th v.pl v.ls n (by have:=h.ok.dM;omega) h.ok.KT (by have:=h.ok.WX;omega) h.ok.MT h.ok.NT (Si hb).1 (by have:=(Si hb).2;have:=h.ok.UX;omega) w h
 have HL:=Lib.hid h;have n0:=h.ok.YI;have n1:=h.ok.ZI;obtain ⟨l0,l1,l2,l3,l4,l5,l6,l7,l8,lf⟩:=Aw h.row;clear h;generalize v.log t n=r at*;generalize v.word t v.th v.pl v.ls n=x at*;generalize hasB n v.lo=y at*;generalize v.th=th at*;generalize v.pl=pl at*;generalize v.ls=ls at*;generalize v.lo=lo at*;generalize v.ln=ln at*;cases y with
 |true=>
  have HW2:=Lib.hid (HW.out rfl)
  go_enter Tryz.func223,Tryz.ntmps223
  go_wp2_with fail
  refine (HA.out _).mono ?_
  rintro e w2 ⟨rfl,rfl⟩
  go_wp2_with fail
  go_quiet ((go_at_call 282;exact Calls.quiet_of_same (HW2.out _ (HL.out.keep rfl))))
  go_wp2_with fail
  go_ret
  exact ⟨Fa HE.out.symm,zb (Below.refl _ _) _⟩
 |false=>
  go_enter Tryz.func223,Tryz.ntmps223
  go_wp2_with fail
  refine (HA.out _).mono ?_
  rintro e w2 ⟨rfl,rfl⟩
  go_wp2_with fail
  refine (HN.out _ HL.out).mono ?_
  rintro e w2 ⟨rfl,rfl⟩
  go_wp2_with fail
  go_ret
  exact ⟨Fa HE.out.symm,Below.refl _ _⟩
theorem iad(a b c d:Value)(w:World):(Instr.field 23 (.agg #[a,b,c,d]) 0).run Tryz.prog w= .ok a w:=by kernel_rfl
theorem jad(a b c d:Value)(w:World):(Instr.field 23 (.agg #[a,b,c,d]) 1).run Tryz.prog w= .ok b w:=by kernel_rfl
theorem QG(l:Nat)(n:Int)(n0:0<=n)(n1:n<=1000000)(w:World):Calls Tryz.prog 262 #[.pointer (some ⟨l,0,none⟩), .int .i64 n] w (Rb (.int .i64 (-1 -n)) w):=by
 go_enter Tryz.func262,Tryz.ntmps262
 go_wp2_with fail
 go_ret
 exact ⟨rfl,rfl⟩
def Lv.At(v:Lv)(n:Int):Int:=if hasB n v.th then-3 -n else v.ln*8
set_option maxRecDepth 100000 in
theorem JC(l:Nat)(v:Lv)(n:Int)(w:World)(h:Ac w l v):Calls Tryz.prog 182 #[.pointer (some ⟨l,0,none⟩), .int .i64 n] w (Rc (.int .i64 (v.At n)) w):=by
 have HC:=Lib.hid fun w h=>Jk l v w h
 have HL:=Lib.hid fun w h=>El l v w h
 have FD:=fun a b c d w=>iad a b c d w
 have HH:=Lib.hid fun w=>Bp n v.th w
 have HW:=Lib.hid h;have HN:=Lib.hid fun n h0 h1 w=>QG l n h0 h1 w
 have rm:=h.ok;have b0:=rm.WI;have b1:=rm.dM;have c0:=rm.WI;have c1:=rm.dM;have l0:=rm.YI;have l1:=rm.ZI;have HE:Hid (v.At n=if hasB n v.th then-3 -n else v.ln*8):=Lib.hid rfl;have HY:Hid (hasB n v.th=true->0<=n/\n<v.th):=Lib.hid Si;clear h rm;generalize v.At n=r at*;generalize hasB n v.th=y at*;cases y with
 |true=>
  obtain ⟨n0,n1⟩:=HY.out rfl;clear HY
  go_enter Tryz.func182,Tryz.ntmps182
  go_wp2_with fail
  refine (HC.out _ HW.out).mono ?_
  rintro e w1 ⟨rfl,hb⟩;have HB:=Lib.hid hb;clear hb
  go_wp2_with fail
  refine (HH.out _).mono ?_
  rintro e w2 ⟨rfl,rfl⟩
  go_wp2_with fail
  refine (HN.out _ (by omega) (by omega) _).mono ?_
  rintro e w2 ⟨rfl,rfl⟩
  go_wp2_with fail
  go_ret
  exact ⟨Fa (by rw [HE.out,if_pos trivial];omega),HB.out⟩
 |false=>
  clear HY
  go_enter Tryz.func182,Tryz.ntmps182
  go_wp2_with fail
  refine (HC.out _ HW.out).mono ?_
  rintro e w1 ⟨rfl,hb⟩;have HB:=Lib.hid hb;clear hb
  go_wp2_with fail
  refine (HH.out _).mono ?_
  rintro e w2 ⟨rfl,rfl⟩
  go_wp2_with fail
  refine (HL.out _ (HW.out.keep (HB.out.block l HW.out.lt))).mono ?_
  rintro e w2 ⟨rfl,rfl⟩
  go_wp2_with fail
  go_ret
  exact ⟨Fa (by rw [HE.out];simp),HB.out⟩
def Lv.after(v:Lv)(n:Int):Int:=if hasB n v.sl then-3 -v.th -n else v.ln*8
set_option maxRecDepth 100000 in
theorem PM(l:Nat)(v:Lv)(n:Int)(w:World)(h:Ac w l v):Calls Tryz.prog 288 #[.pointer (some ⟨l,0,none⟩), .int .i64 n] w (Rc (.int .i64 (v.after n)) w):=by
 have HC:=Lib.hid fun w h=>Jk l v w h
 have HL:=Lib.hid fun w h=>El l v w h
 have FD:=fun a b c d w=>jad a b c d w
 have HH:=Lib.hid fun w=>Bp n v.sl w
 have HW:=Lib.hid h;have HN:=Lib.hid fun n h0 h1 w=>QG l n h0 h1 w
 have rm:=h.ok;have b0:=rm.qK;have b1:=rm.IT;have c0:=rm.WI;have c1:=rm.dM;have l0:=rm.YI;have l1:=rm.ZI;have HE:Hid (v.after n=if hasB n v.sl then-3 -v.th -n else v.ln*8):=Lib.hid rfl;have HY:Hid (hasB n v.sl=true->0<=n/\n<v.sl):=Lib.hid Si;clear h rm;generalize v.after n=r at*;generalize hasB n v.sl=y at*;cases y with
 |true=>
  obtain ⟨n0,n1⟩:=HY.out rfl;clear HY
  go_enter Tryz.func288,Tryz.ntmps288
  go_wp2_with fail
  refine (HC.out _ HW.out).mono ?_
  rintro e w1 ⟨rfl,hb⟩;have HB:=Lib.hid hb;clear hb
  go_wp2_with fail
  refine (HH.out _).mono ?_
  rintro e w2 ⟨rfl,rfl⟩;obtain ⟨q0,q1,q2,q3,q4,q5,q6,q7,q8,qf⟩:=Aw (HW.out.keep (HB.out.block l HW.out.lt)).row
  go_wp2_with fail
  refine (HN.out _ (by omega) (by omega) _).mono ?_
  rintro e w2 ⟨rfl,rfl⟩
  go_wp2_with fail
  go_ret
  exact ⟨Fa (by rw [HE.out,if_pos trivial];omega),HB.out⟩
 |false=>
  clear HY
  go_enter Tryz.func288,Tryz.ntmps288
  go_wp2_with fail
  refine (HC.out _ HW.out).mono ?_
  rintro e w1 ⟨rfl,hb⟩;have HB:=Lib.hid hb;clear hb
  go_wp2_with fail
  refine (HH.out _).mono ?_
  rintro e w2 ⟨rfl,rfl⟩
  go_wp2_with fail
  refine (HL.out _ (HW.out.keep (HB.out.block l HW.out.lt))).mono ?_
  rintro e w2 ⟨rfl,rfl⟩
  go_wp2_with fail
  go_ret
  exact ⟨Fa (by rw [HE.out];simp),HB.out⟩
end Go.Proofs.YtfnkmolffhfpoaaGreat
