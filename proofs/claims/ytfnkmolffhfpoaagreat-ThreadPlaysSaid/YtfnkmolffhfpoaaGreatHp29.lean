/- -/
import Derived.Test.YtfnkmolffhfpoaaGreatHp28
import Derived.Test.YtfnkmolffhfpoaaGreatHp26
import Derived.WalkKit
import Derived.ProofKit
import Derived.OpenShut
import Derived.Deep.Slices
import Derived.Lib.Hide
import Derived.Test.YtfnkmolffhfpoaaGreatHp13
import Derived.Lib.SmallJoins
import Derived.Test.YtfnkmolffhfpoaaGreatHp24
import Derived.Test.YtfnkmolffhfpoaaGreatHp18
import Derived.Test.YtfnkmolffhfpoaaGreatHp19
set_option linter.unusedVariables false
set_option linter.unusedSimpArgs false
set_option linter.unusedSectionVars false
namespace Go.Proofs.YtfnkmolffhfpoaaGreat
namespace Sk
open Go.RowKit
structure We(tab:List Vc)(W:World)(p q m r l:Nat)(A:Rv)(c:Xc)(S:Shape)(ρ:Nat->Int)(γ:Nat->Gh)(B:Nat->Prop)(w0:World)(R:Mp)(w:World):Prop where
 tab:S∈ug tab
 ng:NG γ A c
 ins:InS Th S ρ γ B w0 R w
 r0:∃s,R 0=some (p,s)
 r1:∃s,R 1=some (q,s)
 r2:∃s,R 2=some (m,s)
 r3:∃s,R 3=some (r,s)
 r4:∃s,R 4=some (l,s)
 base:Below W.heap.size W w0
 own:∀k,B k->W.heap.size<=k
def ghB(S:Shape):Bool:=match Xf S.Sb 2,Xf S.Sb 3 with|some (.gh _),some (.gh _)=>true|_,_=>false
def Gi:List Vc->Bool
 |[]=>true
 |s::ss=>match bQ s.shape with|true=>(match ghB s.shape with|true=>Gi ss|false=>false)|false=>false
theorem On:∀{tab:List Vc},Gi tab=true->∀{S:Shape},S∈ug tab->bQ S=true/\(∃e,S.Sb[2]?=some (.gh e))/\∃e,S.Sb[3]?=some (.gh e)
 |[],h,S,hS=>by simp [ug]at hS
 |s::ss,h,S,hS=>by
  simp only [Gi]at h
  split at h
  . rename_i h1
    split at h
    . rename_i h2;simp only [ug,List.mem_cons]at hS;rcases hS with rfl|hS
      . refine ⟨h1, ?_⟩;unfold ghB at h2;rw [Pc,Pc]at h2
        split at h2
        . rename_i a b ha hb;exact ⟨⟨_,ha⟩,⟨_,hb⟩⟩
        . cases h2
      . exact On h hS
    . cases h
  . cases h
def Grown(A A':Rv):Prop:=(A'.ck<=A.ck+30/\A'.wm<=A.wm+30)/\A'.np=A.np
def WJ(fS fR:FuncId):List (FuncId×List Value):=[(fS,[.pointer (some ⟨0,0,none⟩), .pointer (some ⟨2,0,none⟩)]),(fR,[.pointer (some ⟨1,0,none⟩), .pointer (some ⟨3,0,none⟩)])]
theorem XG:∀{l:List Value} {i:Nat},idT i l=true->∀(j:Nat) (u:Value),l[j]?=some u->QC u=some (i+j)
 |[],i,h,j,u,hu=>by simp at hu
 |v::vs,i,h,j,u,hu=>by
  simp only [idT]at h
  split at h
  . rename_i k hk;simp only [Da,Bool.and_eq_true,Va,decide_eq_true_eq]at h;cases j with
    |zero=>simp at hu;subst hu;rw [hk,h.1];rfl
    |succ j=>
     have:=XG h.2 j u (by simpa using hu)
     rw [this];congr 1;omega
  . cases h
section
variable{tab:List Vc}{W:World}{p q m r l:Nat}{A:Rv}{c:Xc}{S:Shape}{ρ:Nat->Int}{γ:Nat->Gh}{B:Nat->Prop}{w0:World}{R:Mp}{w:World}
theorem yas{θ η:List Value}(h:idT 0 θ=true):qm (T:=Th) ρ γ θ=ρ:=by
 funext i
 unfold qm;cases hi:θ[i]?with
 |none=>rfl
 |some u=>
  have:=XG h i u hi;rw [Nat.zero_add]at this;simp only [this]
theorem Q5(h:NG γ A c){η:List Value}(hη:idG η=true):zk (T:=Th) ρ γ η=γ:=by
 unfold idG at hη
 split at hη
 . rename_i e x;simp only [Da,Bool.and_eq_true]at hη
   funext i
   unfold zk
   match i with
   |0=>
    simp only [List.getElem?_cons_zero];rw [Mn (.inl rfl) hη.1,iy h];exact h.g0.symm
   |1=>
    simp only [List.getElem?_cons_succ,List.getElem?_cons_zero];rw [Mn (.inr rfl) hη.2,jy h];exact h.g1.symm
   |i+2=>rfl
 . cases hη
theorem We.below(h:We tab W p q m r l A c S ρ γ B w0 R w):Below W.heap.size W w:=by
 have k:= @Qc.below (Th.at ρ γ) _ _ _ _ _ h.ins.Yj;have b:=h.base;exact ⟨k.os.trans b.os,k.tape.trans b.tape,k.output.trans b.output,Nat.le_trans b.size k.size,fun i hi=>(k.block i (Nat.lt_of_lt_of_le hi b.size) fun hB=>by have:=h.own i hB;omega).trans (b.block i hi)⟩
theorem We.wd(h:We tab W p q m r l A c S ρ γ B w0 R w)(Vg:Gi tab=true):Wd A:=by
 obtain ⟨h1,h2,h3⟩:=On Vg h.tab;obtain ⟨s2,r2⟩:=h.r2;obtain ⟨s3,r3⟩:=h.r3;obtain ⟨M,N,-,-,-,hw,-⟩:=h.ins.mem h1 r2 r3 h2 h3;rw [h.ng.g0]at hw;exact hw
theorem We.facts(h:We tab W p q m r l A c S ρ γ B w0 R w)(hw:Wd A)(c1:A.ck<999000)(w1:A.wm<999000):∀x,x∈pj S.facts Ak-> @den (Th.at ρ γ) x.1= @den (Th.at ρ γ) x.2:=fun x hx=>
 (ly hx).elim (h.ins.facts x) (Bah h.ng hw.Cm c1 hw.WQ w1 x)
theorem We.UJ(h:We tab W p q m r l A c S ρ γ B w0 R w): @VR (Th.at ρ γ) R (.pointer (some ⟨0,0,none⟩)) (.pointer (some ⟨p,0,none⟩)):=by
 obtain ⟨s,e⟩:=h.r0;exact @VR.ptr (Th.at ρ γ) _ _ _ _ _ e
theorem We.dQ(h:We tab W p q m r l A c S ρ γ B w0 R w): @VR (Th.at ρ γ) R (.pointer (some ⟨1,0,none⟩)) (.pointer (some ⟨q,0,none⟩)):=by
 obtain ⟨s,e⟩:=h.r1;exact @VR.ptr (Th.at ρ γ) _ _ _ _ _ e
theorem We.zas(h:We tab W p q m r l A c S ρ γ B w0 R w): @VR (Th.at ρ γ) R (.pointer (some ⟨2,0,none⟩)) (.pointer (some ⟨m,0,none⟩)):=by
 obtain ⟨s,e⟩:=h.r2;exact @VR.ptr (Th.at ρ γ) _ _ _ _ _ e
theorem We.Aas(h:We tab W p q m r l A c S ρ γ B w0 R w): @VR (Th.at ρ γ) R (.pointer (some ⟨3,0,none⟩)) (.pointer (some ⟨r,0,none⟩)):=by
 obtain ⟨s,e⟩:=h.r3;exact @VR.ptr (Th.at ρ γ) _ _ _ _ _ e
theorem lr1[Interp]{R:Mp}{a a':Value}(h:VR R a a'):LR R [a] [a']:=LR.cons h (LR.nil R)
theorem lr2[Interp]{R:Mp}{a a' b b':Value}(h:VR R a a')(k:VR R b b'):LR R [a,b] [a',b']:=LR.cons h (lr1 k)
theorem XJ{o:Option Value}{b:Bool}(h:fM o b=true):∃n:Int,o=some (.int .i64 n)/\b=decide (n=0):=by
 unfold fM at h
 split at h
 . rename_i n;refine ⟨n,rfl, ?_⟩;unfold TJ at h
   split at h
   . rw [Sd]at h;exact h.symm
   . rw [Cd,Sd]at h
     simpa using h.symm
 . cases h
theorem Jaj{fS fR:FuncId}{line:Nat}(Ug:Nn (fun s=>∃t,uaG env 100000 (WJ fS fR) (CU line) tab 5 s t=true) tab)(Vg:Gi tab=true)(h:We tab W p q m r l A c S ρ γ B w0 R w)(c1:A.ck<999000)(w1:A.wm<999000):
  Cg Tryz.prog [(fS,#[.pointer (some ⟨p,0,none⟩), .pointer (some ⟨m,0,none⟩)]),(fR,#[.pointer (some ⟨q,0,none⟩), .pointer (some ⟨r,0,none⟩)])] (fun ws w'=>∃(b:Bool) (u:Value) (n:Int) (A':Rv) (S':Shape) (ρ':Nat->Int) (γ':Nat->Gh) (R':Mp),ws=[.bool b,u]/\We tab W p q m r l A' c S' ρ' γ' B w0 R' w'/\Grown A A'/\Uf S.Sb 1 line=Uf S.Sb 1 line/\Uf S'.Sb 1 line=some (.int .i64 n)/\b=decide (n=0)) w:=by
 obtain ⟨s,rfl,t,ht⟩:=Ug.of h.tab;have oq:=h.wd Vg;have ht:Ml env 100000 (WJ fS fR) (CU line) (ug tab) 5 (Rp s.shape.Sb) t (pj s.shape.facts Ak)=true:=ht;have hA: @Ui (Th.at ρ γ) R (WJ fS fR) [(fS,#[.pointer (some ⟨p,0,none⟩), .pointer (some ⟨m,0,none⟩)]),(fR,#[.pointer (some ⟨q,0,none⟩), .pointer (some ⟨r,0,none⟩)])]:=
  ⟨rfl, @lr2 (Th.at ρ γ) _ _ _ _ _ h.UJ h.zas,rfl, @lr2 (Th.at ρ γ) _ _ _ _ _ h.dQ h.Aas,trivial⟩
 refine (Ol Kn h.ins.Yj hA ht (h.facts oq c1 w1)).mono ?_
 rintro ws w' ⟨j,S',vs,sb,R1,hj,ym,hle,hLR,Bg,bq⟩;unfold CU at ym
 split at ym
 . rename_i b v2;simp only [Da,Bool.and_eq_true]at ym;obtain ⟨Cas,ox⟩:=ym;obtain ⟨n,hn,hb⟩:=XJ Cas;obtain ⟨A',ng',Ni⟩:=qt (θ:=sb.θ) h.ng oq.Cm oq.WQ ox h.ng.Cn;obtain ⟨y,l1,rfl,hy,hl⟩:= @LR.ya (Th.at ρ γ) _ _ _ _ hLR;obtain ⟨u,l2,rfl,hu,hl⟩:= @LR.ya (Th.at ρ γ) _ _ _ _ hl;obtain rfl:= @LR.ic (Th.at ρ γ) _ _ hl;obtain rfl:= @Jh (Th.at ρ γ) _ _ _ hy;have hr:∀i x,i<5->(∃s,R i=some (x,s))->∃s,Lj sb.f R1 i=some (x,s):=fun i x hi ⟨s,e⟩=>⟨s,by rw [bq i hi];exact hle _ _ e⟩
   refine ⟨b,u,n,A',S',_,_,_,rfl,⟨List.mem_of_getElem? hj,ng',Bg,hr 0 p (by omega) h.r0,hr 1 q (by omega) h.r1,hr 2 m (by omega) h.r2,hr 3 r (by omega) h.r3,hr 4 l (by omega) h.r4,h.base,h.own⟩, ?_,rfl,hn,hb⟩;exact Ni
 . cases ym
theorem EU{o:Ob}(Vg:Gi tab=true)(h:We tab W p q m r l A c S ρ γ B w0 R w)(ho:tah env S o=true)(c1:A.ck<999000)(w1:A.wm<999000){ds:List (FuncId×Array Value)}(hA: @Ui (Th.at ρ γ) R o.cs ds):
  Cg Tryz.prog ds (fun ws w'=>∃(vs:List Value) (R1 R':Mp),We tab W p q m r l A c S ρ γ B w0 R' w'/\o.ok S.Sb vs=true/\ @LR (Th.at ρ γ) R1 vs ws) w:=by
 have oq:=h.wd Vg;refine (Ol Kn h.ins.Yj hA ho (h.facts oq c1 w1)).mono ?_
 rintro ws w' ⟨j,S',vs,sb,R1,hj,ym,hle,hLR,Bg,bq⟩;cases j with
 |succ j=>simp at hj
 |zero=>
  simp at hj;subst hj;simp only [Da,Bool.and_eq_true]at ym;obtain ⟨hid,baK⟩:=ym;unfold idS at hid;simp only [Da,Bool.and_eq_true]at hid;rw [yas (η:=sb.η) hid.1,Q5 h.ng hid.2]at Bg;have hr:∀i x,i<5->(∃s,R i=some (x,s))->∃s,Lj sb.f R1 i=some (x,s):=fun i x hi ⟨s,e⟩=>⟨s,by rw [bq i hi];exact hle _ _ e⟩
  exact ⟨vs,R1,_,⟨h.tab,h.ng,Bg,hr 0 p (by omega) h.r0,hr 1 q (by omega) h.r1,hr 2 m (by omega) h.r2,hr 3 r (by omega) h.r3,hr 4 l (by omega) h.r4,h.base,h.own⟩,baK,hLR⟩
end
def YG(S:Shape)(i k:Nat):Bool:=match Uf S.Sb 1 i with|some v=>vi k v|none=>false
def Eas(S:Shape)(i:Nat):Bool:=match Uf S.Sb 1 i with|some (.int .i64 _)=>true|_=>false
def Eah(t:uah):List Vc->Bool
 |[]=>true
 |s::ss=>match La (Eas s.shape t.line) (La (YG s.shape t.last 3) (La (YG s.shape (Nat.add t.last 1) 6) (La (YG s.shape (Nat.add t.last 2) 3) (La (YG s.shape (Nat.add t.last 3) 3) (YG s.shape (Nat.add t.last 4) 3)))))with|true=>Eah t ss|false=>false
section
variable{tab:List Vc}{W:World}{p q m r l:Nat}{A:Rv}{c:Xc}{S:Shape}{ρ:Nat->Int}{γ:Nat->Gh}{B:Nat->Prop}{w0:World}{R:Mp}{w:World}
theorem We.cell(h:We tab W p q m r l A c S ρ γ B w0 R w){i:Nat}{v:Value}(hv:Uf S.Sb 1 i=some v):∃v',w.cell? ⟨q,i,none⟩=some v'/\ @VR (Th.at ρ γ) R v v':=by
 obtain ⟨s,e⟩:=h.r1;exact VG h.ins.Yj e hv
theorem fq{x:Value}(h: @Sc 3 x):∃n,x= .int .i64 n:=by
 obtain ⟨q,n,rfl,e⟩:= @Sc.int (Th.at (fun _=>0) fun _=> .mem jT) _ _ h (by decide);cases q<;>first|exact ⟨n,rfl⟩|(exfalso;revert e;decide)
theorem SD{x:Value}(h: @Sc 6 x):∃n,x= .int .u32 n:=by
 obtain ⟨q,n,rfl,e⟩:= @Sc.int (Th.at (fun _=>0) fun _=> .mem jT) _ _ h (by decide);cases q<;>first|exact ⟨n,rfl⟩|(exfalso;revert e;decide)
def ai(tab:List Vc)(W:World)(p q m r l:Nat)(A:Rv)(c:Xc)(S:Shape)(ρ:Nat->Int)(γ:Nat->Gh)(B:Nat->Prop)(w0:World)(w:World):Prop:=∃R,We tab W p q m r l A c S ρ γ B w0 R w
noncomputable def jM(E:Env)(S:Shape)(F:List (Value×Value))(σ:AH):Bool:=
 match II σ 0 ⟨upN 5 0,[],[]⟩ S.Sb with
 |s=>match OQ (E.Ll F) S 5 σ s with|true=>idS s|false=>false
open Classical in
theorem V0{f:FuncId}{x a:Value}{σ:AH}(hr:runs (env.Ll (pj S.facts Ak)) 100000 [(f,[x])] (Rp S.Sb)=some ([a],σ))(hs:jM env S (pj S.facts Ak) σ=true):tah env S ⟨[(f,[x])],fun _ vs=>decide (vs=[a])⟩=true:=by
 unfold jM at hs;simp only at hs
 split at hs
 . rename_i hh;unfold tah Ml;rw [hr];simp only [Xf];rw [hh];simp only [Da,Bool.and_eq_true];exact ⟨hs,by simp⟩
 . cases hs
open Classical in
theorem eQ{f:FuncId}{x x' a:Value}{σ:AH}(Vg:Gi tab=true)(c1:A.ck<999000)(w1:A.wm<999000)(hr:runs (env.Ll (pj S.facts Ak)) 100000 [(f,[x])] (Rp S.Sb)=some ([a],σ))(hs:jM env S (pj S.facts Ak) σ=true)(hx:∀R w,We tab W p q m r l A c S ρ γ B w0 R w-> @VR (Th.at ρ γ) R x x'){w:World}(h:ai tab W p q m r l A c S ρ γ B w0 w):
  Calls Tryz.prog f #[x'] w fun e w'=>∃(v':Value) (R1:Mp),e= .returned v'/\ai tab W p q m r l A c S ρ γ B w0 w'/\ @VR (Th.at ρ γ) R1 a v':=by
 obtain ⟨R,h⟩:=h;have:=EU Vg h (V0 hr hs) c1 w1 (ds:=[(f,#[x'])]) ⟨rfl, @lr1 (Th.at ρ γ) _ _ _ (hx R w h),trivial⟩;unfold Cg at this;refine this.mono ?_
 rintro e w' ⟨v',rfl,vs,R1,R',h1,h2,h3⟩;have h2:=of_decide_eq_true h2;subst h2;obtain ⟨y,l1,hy,hv,hl⟩:= @LR.ya (Th.at ρ γ) _ _ _ _ h3;cases hy;exact ⟨v',R1,rfl,⟨R',h1⟩,hv⟩
end
end Sk
end Go.Proofs.YtfnkmolffhfpoaaGreat
namespace Go.Proofs.YtfnkmolffhfpoaaGreat
open Go.RowKit Go.BigFrame
def Fah(f:Nat->Int)(n nt np:Nat)(W:World)(e:Ending)(W':World):Prop:=
 ∃R:Rv,e= .returned (.pointer (some ⟨R.m,0,none⟩))/\za W' R/\Init R f n nt np/\(∀k,R.own k->W.heap.size<=k)/\Below W.heap.size W W'/\R.wm=0/\R.seen=f/\R.kept=f/\R.pass=(fun _=>0)/\R.wr=fun _=>0
theorem YJ{m d kb sb wb fb pb n nt np c0 c1 c3:Nat}{fg:Nat->Nat}{f:Nat->Int}{B:Nat}(h1:∀g,g∈[m,d,kb,sb,wb,fb,pb]->B<=g)(h2:∀t,t<nt->B<=fg t):∀k,(Rv.start m d kb sb wb fb pb n nt np c0 c1 c3 fg f).own k->B<=k:=by
 rintro k (hk|⟨t,ht,e⟩)
 . exact h1 k hk
 . have:=h2 t ht;have e:fg t=k:=e;omega
theorem X0{W0 W:World}{d kb sb wb c0 c1 fb nt c3 m:Nat}{fg:Nat->Nat}{f:Nat->Int}(h:GD W0 W d kb sb wb c0 c1 (.slice (some ⟨fb,0,none⟩) nt c3) nt m fg f):(∀g,g∈[d,kb,sb,wb,fb]->g<W.heap.size/\W0.heap.size<=g)/\∀t,t<nt->fg t<W.heap.size/\W0.heap.size<=fg t:=by
 refine ⟨fun g hg=> ?_,fun t ht=>⟨(h.rf t ht).lt,h.bf t ht⟩⟩;simp only [List.mem_cons,List.not_mem_nil,or_false]at hg;have hb:=h.base;rcases hg with rfl|rfl|rfl|rfl|rfl
 . exact ⟨(Array.getElem?_eq_some_iff.1 h.row).1,hb _ (by simp)⟩
 . exact ⟨h.rk.lt,hb _ (by simp)⟩
 . exact ⟨h.rs.lt,hb _ (by simp)⟩
 . exact ⟨h.rw.lt,hb _ (by simp)⟩
 . have:=wg h.fl (k:=g) rfl;exact ⟨this.2,this.1⟩
theorem ZG{W0 W W2:World}{d kb sb wb fb c0 c1 c3 n nt np m pb:Nat}{fg:Nat->Nat}{f:Nat->Int}{B:World}(h:GD W0 W d kb sb wb c0 c1 (.slice (some ⟨fb,0,none⟩) nt c3) nt n fg f)(hB:B.heap.size<=W0.heap.size)(hb:Below W.heap.size W W2)(YE:Below B.heap.size B W2)
  (hm:W.heap.size<=m)(hp:W.heap.size<=pb\/B.heap.size<=pb/\pb<W0.heap.size)(hmp:m≠pb)
  (hr:W2.heap[m]?=some (.cells #[.pointer (some ⟨d,0,none⟩), .slice (some ⟨pb,0,none⟩) np np, .int .i64 0, .int .i64 0, .int .i64 0, .int .i64 0, .int .i64 0, .int .u64 0, .int .u64 0, .bool false] 141 (0,0)))(hpr:tb W2 pb np fun _=> .int .u64 0)(n0:0<n)(n1:n<=262144)(t0:0<nt)(t1:nt<=64)(p1:np<=262144):
  Fah f n nt np B (.returned (.pointer (some ⟨m,0,none⟩))) W2:=by
 obtain ⟨l1,l2⟩:=X0 h;have s0:=h.below.size;refine ⟨Rv.start m d kb sb wb fb pb n nt np c0 c1 c3 fg f,rfl, ?_,rU _ _ _ _ _ _ _ _ _ _ _ _ _ _ _,YJ ?_ (fun t ht=>by have:=l2 t ht;omega),YE,rfl,rfl,rfl,rfl,rfl⟩
 . refine TP h ?_ ⟨fun hg=>by have:=l1 m hg;omega,fun t ht=>by have:=l2 t ht;omega⟩ ⟨fun hg=>by have:=l1 pb hg;omega,fun t ht=>by have:=l2 t ht;omega⟩ hmp hr hpr n0 n1 t0 t1 p1
   rintro g (hg|⟨t,ht,rfl⟩)
   . exact hb.block g (l1 g hg).1
   . exact hb.block _ (l2 t ht).1
 . intro g hg;rcases List.mem_cons.1 hg with rfl|hg
   . omega
   . by_cases e:g=pb
     . omega
     . have:g∈[d,kb,sb,wb,fb]:=by
        simp only [List.mem_cons,List.not_mem_nil,or_false]at hg⊢;omega
       have:=l1 g this;omega
set_option maxRecDepth 100000 in
set_option maxHeartbeats 2000000 in
theorem Y0(b off m cap nt np:Nat)(sI:0<m)(uE:m<=262144)(PQ:0<nt)(uL:nt<=64)(hp:np<=262144)(f:Nat->Int)(W0:World)(hb:b<W0.heap.size)(hw:∀j,j<8*m->W0.cell? ⟨b,off+j,none⟩=some (.int .u64 (f j))):
  Calls Tryz.prog 45 #[.slice (some ⟨b,off,none⟩) (8*m) cap, .int .i64 nt, .int .i64 np] W0 (Fah f m nt np W0):=by
 have HO:Hid (∀w,Below W0.heap.size W0 w->Calls Tryz.prog 105 #[.slice (some ⟨b,off,none⟩) (8*m) cap, .int .i64 nt] w (N5 w m nt f)):=Lib.hid fun w h=>UP _ b off m cap nt rfl sI uE PQ uL f w (Nat.lt_of_lt_of_le hb h.size) fun j hj=>(h.cell (p:=⟨b,off+j,none⟩) hb).trans (hw j hj)
 have HB:=Lib.hid (And.intro sI (And.intro uE (And.intro PQ (And.intro uL hp))));have UX:=Yp 99 43 _ _ 8 Tryz.underlying99 lJ rfl np (by omega) (by omega);have i0:(0:Int)<=(np:Int):=by omega
 clear hb hw
 go_enter Tryz.func45,Tryz.ntmps45
 go_wp2_with fail
 go_region_with (go_at_call 105;refine (HO.out _ (by first|exact (Below.refl _ _).drew|exact ((Below.refl _ _).alloc (Nat.le_refl _) _).drew|exact (Below.refl _ _).drew.alloc (by simp) _)).mono ?_;rintro e w1 ⟨d,kb,sb,wb,fb,c0,c1,c3,fg,rfl,hd⟩;have HD:=Lib.hid hd;clear hd)
 all_goals
  go_wp2_with fail
  go_ret
 . obtain ⟨h1,h2,h3,h4,h5⟩:=HB.out;have z:=HD.out.below.size;refine ZG (W0:=W0.drew) (W:=w1) (m:=w1.heap.size+1) (pb:=w1.heap.size) HD.out (Nat.le_refl _) (((Below.refl _ _).alloc (Nat.le_refl _) _).alloc (by simp) _) (((((Below.refl _ W0).drew.trans HD.out.below).alloc z _).alloc (by simp at z⊢;omega) _)) (by omega) (Or.inl (Nat.le_refl _)) (by omega) (Yd w1 _ _).2 ⟨_,_,(Yd w1 _ _).1,fun k hk=>qh _ _ _ hk⟩ h1 h2 h3 h4 h5
 . obtain ⟨h1,h2,h3,h4,h5⟩:=HB.out;have z:=HD.out.below.size;have zz:W0.heap.size+1<=w1.heap.size:=by simp at z;omega
   have e0:w1.heap[W0.heap.size]?=some (.cells (madeCells #[.int .u64 0] np) 43):=(HD.out.below.block W0.heap.size (by simp)).trans (heap_alloc_new W0 _)
   refine ZG (W0:=(W0.alloc (.cells (madeCells #[.int .u64 0] np) 43)).drew) (W:=w1) (m:=w1.heap.size) (pb:=W0.heap.size) HD.out (by simp) ((Below.refl _ _).alloc (Nat.le_refl _) _) (((((Below.refl _ W0).alloc (Nat.le_refl _) _).drew.trans (HD.out.below.mono (by simp))).alloc (by omega) _)) (by omega) (Or.inr ⟨Nat.le_refl _,by simp⟩) (by omega) (heap_alloc_new w1 _) ⟨_,_,(Below.heap_alloc w1 _ _ (by omega)).trans e0,fun k hk=>qh _ _ _ hk⟩ h1 h2 h3 h4 h5
end Go.Proofs.YtfnkmolffhfpoaaGreat
namespace Go.Proofs.YtfnkmolffhfpoaaGreat
open Go.RowKit Go.ChangeShapes Go.WideShapes Go.Deep
def Rd(P:Program):Nat->TypeId->Nat->Option (Option IntKind)
 |0,_,_=>none
 |d+1,t,j=>
  match P.underlying t with
  |some (.int k)=>if j=0 then some (some k)else none
  |some .bool=>if j=0 then some none else none
  |some (.struct fs)=>
   match fs.toList.find? fun f=>decide (f.offset<=j)&&decide (j<f.offset+P.cellsOf f.type)with
   |some f=>Rd P d f.type (j -f.offset)
   |none=>none
  |some (.array n e)=>if 0<P.cellsOf e/\j<n*P.cellsOf e then Rd P d e (j %P.cellsOf e)else none
  |_=>none
def ZJ(k:Option IntKind)(v:Value):Prop:=
 match k with
 |some k=>∃n,v= .int k n/\(Lit.int k n).wf=true
 |none=>∃b,v= .bool b
section
variable{H:Type}{enc:TypeId×Value->H}{P:Program}{w:World}{base:Nat}{spare:Nat->Bool}{held:Bool}
theorem Pg:∀(d:Nat) (t:TypeId) (j:Nat) (k:Option IntKind) (fuel:Nat) (cs:List Value) (x:DataW H×List MemPlace),
  DataW.trod enc P w base spare held fuel t cs=some x->Rd P d t j=some k->∃v,cs[j]?=some v/\ZJ k v
 |0,_,_,_,_,_,_,_,hk=>by simp [Rd]at hk
 |d+1,t,j,k,fuel,cs,x,h,hk=>by
  unfold Rd at hk
  split at hk
  . rename_i q hu
    split at hk
    . rename_i hj;simp only [Option.some.injEq]at hk;subst hk hj;obtain ⟨n,rfl,-,hw⟩:=DataW.trod_int hu h;exact ⟨_,rfl,n,rfl,hw⟩
    . cases hk
  . rename_i hu
    split at hk
    . rename_i hj;simp only [Option.some.injEq]at hk;subst hk hj;obtain ⟨b,rfl,-⟩:=DataW.trod_bool hu h;exact ⟨_,rfl,b,rfl⟩
    . cases hk
  . rename_i fs hu
    split at hk
    . rename_i f hf;obtain ⟨xs,n,-,-,hlen,Oz,Gah⟩:=DataW.trod_struct hu h;have ox:=List.mem_of_find?_eq_some hf;have Fas:=List.find?_some hf;simp only [Bool.and_eq_true,decide_eq_true_eq]at Fas;obtain ⟨i,hi,rfl⟩:=List.mem_iff_getElem.1 ox
      have hfi:fs[i]?=some (fs.toList[i]):=by
       rw [<-Array.getElem?_toList];exact List.getElem?_eq_getElem hi
      have h1:=Gah i _ hfi;have hix:i<xs.length:=by rw [Oz];simpa using hi
      rw [List.getElem?_eq_getElem hix]at h1;obtain ⟨v,hv,hl⟩:=Pg d _ _ k n _ _ h1 hk;refine ⟨v, ?_,hl⟩;rw [List.getElem?_take]at hv
      split at hv
      . rw [List.getElem?_drop]at hv;rw [<-hv];congr 1;omega
      . cases hv
    . cases hk
  . rename_i n e hu
    split at hk
    . rename_i hc;obtain ⟨xs,m,-,-,hlen,Oz,hel⟩:=DataW.trod_array hu h;have hi:j/P.cellsOf e<n:=Nat.div_lt_of_lt_mul (by rw [Nat.mul_comm];exact hc.2);have h1:=hel _ hi;rw [List.getElem?_eq_getElem (by omega)]at h1;obtain ⟨v,hv,hl⟩:=Pg d _ _ k m _ _ h1 hk;refine ⟨v, ?_,hl⟩;rw [List.getElem?_take]at hv
      split at hv
      . rw [List.getElem?_drop]at hv;rw [<-hv];congr 1;have:=Nat.div_add_mod j (P.cellsOf e);rw [Nat.mul_comm]at this;omega
      . cases hv
    . cases hk
  . cases hk
theorem Nk{t e:TypeId}{fuel:Nat}{cs:List Value}{x:DataW H×List MemPlace}(ht:P.underlying t=some (.slice e))(XX:0<P.cellsOf e)
  (hk0:∃d k,Rd P d e 0=some k)(h:DataW.trod enc P w base spare held fuel t cs=some x)(a:Option Addr)(len cap:Nat)(Cs:cs=[.slice a len cap]):
  len<=cap/\cap<=maxLen/\(len=0\/∃b off,a=some ⟨b,off,none⟩/\b<w.heap.size/\∀i,i<len->∀d j k,j<P.cellsOf e->Rd P d e j=some k->∃v,w.cell? ⟨b,off+i*P.cellsOf e+j,none⟩=some v/\ZJ k v):=by
 rcases open_slice ht h with⟨rfl,-⟩|⟨ad,Z0,XO,m,n,D,Pl,rfl,hb,hl,hm,YQ,hx,hi⟩
 . simp only [List.cons.injEq,Value.slice.injEq,and_true]at Cs;obtain ⟨rfl,rfl,rfl⟩:=Cs;exact ⟨Nat.le_refl _,Nat.zero_le _, .inl rfl⟩
 . simp only [List.cons.injEq,Value.slice.injEq,and_true]at Cs;obtain ⟨rfl,rfl,rfl⟩:=Cs;refine ⟨hl,hm, ?_⟩;by_cases h0:Z0=0
   . exact .inl h0
   refine .inr ?_
   have hlm:Z0<=m:=by rw [YQ];split<;>omega
   have get:∀i,i<Z0->∀d j k,j<P.cellsOf e->Rd P d e j=some k->∃v,w.cell? ((ad.add (i*P.cellsOf e)).add j)=some v/\ZJ k v:=by
    intro i QQ d j k hj hk;obtain ⟨mF,hc,um⟩:=hi i (by omega);obtain ⟨_,Iq,av⟩:=World.cells?_some hc;obtain ⟨v,hv,hlf⟩:=Pg d e j k n mF _ um hk;exact ⟨v,by rw [av j hj];exact hv,hlf⟩
   obtain ⟨b,off,spot⟩:=ad;obtain ⟨d,k,hk0⟩:=hk0;obtain ⟨v0,FR,-⟩:=get 0 (by omega) d 0 k XX hk0;have Gas:spot=none:=by
    have:=World.cell?_spot FR
    simpa [Addr.add]using this
   subst Gas;have daK:w.cell? ⟨b,off,none⟩=some v0:=by
    have:=FR;rw [Addr.add_lit,Addr.add_lit]at this
    simpa using this
   refine ⟨b,off,rfl,World.block_lt_of_cell? w _ daK,fun i QQ d j k hj hk=> ?_⟩;have:=get i QQ d j k hj hk;rwa [Addr.add_lit,Addr.add_lit]at this
end
theorem kM:Tryz.prog.cellsOf 110=2:=by kernel_rfl
theorem aH:Rd Tryz.prog 3 110 0=some (some .i64):=by kernel_rfl
theorem FU:Rd Tryz.prog 3 110 1=some (some .u64):=by kernel_rfl
theorem GU:Rd Tryz.prog 4 26 0=some (some .i64):=by kernel_rfl
theorem IU:Rd Tryz.prog 4 26 1=some (some .i64):=by kernel_rfl
theorem JU:Rd Tryz.prog 4 26 2=some (some .i64):=by kernel_rfl
theorem KU:Rd Tryz.prog 4 26 3=some (some .i64):=by kernel_rfl
def Rj(W:World)(a:Option Addr)(len:Nat)(at_ wv:Nat->Int):Prop:=
 ∀i,i<len->∃b off,a=some ⟨b,off,none⟩/\b<W.heap.size/\W.cell? ⟨b,off+i*2,none⟩=some (.int .i64 (at_ i))/\W.cell? ⟨b,off+i*2+1,none⟩=some (.int .u64 (wv i))/\
  (-9223372036854775808<=at_ i/\at_ i<=9223372036854775807)/\0<=wv i/\wv i<18446744073709551616
theorem Rj.below{W W':World}{a:Option Addr}{len:Nat}{at_ wv:Nat->Int}(h:Rj W a len at_ wv)(hb:Below W.heap.size W W'):Rj W' a len at_ wv:=fun i hi=>by
 obtain ⟨b,off,e,hl,h1,h2,h3⟩:=h i hi;exact ⟨b,off,e,Nat.lt_of_lt_of_le hl hb.size,(World.cell?_of_block (hb.block b hl)).trans h1,(World.cell?_of_block (hb.block b hl)).trans h2,h3⟩
theorem TD{H:Type}{enc:TypeId×Value->H}{w:World}{base:Nat}{spare:Nat->Bool}{held:Bool}{fuel:Nat}{a:Option Addr}{len cap:Nat}{x:DataW H×List MemPlace}
  (h:DataW.trod enc Tryz.prog w base spare held fuel 24 [.slice a len cap]=some x):len<=cap/\cap<=maxLen/\∃at_ wv,Rj w a len at_ wv:=by
 obtain ⟨h1,h2,h3⟩:=Nk (P:=Tryz.prog) Tryz.underlying24 (by rw [kM];decide) ⟨3,_,aH⟩ h a len cap rfl;refine ⟨h1,h2, ?_⟩;rcases h3 with rfl|⟨b,off,rfl,hb,hc⟩
 . exact ⟨fun _=>0,fun _=>0,fun i hi=>by omega⟩
 . rw [kM]at hc;have each:∀i,∃c:Int×Int,i<len->w.cell? ⟨b,off+i*2,none⟩=some (.int .i64 c.1)/\w.cell? ⟨b,off+i*2+1,none⟩=some (.int .u64 c.2)/\(-9223372036854775808<=c.1/\c.1<=9223372036854775807)/\0<=c.2/\c.2<18446744073709551616:=by
    intro i;by_cases hi:i<len
    . obtain ⟨_,c0,n0,rfl,f0⟩:=hc i hi 3 0 _ (by decide) aH;obtain ⟨_,c1,n1,rfl,f1⟩:=hc i hi 3 1 _ (by decide) FU;refine ⟨(n0,n1),fun _=>⟨c0,c1, ?_⟩⟩;simp [Lit.wf,IntKind.min,IntKind.max,IntKind.signed,IntKind.bits]at f0 f1;simp only;omega
    . exact ⟨(0,0),fun h=>absurd h hi⟩
   exact ⟨fun i=>(Classical.choose (each i)).1,fun i=>(Classical.choose (each i)).2,fun i hi=>⟨b,off,rfl,hb,Classical.choose_spec (each i) hi⟩⟩
set_option maxRecDepth 100000 in
theorem bH{H:Type}{enc:TypeId×Value->H}{w:World}{r:Reach}{b0 base:Nat}{spare:Nat->Bool}{held:Bool}{v:Value}{d:DataW H}{p:List MemPlace}
  (hv:Value.okWide Tryz.prog w r b0 26 v)(h:DataW.Trod enc Tryz.prog w base spare held 26 v d p):
  ∃(th sl ib bu:Int) (a:Option Addr) (len cap:Nat) (at_ wv:Nat->Int),v= .agg #[.int .i64 th, .int .i64 sl, .int .i64 ib, .int .i64 bu, .slice a len cap]/\len<=cap/\cap<=maxLen/\Rj w a len at_ wv:=by
 obtain ⟨cs,rfl,mj⟩:=okWide_struct Tryz.underlying26 hv;obtain ⟨fuel,hf⟩:=h;obtain ⟨y0,y1,n,-,-,-,h1⟩:=trod_struct2 Tryz.underlying26 hf;have hc:Tryz.prog.cellsOf 26=5:=by kernel_rfl
 rw [hc]at mj;obtain ⟨_,g0,n0,rfl,-⟩:=Pg 4 26 0 _ fuel _ _ hf GU;obtain ⟨_,g1,n1,rfl,-⟩:=Pg 4 26 1 _ fuel _ _ hf IU;obtain ⟨_,g2,n2,rfl,-⟩:=Pg 4 26 2 _ fuel _ _ hf JU;obtain ⟨_,g3,n3,rfl,-⟩:=Pg 4 26 3 _ fuel _ _ hf KU;have eaK:Tryz.prog.cellsOf 24=1:=by kernel_rfl
 simp only [Value.cells]at g0 g1 g2 g3 h1;obtain ⟨l⟩:=cs
 match l,mj with
 |[c0,c1,c2,c3,c4],_=>
  simp at g0 g1 g2 g3;subst g0 g1 g2 g3;have h1':DataW.trod enc Tryz.prog w base spare held n 24 [c4]=some y1:=by
   rw [eaK]at h1;exact h1
  have hs:∃a len cap,c4= .slice a len cap:=by
   rcases open_slice Tryz.underlying24 h1' with⟨e,-⟩|⟨ad,Z0,XO,m,n,D,Pl,e,-⟩
   . cases e;exact ⟨_,_,_,rfl⟩
   . cases e;exact ⟨_,_,_,rfl⟩
  obtain ⟨a,len,cap,rfl⟩:=hs;obtain ⟨e1,e2,at_,wv,e3⟩:=TD h1';exact ⟨n0,n1,n2,n3,a,len,cap,at_,wv,rfl,e1,e2,e3⟩
end Go.Proofs.YtfnkmolffhfpoaaGreat
namespace Go.Proofs.YtfnkmolffhfpoaaGreat
open Go.RowKit Go.BigFrame
def we(M:Mv)(at_ wv:Nat->Int):Nat->Mv
 |0=>M
 |k+1=>(we M at_ wv k).store 0 (at_ k) (wv k)
def Me(R:Rv)(at_ wv:Nat->Int):Nat->Rv
 |0=>R
 |k+1=>(Me R at_ wv k).store 0 (at_ k) (wv k)
def B1(N:Nat)(f:Nat->Int)(a w:Int):Nat->Int:=if 0<=a/\a<(N:Int)then nd f a.toNat w else f
def aK(N:Nat)(at_ wv:Nat->Int):Nat->Nat->Int
 |0=>fun _=>0
 |k+1=>B1 N (aK N at_ wv k) (at_ k) (wv k)
theorem CB(M:Mv)(t a w:Int):(M.store t a w).own=M.own/\(M.store t a w).n=M.n/\(M.store t a w).m=M.m/\(M.store t a w).d=M.d/\(M.store t a w).ck=M.ck+1/\(M.store t a w).seen=B1 (8*M.n) M.seen a w:=by
 refine ⟨Mv.Bj _ _ _ _, ?_, ?_, ?_, ?_, ?_⟩
 . show(if((M.Ua a).2&&true)=true then M.put a w else M).n=M.n
   split
   . unfold Mv.put;split<;>rfl
   . rfl
 . show(if((M.Ua a).2&&true)=true then M.put a w else M).m=M.m
   split
   . exact Mv.J4 _ _ _
   . rfl
 . show(if((M.Ua a).2&&true)=true then M.put a w else M).d=M.d
   split
   . exact Mv.Fap _ _ _
   . rfl
 . show(if((M.Ua a).2&&true)=true then M.put a w else M).ck+1=M.ck+1
   split
   . rw [Mv.fx]
   . rfl
 . show(if((M.Ua a).2&&true)=true then M.put a w else M).seen=B1 (8*M.n) M.seen a w
   unfold B1;by_cases h0:0<=a
   . by_cases h1:a/8<(M.n:Int)
     . have hp:((M.Ua a).2&&true)=true:=by unfold Mv.Ua Je;rw [if_pos h0,if_pos h1];rfl
       rw [if_pos hp,if_pos (show 0<=a/\a<((8*M.n:Nat):Int)from⟨h0,by omega⟩)];unfold Mv.put;rw [if_pos h0]
     . have hp:¬((M.Ua a).2&&true)=true:=by unfold Mv.Ua Je;rw [if_pos h0,if_neg h1];decide
       rw [if_neg hp,if_neg (show¬(0<=a/\a<((8*M.n:Nat):Int))by omega)]
   . rw [if_neg (show¬(0<=a/\a<((8*M.n:Nat):Int))by omega)]
     split
     . unfold Mv.put;rw [if_neg h0]
     . rfl
theorem Ih(M:Mv)(at_ wv:Nat->Int):∀k,(we M at_ wv k).own=M.own/\(we M at_ wv k).n=M.n/\(we M at_ wv k).m=M.m/\(we M at_ wv k).d=M.d/\(we M at_ wv k).ck=M.ck+k
 |0=>⟨rfl,rfl,rfl,rfl,by show M.ck=M.ck+0;omega⟩
 |k+1=>by
  obtain ⟨h1,h2,h3,h4,h5⟩:=Ih M at_ wv k;obtain ⟨s1,s2,s3,s4,s5,-⟩:=CB (we M at_ wv k) 0 (at_ k) (wv k);exact ⟨s1.trans h1,s2.trans h2,s3.trans h3,s4.trans h4,by show((we M at_ wv k).store 0 (at_ k) (wv k)).ck=_;rw [s5,h5];omega⟩
theorem oy(M:Mv)(at_ wv:Nat->Int)(h0:M.seen=fun _=>0):∀k,(we M at_ wv k).seen=aK (8*M.n) at_ wv k
 |0=>h0
 |k+1=>by
  have h:=(CB (we M at_ wv k) 0 (at_ k) (wv k)).2.2.2.2.2
  rw [oy M at_ wv h0 k,(Ih M at_ wv k).2.1]at h;exact h
theorem cH(R:Rv)(t a w:Int):R.store t a w=R.YF ⟨2,t,a,0,w,false⟩:=rfl
theorem Pk(R:Rv)(at_ wv:Nat->Int):∀k:Nat,(Me R at_ wv k).own=R.own/\(Me R at_ wv k).m=R.m/\(Me R at_ wv k).wm<=R.wm+k/\(Me R at_ wv k).ck<=R.ck+k
 |0=>⟨rfl,rfl,by show R.wm<=R.wm+0;omega,by show R.ck<=R.ck+0;omega⟩
 |k+1=>by
  obtain ⟨h1,h2,h3,h4⟩:=Pk R at_ wv k;obtain ⟨s1,s2,s3,s4⟩:=VP (Me R at_ wv k) ⟨2,0,at_ k,0,wv k,false⟩;rw [<-cH]at s1 s2 s3 s4;exact ⟨s1.trans h1,s2.trans h2,by show((Me R at_ wv k).store 0 (at_ k) (wv k)).wm<=_;omega,by show((Me R at_ wv k).store 0 (at_ k) (wv k)).ck<=_;omega⟩
theorem DB{M:Mv}{R:Rv}(h:Alike M R)(at_ wv:Nat->Int):∀k,Alike (we M at_ wv k) (Me R at_ wv k)
 |0=>h
 |k+1=>(DB h at_ wv k).Ye _ _ _
def nwN(th sl ib bu:Nat):Nat:=Vd (40+bu)+8*th+Vd ib*th+8*sl
theorem py(th sl ib bu:Nat):nwN th sl ib bu=8*(5+(bu+7)/8+th+th*((ib+7)/8)+sl):=by
 unfold nwN Vd;have e:(ib+7)/8*8*th=8*(th*((ib+7)/8)):=by
  rw [Nat.mul_comm ((ib+7)/8) 8,Nat.mul_assoc,Nat.mul_comm ((ib+7)/8) th]
 rw [e];generalize th*((ib+7)/8)=x;omega
theorem Ias(th sl ib bu:Nat):((nwN th sl ib bu:Nat):Int)=(⟨th,sl,ib,bu⟩:Xc).lv.ln*8:=by
 rw [py]
 show _=(5+qb (bu:Int)+(th:Int)+(th:Int)*qb (ib:Int)+(sl:Int))*8
 have e1:qb (bu:Int)=(((bu+7)/8:Nat):Int):=by unfold qb;omega
 have e2:qb (ib:Int)=(((ib+7)/8:Nat):Int):=by unfold qb;omega
 rw [e1,e2,<-Int.natCast_mul];generalize th*((ib+7)/8)=x;generalize (bu+7)/8=y;omega
theorem Jas(th sl ib bu:Nat)(h1:th<=6)(h2:sl<=30)(h3:ib<=8)(h4:bu<=8):nwN th sl ib bu<=400:=by
 rw [py];have:th*((ib+7)/8)<=6*1:=Nat.mul_le_mul h1 (by omega);omega
structure sA(W0:World)(G:Array Value)(c:Xc)(M:Mv)(R:Rv)(l:Nat)(wr:World):Prop where
 below:Below W0.heap.size W0 wr
 box:wr.heap[W0.heap.size]?=some (.cells G 26 (0,0))
 lay:Nc wr l c.lv
 mem:Ga wr M
 ref:za wr R
 Md:Alike M R
 lo:W0.heap.size+1<=l/\(∀k,M.own k->W0.heap.size+1<=k/\k≠l/\¬R.own k)/\∀k,R.own k->W0.heap.size+1<=k/\k≠l
theorem sA.grow{W0:World}{G:Array Value}{c:Xc}{M:Mv}{R:Rv}{l:Nat}{wr w':World}(h:sA W0 G c M R l wr)(hb:Below wr.heap.size wr w'):sA W0 G c M R l w':=
 ⟨h.below.trans (hb.mono h.below.size),(hb.block _ (zb h.box)).trans h.box,h.lay.keep (hb.block _ h.lay.lt),h.mem.below hb,h.ref.below hb,h.Md,h.lo⟩
theorem sA.bK{W0:World}{G:Array Value}{c:Xc}{M M':Mv}{R:Rv}{l:Nat}{wr w':World}(h:sA W0 G c M R l wr)(hm:Ga w' M')(ht:Ja M.own wr w')(ho:M'.own=M.own):Below W0.heap.size W0 w'/\w'.heap[W0.heap.size]?=some (.cells G 26 (0,0))/\Nc w' l c.lv/\za w' R:=by
 have hs:=h.below.size;refine ⟨h.below.trans (ht.below hs fun k hk ho=>by have:=(h.lo.2.1 k ho).1;omega), ?_, ?_, ?_⟩
 . exact (ht.block _ (zb h.box) fun ho=>by have:=(h.lo.2.1 _ ho).1;omega).trans h.box
 . exact h.lay.keep (ht.block _ h.lay.lt fun ho=>(h.lo.2.1 _ ho).2.1 rfl)
 . exact h.ref.Oaf ht fun k hr ho=>(h.lo.2.1 k ho).2.2 hr
theorem sA.both{W0:World}{G:Array Value}{c:Xc}{M M':Mv}{R R':Rv}{l:Nat}{wr w1 w2:World}(h:sA W0 G c M R l wr)(hm:Ga w1 M')(ht:Ja M.own wr w1)(ho:M'.own=M.own){xE:World}(hb:Below w1.heap.size w1 xE)(hr:za w2 R')(aY:Ja R.own xE w2)(ho2:R'.own=R.own)(hl:Alike M' R'):sA W0 G c M' R' l w2:=by
 obtain ⟨b1,b2,b3,b4⟩:=h.bK hm ht ho;have EG:=hm.below hb;have b1':=b1.trans (hb.mono b1.size);have b2':=(hb.block _ (zb b2)).trans b2
 have b3':=b3.keep (hb.block _ b3.lt);refine ⟨b1'.trans (aY.below b1'.size fun k hk ho=>by have:=(h.lo.2.2 k ho).1;omega), ?_, ?_, ?_,hr,hl, ?_⟩
 . exact (aY.block _ (zb b2') fun ho=>by have:=(h.lo.2.2 _ ho).1;omega).trans b2'
 . exact b3'.keep (aY.block _ b3'.lt fun ho=>(h.lo.2.2 _ ho).2 rfl)
 . exact EG.Oaf aY fun k hk hr=>(h.lo.2.1 k (by rw [<-ho];exact hk)).2.2 hr
 . rw [ho,ho2];exact h.lo
structure Laid(c:Xc)(at_ wv:Nat->Int)(len:Nat)(W W':World)(l:Nat)(M:Mv)(R:Rv):Prop where
 below:Below W.heap.size W W'
 lay:Nc W' l c.lv
 mem:Ga W' M
 ref:za W' R
 Md:Alike M R
 lo:W.heap.size+1<=l/\(∀k,M.own k->W.heap.size+1<=k/\k≠l/\¬R.own k)/\∀k,R.own k->W.heap.size+1<=k/\k≠l
 n:((8*M.n:Nat):Int)=c.lv.ln*8
 ck:M.ck=len
 seen:M.seen=aK (8*M.n) at_ wv len
 di:∃(M0:Mv) (R0:Rv),M=we M0 at_ wv len/\R=Me R0 at_ wv len/\M0.wr=(fun _=>0)/\M0.wm=0/\0<M0.np/\R0.seen=(fun _=>0)/\R0.kept=(fun _=>0)/\R0.pass=(fun _=>0)/\R0.wr=(fun _=>0)/\R0.wm=0/\R0.ck=0
def lM(c:Xc)(at_ wv:Nat->Int)(len:Nat)(W:World)(e:Ending)(W':World):Prop:=
 (¬(c.Cn/\len<=100)/\e= .returned (.tuple #[.pointer none, .pointer none, .pointer none, .bool false])/\Below W.heap.size W W')\/
 ((c.Cn/\len<=100)/\∃l M R,e= .returned (.tuple #[.pointer (some ⟨l,0,none⟩), .pointer (some ⟨M.m,0,none⟩), .pointer (some ⟨R.m,0,none⟩), .bool true])/\Laid c at_ wv len W W' l M R)
theorem dH(M:Mv)(W:World)(h:Ga W M):Calls Tryz.prog 48 #[.pointer (some ⟨M.m,0,none⟩)] W (Gc (.pointer (some ⟨M.d,0,none⟩)) W):=by
 have q0:=ma h.row 0 _ rfl;clear h
 go_enter Tryz.func48,Tryz.ntmps48
 go_wp2_with fail
 go_ret
 exact ⟨rfl,rfl⟩
end Go.Proofs.YtfnkmolffhfpoaaGreat
