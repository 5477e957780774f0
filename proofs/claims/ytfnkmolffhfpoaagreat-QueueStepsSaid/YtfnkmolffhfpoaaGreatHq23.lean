/- -/
import Derived.RangeFuncNested
import Derived.RangeFuncBound
import Derived.RangeFuncCalls
import Derived.RangeFuncLeaves
import Derived.WalkKit
import Derived.OwnWalkIn
import Derived.TacticsInMore
import Derived.LoopNIn
import Derived.LoopIn
import Derived.Sort.LoopGhostIn
import Derived.OrdersIn
import Derived.Maps.AppendAt
import Derived.Test.YtfnkmolffhfpoaaGreatHq19
import Derived.Test.YtfnkmolffhfpoaaGreatHq18
import Derived.Test.YtfnkmolffhfpoaaGreatHq22
import Derived.Deep.LoopGhost
set_option linter.unusedVariables false
set_option linter.unusedSimpArgs false
namespace Go.Proofs.YtfnkmolffhfpoaaGreat
open Go.RowKit
theorem VE{n:Nat}{P:Program}{row:String}{args:Array Value}{w:World}{R:Value->World->Prop}(h:Rows P row args w R):RowsIn Fence.wide n P row args w R:=
 fun c cs _=>by
  obtain ⟨v,w',r,s⟩:=h c cs;exact ⟨v,w',r,stepsIn_wide.2 s⟩
theorem KV{P:Program}{o:Oper}{a:Act}{w:World}{K:Act->World->Prop}{Q:Exit->Act->World->Prop}{l n:Nat}(hd:∀c,o.op≠ .defer c)(h:o.wp P a w K Q):o.wpIn (Fence.wide.inRound l) n P a w K Q:=by
 refine ⟨fun _ _=>trivial, ?_⟩;unfold Oper.wp at h;rw [show(o.semAt (Fence.wide.inRound l).round a.eval)=execOp a.eval o from Oper.semAt_eq _ _ _ hd];generalize (execOp a.eval o).run P w=r at*
 cases r with
 |ok x w'=>
  cases x<;>first
   |exact h
   |exact ⟨(fun e=>by cases e),CallsIn.inRound l (callsIn_wide.2 h)⟩
   |exact ⟨(fun e=>by cases e),VE h⟩
   |exact h.elim
 |halt x w'=>cases x<;>exact h
theorem q9{P:Program}{md:Region.Mode}{ops:Array Oper}{Q:Exit->Act->World->Prop}{l n:Nat}(hd:∀(i:Nat) (o:Oper),ops[i]?=some o->∀c,o.op≠ .defer c)(hQ:¬LetsOut Q):
  ∀(fuel:Nat) (ga:Array Bool) (a:Act) (w:World),wpAny P md ops Q fuel ga a w->wpAnyIn (Fence.wide.inRound l) n P md ops Q fuel ga a w:=by
 intro fuel
 induction fuel with
 |zero=>intro ga a w h;exact h
 |succ fuel ih=>
  intro ga a w h;refine ⟨h.1,fun i hi=> ?_⟩;have hs:=h.2 i hi
  unfold wpOp at hs;unfold wpOpIn;cases ho:ops[i]?with
  |none=>rw [ho]at hs;exact ih _ _ _ hs
  |some o=>
   rw [ho]at hs;simp only at hs⊢
   split
   . rename_i hw;rw [if_pos hw]at hs;rcases hs with hs|⟨-,hs⟩
     . exact Oper.wpIn_mono (fun a w h=>ih _ _ _ h) (KV (hd i o ho) hs)
     . exact absurd hs hQ
   . rename_i hw;rw [if_neg hw]at hs;exact ⟨fun _ _=>trivial,ih _ _ _ hs⟩
theorem SM{P:Program}{ops:Array Oper}{Q:Exit->Act->World->Prop}{l n id:Nat}{a:Act}{w:World}(hm:P.follows .mixedOrders=true)(hd:∀(i:Nat) (o:Oper),ops[i]?=some o->∀c,o.op≠ .defer c)(hQ:¬LetsOut Q)
  (h:wpAny P .any ops Q ops.size (Array.replicate ops.size false) a w.drew):(Code.region id ops true).wpIn (Fence.wide.inRound l) n P Q a w:=
 wpIn_region_any hm (q9 hd hQ _ _ _ _ h)
theorem Rd{P:Program}{ops:Array Oper}{o:Oper}{a:Act}{w:World}{K:Act->World->Prop}{Q:Exit->Act->World->Prop}{E:Prop}(X7:o.guard=none)(s x:Operand)(t:TypeId)
  (ho:o.op= .call {callee:= .builtin .append,args:=#[s,x],argTypes:=#[t,t]})
  (base:Nat)(e:TypeId)(i:TypeInfo)(z:Value)(size bytes:Nat)(ht:P.underlying t=some (.slice e))(hi:P.info? e=some i)(hz:i.zero=some z)
  (sE:i.size=size)(RU:i.bytes=bytes)(SU:z.cells.size=size)(Vh:0<size)
  (v:Value)(n:Nat)(xs:List Value)(hs:a.eval s=v)(Od:w.ownsRow base e size v n xs)
  (ad:Addr)(m c:Nat)(news:List Value)(hx:a.eval x= .slice (some ad) m c)(hl:news.length=m*size)(UO:∀j u,news[j]?=some u->w.cell? (ad.add j)=some u)(h1:∀u∈news,u.oneCell'=true)
  (h63:n+m<=maxLen)(Bw:(n+m)*bytes<=140737488355328)(LP:base<=w.heap.size)
  (h:∀v' w',w'.ownsRow base e size v' (n+m) (xs++news)->w.grownBy w' v.ownBlock->(v'.ownBlock=v.ownBlock\/v'.ownBlock=some w.heap.size)->K (a.put o.dst v') w'):
  if Region.wanted o (yielded ops a.tmps)=true then Oper.wp P o a w K Q else E:=by
 have hw:Region.wanted o (yielded ops a.tmps)=true:=by simp [Region.wanted,X7]
 rw [if_pos hw];obtain ⟨v',w',hr,h2,h3,h4,h5⟩:=run_append_own_at (P:=P) w base t o.type e i z size bytes ht hi hz sE RU SU Vh v n xs Od ad m c news hl UO h1 h63 Bw LP;unfold Oper.wp execOp;simp only [ho,resolve,invoke,builtin,Sem.run_bind,Sem.run_pure,Result.andThen_ok,List.map_toArray,List.map_cons,List.map_nil,hs,hx,hr];exact h v' w' h2 h3 h5
end Go.Proofs.YtfnkmolffhfpoaaGreat
namespace Go.Proofs.YtfnkmolffhfpoaaGreat
open Go.RowKit Go.BigFrame
def so(W:World)(b2 b3 b off n cap k:Nat):Prop:=
 ∃A,(8*(k+1)<=n->A=some ⟨b,off+8*k,none⟩)/\W.cell? ⟨b2,0,none⟩=some (.slice A (n -8*k) (cap -8*k))/\W.cell? ⟨b3,0,none⟩=some (.int .i64 8)/\W.frozen? ⟨b2,0,none⟩=false
set_option maxRecDepth 100000 in
theorem s9(m l b2 b3 b off n cap:Nat)(bc:b2≠b3)(hm:1<=m)(hn:n<=cap)(hc:cap<=9223372036854775807)(J J':Nat->World->Prop)
  (hJ:∀k W,J k W->so W b2 b3 b off n cap k)
  (hJ':∀k W,J' k W->so W b2 b3 b off n cap k)
  (hY:∀k W,8*(k+1)<=n->J k W->YieldAt Fence.wide (m -1) Tryz.prog l #[.slice (some ⟨b,off+8*k,none⟩) 8 8] W fun e W'=>e= .returned (.bool true)/\J' k W')
  (hN:∀k W A,8*(k+1)<=n->J' k W->(8*(k+1+1)<=n->A=some ⟨b,off+8*(k+1),none⟩)->J (k+1) (W.setCell ⟨b2,0,none⟩ (.slice A (n -8*(k+1)) (cap -8*(k+1)))))
  (W:World)(h0:J 0 W):
  CallsIn Fence.wide m Tryz.prog 274 #[.func (.yield l) #[] #[], .pointer (some ⟨b2,0,none⟩), .pointer (some ⟨b3,0,none⟩)] W fun e W'=>(∃v,e= .returned v)/\J (n/8) W':=by
 have HJ:=Lib.hid hJ;have HJ':=Lib.hid hJ';have HY:=Lib.hid hY;have HN:=Lib.hid hN;have H0:=Lib.hid h0;clear hJ hJ' hY hN h0;refine callsIn_of_wp Tryz.func274 rfl trivial ?_ rfl
 simp only [Tryz.ntmps274,List.size_toArray,List.length_cons,List.length_nil,Nat.reduceAdd,Nat.reduceSub,Array.replicate_succ,Array.replicate_zero,List.push_toArray,List.append_toArray,List.nil_append,List.cons_append]
 gi_wp2
 gi_loopg [] (n/8) (fun g wr=>∃k:Nat,k+g=n/8/\Hid (J k wr))
 case atStart=>exact ⟨0,by omega,H0⟩
 case round=>
  obtain ⟨k,hk,HK⟩:=hrel;obtain ⟨A,hA,c2,c3,f2⟩:=HJ.out k wr HK.out;by_cases zb:8*(k+1)<=n
  . obtain rfl:=hA (by omega);obtain ⟨fn,tmps,assign,body,hy,hR⟩:=HY.out k wr zb HK.out;have HR:=Lib.hid hR;have HL:=Lib.hid zb;obtain ⟨r,hr⟩:∃r,r=n -8*k:=⟨_,rfl⟩;obtain ⟨q,hq⟩:∃q,q=cap -8*k:=⟨_,rfl⟩;rw [<-hr,<-hq]at c2;have d1:decide ((8:Int)<=(r:Int))=true:=ea (by omega);have i1:(8:Int)<=(q:Int):=by omega
    have i2:(8:Int)<=(r:Int):=by omega
    have i3:(r:Int)<=(q:Int):=by omega
    have u9:Hid (r=n -8*k/\q=cap -8*k):=Lib.hid ⟨hr,hq⟩;obtain ⟨o,ho⟩:∃o,o=off+8*k:=⟨_,rfl⟩;rw [<-ho]at c2 hy;have HO:=Lib.hid ho;clear hA hr hq ho hR zb HY HJ
    gi_wp2
    refine HR.out.mono ?_
    rintro e W' ⟨rfl,hj⟩;have HK2:=Lib.hid hj;obtain ⟨A2,hA2,e2,e3,g2⟩:=HJ'.out k W' hj;obtain rfl:=hA2 (by have:=HL.out;omega);rw [<-HO.out,<-u9.out.1,<-u9.out.2]at e2;clear hj hA2 c2 c3 f2 hy HR;by_cases hq8:q=8
    . have A9:=HN.out k W' (some ⟨b,o,none⟩) HL.out HK2.out (fun h=>by have:=u9.out.2;have:=HL.out;omega);have FM:J (k+1) (W'.setCell ⟨b2,0,none⟩ (.slice (some ⟨b,o,none⟩) (r -8) (q -8))):=by
       rw [show r -8=n -8*(k+1)by have:=u9.out;omega,show q -8=cap -8*(k+1)by have:=u9.out;omega];exact A9
      have IX:=Lib.hid FM;clear A9 FM;subst hq8
      gi_wp2
      go_roundg (gk -1)
      case rel=>exact ⟨k+1,by have:=HL.out;omega,IX⟩
      case measure=>have:=HL.out;omega
    . have A9:=HN.out k W' (some ⟨b,o+8,none⟩) HL.out HK2.out (fun _=>by rw [HO.out];congr 2);have FM:J (k+1) (W'.setCell ⟨b2,0,none⟩ (.slice (some ⟨b,o+8,none⟩) (r -8) (q -8))):=by
       rw [show r -8=n -8*(k+1)by have:=u9.out;omega,show q -8=cap -8*(k+1)by have:=u9.out;omega];exact A9
      have IX:=Lib.hid FM;have q1:(8==q)=false:=by simp;omega
      have q2:(q==8)=false:=by simp;omega
      clear A9 FM
      gi_wp2
      go_roundg (gk -1)
      case rel=>exact ⟨k+1,by have:=HL.out;omega,IX⟩
      case measure=>have:=HL.out;omega
  . have HL:=Lib.hid zb;have bq:k=n/8:=by omega
    have HR:Hid (n -8*k<8):=Lib.hid (by omega);generalize n -8*k=r at*;have d1:decide ((8:Int)<=(r:Int))=false:=ta (by have:=HR.out;omega);have HKN:=Lib.hid bq;clear bq zb hA
    gi_wp2
    go_end0
    exact ⟨⟨_,rfl⟩,by rw [<-HKN.out];exact HK.out⟩
theorem gC{P:Program}{ops:Array Oper}{rest:List Oper}{o:Oper}{a:Act}{Q:Exit->Act->World->Prop}(X7:o.guard=none)(s x:Operand)(t:TypeId)
  (ho:o.op= .call {callee:= .builtin .append,args:=#[s,x],argTypes:=#[t,t]})
  (base:Nat)(e e':TypeId)(i:TypeInfo)(z:Value)(size bytes:Nat)(ht:P.underlying t=some (.slice e))(hi:P.info? e=some i)(hz:i.zero=some z)
  (sE:i.size=size)(RU:i.bytes=bytes)(SU:z.cells.size=size)(Vh:0<size)
  (wr:World)(LP:base<=wr.heap.size)(v:Value)(n:Nat)(xs:List Value)(hs:a.eval s=v)(Od:wr.ownsRow base e size v n xs)
  (cs:Array Value)(m c:Nat)(hx:a.eval x= .slice (some ⟨wr.heap.size,0,none⟩) m c)(hl:cs.size=m*size)(h1:∀u∈cs.toList,u.oneCell'=true)
  (h63:n+m<=maxLen)(Bw:(n+m)*bytes<=140737488355328)
  (h:∀v' w',w'.ownsRow base e size v' (n+m) (xs++cs.toList)->wr.grownBy w' v.ownBlock->(∀B W,Below B W wr->B<=base->Below B W w')->(v'= .slice none 0 0<->v= .slice none 0 0/\m=0)->wpList P ops Q rest (a.put o.dst v') w'):
  wpList P ops Q (o::rest) a (wr.alloc (.cells cs e')):=by
 refine wpList_append_own _ X7 s x t ho base e i z size bytes ht hi hz sE RU SU Vh v n xs hs (Od.alloc _) ⟨wr.heap.size,0,none⟩ m c cs.toList hx (by simpa using hl) (fun j u hj=>Se wr cs e' j u hj) h1 h63 Bw (by simp;omega) ?_
 intro v' w' jM Ht hn';refine h v' w' jM (Wo (World.grownBy_alloc wr _ _) Ht) (fun B W hb hB=> ?_) hn';refine (hb.alloc (by omega) _).grown Ht (by simp;omega) (fun k hk=> ?_)
 have:=Od.lt k hk;omega
theorem JH:(Tryz.prog.info? 43).map (fun i=>(i.zero,i.size,i.bytes))=some (some (.int .u64 0),1,8):=by kernel_rfl
def Oc(f:Nat->Int)(n:Nat):List Value:=(List.range n).map fun k=> .int .u64 (f k)
theorem KH(f:Nat->Int)(n:Nat):(Oc f n).length=n:=by simp [Oc]
theorem Rl(f:Nat->Int)(n k:Nat)(h:k<n):(Oc f n)[k]?=some (.int .u64 (f k)):=by
 unfold Oc;rw [List.getElem?_map,List.getElem?_range h];rfl
theorem WE(f:Nat->Int)(k:Nat):Oc f (8*(k+1))=Oc f (8*k)++[.int .u64 (f (k*8)), .int .u64 (f (k*8+1)), .int .u64 (f (k*8+2)), .int .u64 (f (k*8+3)), .int .u64 (f (k*8+4)), .int .u64 (f (k*8+5)), .int .u64 (f (k*8+6)), .int .u64 (f (k*8+7))]:=by
 unfold Oc;rw [show 8*(k+1)=8*k+8 by omega,List.range_add,List.map_append,List.map_map]
 congr 1
 simp only [List.range_succ_eq_map,List.range_zero,List.map_cons,List.map_nil,Function.comp,List.map_map];rw [show 8*k=k*8 by omega];rfl
def Yq(f:Nat->Int)(n:Nat)(W:World)(e:Ending)(W':World):Prop:=∃v,e= .returned v/\Below W.heap.size W W'/\W'.ownsRow W.heap.size 43 1 v n (Oc f n)
set_option maxRecDepth 100000 in
set_option maxHeartbeats 1000000 in
theorem SJ(b n cap:Nat)(hn:n<=262144)(f:Nat->Int)(W:World)(h:Za W b (8*n) fun k=> .int .u64 (f k)):
  Calls Tryz.prog 109 #[.slice (some ⟨b,0,none⟩) n cap] W (Yq f (8*n) W):=by
 obtain ⟨i42,hi,Nw,Kh,tg⟩:=info_parts JH;have HR:=Lib.hid h;have hb:=h.lt;clear h;obtain ⟨B,hB⟩:∃B,B=W.heap.size:=⟨_,rfl⟩;unfold Yq;rw [<-hB]at hb⊢;have HBB:=Lib.hid hb;clear hb;have HB:=Lib.hid hB;clear hB
 go_enter Tryz.func109,Tryz.ntmps109
 go_wp2_with fail
 go_loopw [3,8] (fun v i wr=>∃k:Nat,k<=n/\i= .int .i64 k/\Hid (wr.ownsRow B 43 1 v (8*k) (Oc f (8*k)))/\Hid (Below B W wr)) (fun _ i _=>n -(intOf i).toNat)
 case atStart=>exact ⟨0,Nat.zero_le _,rfl,World.ownsRow_nil _ _ _ _,Below.refl _ _⟩
 case round=>
  obtain ⟨k,hk,rfl,HO,HBE⟩:=hrel;have HBw:Hid (B<=wr.heap.size):=Lib.hid (by rw [HB.out];exact HBE.out.size);by_cases zb:k<n
  . have hr:Za wr b (8*n) fun k=> .int .u64 (f k):=HR.out.keep (HBE.out.block b HBB.out)
    have h8:Nz wr b (k*8) (fun r=>f (k*8+r)):=fun r qP=>hr.cell (by omega)
    obtain ⟨c0,c1,c2,c3,c4,c5,c6,c7⟩:=h8.cells;have hw8:=WE f k;have i0:(0:Int)<=(k:Int):=by omega
    have i1:(k:Int)<(n:Int):=by omega
    have i2:decide ((k:Int)<(n:Int))=true:=ea i1;rw [Nat.add_zero]at c0;have HW8:=Lib.hid hw8;clear hr h8 hw8;generalize f (k*8)=v0 at*;generalize f (k*8+1)=v1 at*;generalize f (k*8+2)=v2 at*;generalize f (k*8+3)=v3 at*;generalize f (k*8+4)=v4 at*;generalize f (k*8+5)=v5 at*;generalize f (k*8+6)=v6 at*;generalize f (k*8+7)=v7 at*
    go_wp2_with (at_builtin;refine gC rfl _ _ 99 rfl B 43 259 i42 (.int .u64 0) 1 8 Tryz.underlying99 hi Nw Kh tg rfl (by decide) wr HBw.out u3 (8*k) (Oc f (8*k)) rfl HO.out #[.int .u64 v0, .int .u64 v1, .int .u64 v2, .int .u64 v3, .int .u64 v4, .int .u64 v5, .int .u64 v6, .int .u64 v7] 8 8 rfl rfl (by simp [Value.oneCell']) (by unfold maxLen;omega) (by omega) ?_;intro v' w' Od rn Dg bc;have HO':=Lib.hid Od;have HB':=Lib.hid (Dg B W HBE.out (Nat.le_refl _));clear Od rn Dg bc)
    go_wp2_with fail
    go_roundw
    case rel=>exact ⟨k+1,by omega,by go_num,Lib.hid (by rw [HW8.out];exact HO'.out),HB'⟩
    case measure=>simp [intOf];omega
  . obtain rfl:k=n:=by omega
    have i2:decide ((k:Int)<(k:Int))=false:=by simp
    go_wp2_with fail
    go_ret
    exact ⟨_,rfl,HBE.out,HO.out⟩
theorem fe{w:World}{base:Nat}{e:TypeId}{size:Nat}{v:Value}{n:Nat}{xs:List Value}(h:w.ownsRow base e size v n xs):∃a m c,v= .slice a m c:=by
 rcases h.2 with⟨rfl,-⟩|⟨g,cap,cur,rfl,-⟩
 . exact ⟨_,_,_,rfl⟩
 . exact ⟨_,_,_,rfl⟩
theorem Ua{w:World}{base:Nat}{e:TypeId}{size:Nat}{v:Value}{n:Nat}{xs:List Value}(h:w.ownsRow base e size v n xs):∃a c,v= .slice a n c:=by
 rcases h.2 with⟨rfl,rfl⟩|⟨g,cap,cur,rfl,-⟩
 . exact ⟨_,_,rfl⟩
 . exact ⟨_,_,rfl⟩
theorem Qf{w:World}{base:Nat}{e:TypeId}{size:Nat}{v:Value}{n:Nat}{xs:List Value}(h:w.ownsRow base e size v n xs){k:Nat}(hk:v.ownBlock=some k):base<=k/\k<w.heap.size:=by
 rcases h.2 with⟨rfl,-⟩|⟨g,cap,cur,rfl,hb,hg,-⟩
 . cases hk
 . cases hk;exact ⟨hb,(Array.getElem?_eq_some_iff.1 hg).1⟩
theorem Uz{w:World}{base:Nat}{e:TypeId}{size:Nat}{v:Value}{n:Nat}{xs:List Value}(h:w.ownsRow base e size v n xs){k:Nat}(hk:v.ownBlock=some k):∃cs t f,w.heap[k]?=some (.cells cs t f):=by
 rcases h.2 with⟨rfl,-⟩|⟨g,cap,cur,rfl,hb,hg,-⟩
 . cases hk
 . cases hk;exact ⟨_,_,_,hg⟩
theorem ig{w w':World}{base:Nat}{e:TypeId}{size:Nat}{v:Value}{n:Nat}{xs:List Value}(h:w.ownsRow base e size v n xs)(hk:∀k,v.ownBlock=some k->w'.heap[k]?=w.heap[k]?):w'.ownsRow base e size v n xs:=by
 refine ⟨h.1, ?_⟩;rcases h.2 with hn|⟨g,cap,cur,rfl,hb,hg,rest⟩
 . exact .inl hn
 . exact .inr ⟨g,cap,cur,rfl,hb,(hk g rfl).trans hg,rest⟩
theorem Eg{w:World}{base:Nat}{e:TypeId}{size:Nat}{v:Value}{n:Nat}{xs:List Value}(h:w.ownsRow base e size v n xs)(hn:0<n):∃g cap c,v= .slice (some ⟨g,0,none⟩) n cap/\base<=g/\w.heap[g]?=some (.cells c e (0,0))/\n<=cap/\c.size=cap*size/\∀j,j<n*size->c[j]?=xs[j]?:=by
 rcases h.2 with⟨-,rfl⟩|⟨g,cap,cur,rfl,hb,hg,h1,h2,h3,h4⟩
 . omega
 . refine ⟨g,cap,cur,rfl,hb,hg,h1,h3,fun j hj=> ?_⟩;rw [<-h4,List.getElem?_take,if_pos hj];simp
theorem Qk{W:World}{b o:Nat}{v:Value}(h:W.cell? ⟨b,o,none⟩=some v):∃cs t f,W.heap[b]?=some (.cells cs t f):=by
 unfold World.cell? at h
 split at h
 . rename_i c t f e;exact ⟨c,t,f,e⟩
 . cases h
def Nt(W W':World):Prop:=∀(k:Nat) (o:Obj),W.heap[k]?=some o->o.isCells=false->W'.heap[k]?=some o
theorem Nt.trans{A B C:World}(h:Nt A B)(k:Nt B C):Nt A C:=fun q o a b=>k q o (h q o a b) b
theorem TM{W:World}{p o:Nat}{v u:Value}(h:W.cell? ⟨p,o,none⟩=some u)(j:Nat):Nt W (W.setCell ⟨p,j,none⟩ v):=fun k ob hk hc=>by
 by_cases e:k=p
 . subst e;obtain ⟨cs,t,f,he⟩:=Qk h;rw [hk]at he;cases he;cases hc
 . rw [aa e];exact hk
structure vf(w0 W:World)(po b2 b3 b off n cap:Nat)(f:Nat->Int)(k j:Nat):Prop where
 below:Below w0.heap.size w0 W
 parts:so W b2 b3 b off n cap k
 out:∃v,W.cell? ⟨po,0,none⟩=some v/\W.ownsRow w0.heap.size 259 8 v j (Oc f (8*j))/\v.ownBlock≠some po/\v.ownBlock≠some b2/\v.ownBlock≠some b3
 fpo:W.frozen? ⟨po,0,none⟩=false
 h1:w0.heap.size<=po/\po<W.heap.size
 h2:w0.heap.size<=b2/\b2<W.heap.size
 h3:w0.heap.size<=b3/\b3<W.heap.size
theorem so.keep{W W':World}{b2 b3 b off n cap k:Nat}(h:so W b2 b3 b off n cap k)(e2:W'.heap[b2]?=W.heap[b2]?)(e3:W'.heap[b3]?=W.heap[b3]?):so W' b2 b3 b off n cap k:=by
 obtain ⟨A,a,c2,c3,f2⟩:=h;exact ⟨A,a,(cell_of_heap e2 0).trans c2,(cell_of_heap e3 0).trans c3,(frozen_of_heap e2 0).trans f2⟩
theorem vf.same{w0 W W':World}{po b2 b3 b off n cap:Nat}{f:Nat->Int}{k j:Nat}(h:vf w0 W po b2 b3 b off n cap f k j)(hs:W.heap.size<=W'.heap.size)
  (he:∀(g:Nat) (cs:Array Value) (t:TypeId) (q:Nat×Nat),W.heap[g]?=some (.cells cs t q)->W'.heap[g]?=some (.cells cs t q))(hb:Below w0.heap.size w0 W'):vf w0 W' po b2 b3 b off n cap f k j:=by
 have e:∀g:Nat,(∃cs t q,W.heap[g]?=some (.cells cs t q))->W'.heap[g]?=W.heap[g]?:=fun g ⟨cs,t,q,hg⟩=>(he g cs t q hg).trans hg.symm
 obtain ⟨A,a,c2,c3,f2⟩:=h.parts;obtain ⟨v,hv,ho,n1,n2,n3⟩:=h.out;refine ⟨hb,h.parts.keep (e _ (Qk c2)) (e _ (Qk c3)),⟨v,(cell_of_heap (e _ (Qk hv)) 0).trans hv,ig ho fun q hq=>e _ (Uz ho hq),n1,n2,n3⟩,(frozen_of_heap (e _ (Qk hv)) 0).trans h.fpo,
  ⟨h.h1.1,by have:=h.h1.2;omega⟩,⟨h.h2.1,by have:=h.h2.2;omega⟩,⟨h.h3.1,by have:=h.h3.2;omega⟩⟩
theorem vf.grow{w0 W W':World}{po b2 b3 b off n cap:Nat}{f:Nat->Int}{k j:Nat}(h:vf w0 W po b2 b3 b off n cap f k j)(hb:Below W.heap.size W W'):vf w0 W' po b2 b3 b off n cap f k j:=
 h.same hb.size (fun g cs t f he=>(hb.block g (Array.getElem?_eq_some_iff.1 he).1).trans he) (h.below.trans (hb.mono h.below.size))
theorem grownBy_putObj'(W:World)(l:Nat)(o':Obj):W.grownBy (W.putObj l o') (some l):=
 ⟨rfl,rfl,rfl,by simp [World.putObj],fun i hi bc=>World.putObj_heap_other (fun e=>bc (by rw [e]))⟩
theorem vf.put{w0 W:World}{po b2 b3 b off n cap:Nat}{f:Nat->Int}{k j:Nat}(h:vf w0 W po b2 b3 b off n cap f k j){l:Nat}{o:Obj}(hl:W.heap[l]?=some o)(ho:o.isCells=false)(hw:w0.heap.size<=l)(o':Obj):vf w0 (W.putObj l o') po b2 b3 b off n cap f k j:=by
 have hg:=grownBy_putObj' W l o';refine h.same hg.size (fun g cs t f he=> ?_) (h.below.grown hg h.below.size (fun k e=>by cases e;exact hw));rw [World.putObj_heap_other (by rintro rfl;rw [hl]at he;cases he;cases ho)];exact he
theorem vf.next{w0 W:World}{po b2 b3 b off n cap:Nat}{f:Nat->Int}{k j:Nat}(h:vf w0 W po b2 b3 b off n cap f k j)(n1:po≠b2)(n2:b2≠b3){A:Option Addr}(hA:8*(k+1+1)<=n->A=some ⟨b,off+8*(k+1),none⟩):
  vf w0 (W.setCell ⟨b2,0,none⟩ (.slice A (n -8*(k+1)) (cap -8*(k+1)))) po b2 b3 b off n cap f (k+1) j:=by
 obtain ⟨A0,a,c2,c3,f2⟩:=h.parts;obtain ⟨v,hv,ho,m1,m2,m3⟩:=h.out;refine ⟨h.below.setCell h.h2.1 _,⟨A,hA,gn _ c2,(cell_of_heap (aa (Ne.symm n2)) 0).trans c3,by rw [World.frozen?_setCell];exact f2⟩,⟨v,(cell_of_heap (aa n1) 0).trans hv,ig ho fun q hq=>aa (fun e=>m2 (e▸hq)),m1,m2,m3⟩,by rw [World.frozen?_setCell];exact h.fpo,
  by simpa using h.h1,by simpa using h.h2,by simpa using h.h3⟩
theorem vf.add{w0 W W1 w':World}{po b2 b3 b off n cap:Nat}{f:Nat->Int}{k:Nat}(h:vf w0 W po b2 b3 b off n cap f k k)(n1:po≠b2)(n2:b2≠b3)(n3:po≠b3){v v':Value}(hv:W.cell? ⟨po,0,none⟩=some v)(hb:Below W.heap.size W W1)
  (jM:w'.ownsRow w0.heap.size 259 8 v' (k+1) (Oc f (8*(k+1))))(hg:W1.grownBy w' v.ownBlock)(wU:v'.ownBlock=v.ownBlock\/v'.ownBlock=some W1.heap.size):
  vf w0 (w'.setCell ⟨po,0,none⟩ v') po b2 b3 b off n cap f k (k+1)/\Nt W (w'.setCell ⟨po,0,none⟩ v'):=by
 obtain ⟨v0,YO,ho0,m1,m2,m3⟩:=h.out;obtain rfl:v0=v:=by rw [hv]at YO;cases YO;rfl
 obtain ⟨A0,a,c2,c3,f2⟩:=h.parts;have z1:=hb.size;have z2:=hg.size;have kA:∀g,g<W.heap.size->v0.ownBlock≠some g->w'.heap[g]?=W.heap[g]?:=fun g Ht e=>(hg.block g (by omega) (Ne.symm e)).trans (hb.block g Ht)
 have kB:∀g,g<W.heap.size->v0.ownBlock≠some g->g≠po->(w'.setCell ⟨po,0,none⟩ v').heap[g]?=W.heap[g]?:=fun g Ht e e2=>(aa e2).trans (kA g Ht e)
 have nn:∀g,g<W.heap.size->v0.ownBlock≠some g->v'.ownBlock≠some g:=fun g Ht e e2=>by
  rcases wU with q|q
  . exact e (by rw [<-q];exact e2)
  . rw [q]at e2;cases e2;omega
 have l1:=h.h1;have l2:=h.h2;have l3:=h.h3;refine ⟨⟨?_,h.parts.keep (kB b2 l2.2 m2 (Ne.symm n1)) (kB b3 l3.2 m3 (Ne.symm n3)),⟨v',gn _ ((cell_of_heap (kA po l1.2 m1) 0).trans hv),ig jM fun q hq=>aa (fun e=>nn po l1.2 m1 (e▸hq)),nn po l1.2 m1,nn b2 l2.2 m2,nn b3 l3.2 m3⟩, ?_, ?_, ?_, ?_⟩, ?_⟩
 . exact ((h.below.trans (hb.mono h.below.size)).grown hg (by have:=h.below.size;omega) (fun q e=>(Qf ho0 e).1)).setCell l1.1 _
 . rw [World.frozen?_setCell,frozen_of_heap (kA po l1.2 m1)];exact h.fpo
 . simp only [World.size_setCell];omega
 . simp only [World.size_setCell];omega
 . simp only [World.size_setCell];omega
 . intro q o hq hc;have zb:=(Array.getElem?_eq_some_iff.1 hq).1
   have bc:∀{g},(∃cs t f,W.heap[g]?=some (.cells cs t f))->q≠g:=by
    rintro g ⟨cs,t,f,he⟩ rfl;rw [hq]at he;cases he;cases hc
   rw [kB q zb (fun e=>bc (Uz ho0 e) rfl) (bc (Qk hv))];exact hq
theorem LH:(Tryz.prog.info? 154).map (fun i=>(i.zero,i.size,i.bytes))=some (some (.agg #[.int .i64 0, .int .i64 0, .int .i64 0]),3,24):=by kernel_rfl
abbrev Nm:=Int×Int×Int
def fD(l:List Nm):List Value:=l.flatMap fun p=>[.int .i64 p.1, .int .i64 p.2.1, .int .i64 p.2.2]
theorem pQ(l:List Nm)(a b d:Int):fD (l++[(a,b,d)])=fD l++#[Value.int .i64 a, .int .i64 b, .int .i64 d].toList:=by simp [fD]
theorem LV(l:List Nm):(fD l).length=l.length*3:=by
 induction l with
 |nil=>rfl
 |cons a t ih=>simp only [fD,List.flatMap_cons,List.length_append,List.length_cons,List.length_nil]at*;rw [ih];omega
def iC(n:Nat)(l:List Nm)(W:World)(e:Ending)(W':World):Prop:=∃v,e= .returned v/\Below W.heap.size W W'/\W'.ownsRow W.heap.size 154 3 v n (fD l)
structure Lb(W:World)(c:Array Value)(n:Nat)(l:List Nm)(v:Value)(wr:World):Prop where
 below:Below W.heap.size W wr
 box:wr.heap[W.heap.size]?=some (.cells c 23 (0,0))
 own:wr.ownsRow (W.heap.size+1) 154 3 v n (fD l)
theorem Lb.push{W wr w':World}{c:Array Value}{n:Nat}{l:List Nm}{v v':Value}(h:Lb W c n l v wr)(hv:∀k,v.ownBlock=some k->W.heap.size+1<=k){a b d:Int}
  (ho:w'.ownsRow (W.heap.size+1) 154 3 v' (n+1) (fD l++#[Value.int .i64 a, .int .i64 b, .int .i64 d].toList))(hg:wr.grownBy w' v.ownBlock)(hb:∀B W0,Below B W0 wr->B<=W.heap.size+1->Below B W0 w'):Lb W c (n+1) (l++[(a,b,d)]) v' w':=
 ⟨hb _ _ h.below (by omega),(hg.block _ (Db h.box) (fun e=>by have:=hv _ e.symm;omega)).trans h.box,by rw [pQ];exact ho⟩
theorem XE{w:World}{b b':Nat}{e:TypeId}{size:Nat}{v:Value}{n:Nat}{xs:List Value}(h:w.ownsRow b e size v n xs)(hb:b'<=b):w.ownsRow b' e size v n xs:=by
 refine ⟨h.1, ?_⟩;rcases h.2 with hn|⟨g,cap,cur,hv,h2,rest⟩
 . exact .inl hn
 . exact .inr ⟨g,cap,cur,hv,Nat.le_trans hb h2,rest⟩
def Ld(kind:Int)(k:Nat):List Nm:=(List.range k).map fun(i:Nat)=>(kind,(i:Int),0)
theorem Pp(kind:Int)(k:Nat):Ld kind (k+1)=Ld kind k++[(kind,(k:Int),0)]:=by simp [Ld,List.range_succ]
def Uf(th sl:Nat):List Nm:=[((14:Int),(0:Int),(0:Int)),(15,0,0)]++Ld 16 th++Ld 17 sl
set_option maxRecDepth 100000 in
theorem Vz(th sl:Nat)(Xa bu:Int)(h1:th<=64)(h2:sl<=65536)(W:World):
  Calls Tryz.prog 42 #[.agg #[.int .i64 (th:Int), .int .i64 (sl:Int), .int .i64 Xa, .int .i64 bu]] W (iC (2+th+sl) (Uf th sl) W):=by
 obtain ⟨i64,hi,Nw,Kh,tg⟩:=info_parts LH;obtain ⟨p0,hp0⟩:∃p0:List Nm,p0=[((14:Int),(0:Int),(0:Int)),(15,0,0)]:=⟨_,rfl⟩;unfold Uf;rw [<-hp0];have HP0:=Lib.hid hp0;clear hp0
 go_enter Tryz.func42,Tryz.ntmps42
 go_wp2_with fail
 obtain ⟨c,hc⟩:∃c,c=#[Value.int .i64 (th:Int),Value.int .i64 (sl:Int),Value.int .i64 Xa,Value.int .i64 bu]:=⟨_,rfl⟩;have H0:Hid (Lb W c (2+0) (p0++Ld 16 0) (.slice (some ⟨W.heap.size+1,0,none⟩) 2 2) ((W.alloc (.cells #[.int .i64 (th:Int), .int .i64 (sl:Int), .int .i64 Xa, .int .i64 bu] 23)).alloc (.cells #[.int .i64 14, .int .i64 0, .int .i64 0, .int .i64 15, .int .i64 0, .int .i64 0] 154))):=Lib.hid
  ⟨((Below.refl _ _).alloc (Nat.le_refl _) _).alloc (by simp) _,by rw [hc,Below.heap_alloc _ _ _ (by simp)];exact heap_alloc_new _ _,
    by
     have e:fD (p0++Ld 16 0)=[.int .i64 14, .int .i64 0, .int .i64 0, .int .i64 15, .int .i64 0, .int .i64 0]:=by rw [HP0.out];rfl
     rw [e];exact ⟨rfl, .inr ⟨W.heap.size+1,2,#[.int .i64 14, .int .i64 0, .int .i64 0, .int .i64 15, .int .i64 0, .int .i64 0],rfl,Nat.le_refl _,by
      have:=heap_alloc_new (W.alloc (.cells #[.int .i64 (th:Int), .int .i64 (sl:Int), .int .i64 Xa, .int .i64 bu] 23)) (.cells #[.int .i64 14, .int .i64 0, .int .i64 0, .int .i64 15, .int .i64 0, .int .i64 0] 154);rw [World.size_alloc]at this;exact this,Nat.le_refl _,by unfold maxLen;omega,rfl,rfl⟩⟩⟩
 have JX:=Lib.hid hc;clear hc
 go_loopw [3,4] (fun v i wr=>∃k:Nat,k<=th/\i= .int .i64 k/\Hid (Lb W c (2+k) (p0++Ld 16 k) v wr)) (fun _ i _=>th -(intOf i).toNat)
 case atStart=>exact ⟨0,Nat.zero_le _,rfl,H0⟩
 case round=>
  obtain ⟨k,hk,rfl,HK⟩:=hrel;have cb:wr.cell? ⟨W.heap.size,0,none⟩=some (.int .i64 (th:Int)):=by rw [Oa HK.out.box,JX.out];rfl
  by_cases zb:k<th
  . have d1:decide ((k:Int)<(th:Int))=true:=ea (by omega);obtain ⟨va,vc,rfl⟩:=Ua HK.out.own;have HO:=Lib.hid HK.out.own;have Li:Hid (W.heap.size+1<=wr.heap.size):=Lib.hid (Db HK.out.box);have Ih:=Lib.hid zb;clear zb;obtain ⟨n0,KD⟩:∃n0,n0=2+k:=⟨_,rfl⟩;obtain ⟨l0,Oo⟩:∃l0,l0=p0++Ld 16 k:=⟨_,rfl⟩;rw [<-KD,<-Oo]at HO HK;rw [<-KD];have YE:=Lib.hid KD;have xU:=Lib.hid Oo;clear KD Oo
    go_wp2_with (at_builtin;refine se rfl _ _ 100 rfl (W.heap.size+1) 154 i64 _ 3 24 Tryz.underlying100 hi Nw Kh tg rfl (by decide) wr Li.out (.slice va n0 vc) n0 (fD l0) rfl HO.out #[.int .i64 16, .int .i64 (k:Int), .int .i64 0] 1 1 rfl rfl (by simp [Value.oneCell']) (by have:=YE.out;unfold maxLen;omega) (by have:=YE.out;omega) ?_;intro v' w' Od rn Dg bc;have HP:=Lib.hid (HK.out.push (fun q hq=>(HO.out.lt q hq).1) Od rn Dg);clear Od rn Dg bc)
    go_roundw
    case rel=>exact ⟨k+1,by have:=Ih.out;omega,by go_num,by have h:=HP.out;rw [YE.out,xU.out,List.append_assoc,<-Pp]at h;exact Lib.hid h⟩
    case measure=>have:=Ih.out;simp [intOf];omega
  . obtain rfl:k=th:=by omega
    have d1:decide ((k:Int)<(k:Int))=false:=by simp
    go_wp2
    obtain ⟨m,hm⟩:∃m,m=2+k:=⟨_,rfl⟩;obtain ⟨p1,rO⟩:∃p1,p1=p0++Ld 16 k:=⟨_,rfl⟩;have hM:=HK.out;rw [<-hm,<-rO,show p1=p1++Ld 17 0 by simp [Ld]]at hM;have HM:=Lib.hid hM;clear hM;have KX:=Lib.hid hm;have HP1:=Lib.hid rO;rw [<-hm];clear HK cb hm H0 rO
    go_loopw [3,5] (fun v i wr=>∃q:Nat,q<=sl/\i= .int .i64 q/\Hid (Lb W c (m+q) (p1++Ld 17 q) v wr)) (fun _ i _=>sl -(intOf i).toNat)
    case atStart=>exact ⟨0,Nat.zero_le _,rfl,HM⟩
    case round=>
     obtain ⟨q,hq,rfl,HQ⟩:=hrel;have cb:wr.cell? ⟨W.heap.size,1,none⟩=some (.int .i64 (sl:Int)):=by rw [Oa HQ.out.box,JX.out];rfl
     by_cases zb:q<sl
     . have d1:decide ((q:Int)<(sl:Int))=true:=ea (by omega);obtain ⟨va,vc,rfl⟩:=Ua HQ.out.own;have HO:=Lib.hid HQ.out.own;have Li:Hid (W.heap.size+1<=wr.heap.size):=Lib.hid (Db HQ.out.box);have Ih:=Lib.hid zb;clear zb;obtain ⟨n0,KD⟩:∃n0,n0=m+q:=⟨_,rfl⟩;obtain ⟨l0,Oo⟩:∃l0,l0=p1++Ld 17 q:=⟨_,rfl⟩;rw [<-KD,<-Oo]at HO HQ;rw [<-KD];have YE:=Lib.hid KD;have xU:=Lib.hid Oo;clear KD Oo
       go_wp2_with (at_builtin;refine se rfl _ _ 100 rfl (W.heap.size+1) 154 i64 _ 3 24 Tryz.underlying100 hi Nw Kh tg rfl (by decide) wr Li.out (.slice va n0 vc) n0 (fD l0) rfl HO.out #[.int .i64 17, .int .i64 (q:Int), .int .i64 0] 1 1 rfl rfl (by simp [Value.oneCell']) (by have:=YE.out;have:=KX.out;have:=Ih.out;unfold maxLen;omega) (by have:=YE.out;have:=KX.out;have:=Ih.out;omega) ?_;intro v' w' Od rn Dg bc;have HP:=Lib.hid (HQ.out.push (fun q hq=>(HO.out.lt q hq).1) Od rn Dg);clear Od rn Dg bc)
       go_roundw
       case rel=>exact ⟨q+1,by have:=Ih.out;omega,by go_num,by have h:=HP.out;rw [YE.out,xU.out,List.append_assoc,<-Pp]at h;exact Lib.hid h⟩
       case measure=>have:=Ih.out;simp [intOf];omega
     . obtain rfl:q=sl:=by omega
       have d1:decide ((q:Int)<(q:Int))=false:=by simp
       go_wp2
       go_ret
       exact ⟨_,rfl,HQ.out.below,by rw [<-KX.out,<-HP1.out];exact XE HQ.out.own (Nat.le_succ _)⟩
def Sd(n:Nat):Nat:=(n+7)/8*8
def Td(k:Nat):List Nm:=List.replicate k (0,0,0)
theorem ZE(k:Nat):Td (k+1)=Td k++[(0,0,0)]:=List.replicate_succ'
def Jc(n:Nat)(l:List Nm):List Nm:=l++Td (Sd n -n)
def qQ(W:World)(c:Array Value)(n:Nat)(l:List Nm)(e:Ending)(w':World):Prop:=∃v',e= .returned v'/\Lb W c (Sd n) (Jc n l) v' w'
set_option maxRecDepth 100000 in
theorem Zq(W:World)(c:Array Value)(n:Nat)(hn:n<=1000000)(l:List Nm)(v:Value)(w:World)(h:Lb W c n l v w):Calls Tryz.prog 101 #[v] w (qQ W c n l):=by
 obtain ⟨i64,hi,Nw,Kh,tg⟩:=info_parts LH;have H0:Hid (Lb W c n (l++Td (n -n)) v w):=Lib.hid (by rw [Nat.sub_self,show Td 0=[]from rfl,List.append_nil];exact h);have HU:Hid (n<=Sd n/\Sd n<=1000008/\Sd n %8=0/\Sd n<n+8):=Lib.hid (by unfold Sd;omega);clear h;unfold qQ Jc;generalize Sd n=u at*
 go_enter Tryz.func101,Tryz.ntmps101
 go_wp2_with fail
 go_loopg [0] (u -n) (fun g v wr=>∃k:Nat,k+g=u/\n<=k/\Hid (Lb W c k (l++Td (k -n)) v wr))
 case atStart=>exact ⟨n,by have:=HU.out;omega,Nat.le_refl _,H0⟩
 case round=>
  obtain ⟨k,hk,hnk,HK⟩:=hrel;obtain ⟨va,vc,rfl⟩:=Ua HK.out.own;have HO:=Lib.hid HK.out.own;have Li:Hid (W.heap.size+1<=wr.heap.size):=Lib.hid (Db HK.out.box);have HKU:Hid (k+gk=u/\n<=k):=Lib.hid ⟨hk,hnk⟩;clear hk hnk;obtain ⟨l0,Oo⟩:∃l0,l0=l++Td (k -n):=⟨_,rfl⟩;rw [<-Oo]at HO HK;have xU:=Lib.hid Oo;clear Oo;by_cases zb:k %8=0
  . have d1:((k:Int) %8==0)=true:=by rw [beq_iff_eq];omega
    have d2:((k:Int) %8 != 0)=false:=by simp [bne,d1]
    have Ih:=Lib.hid zb;clear zb
    go_wp2_with fail
    obtain rfl:k=u:=by have:=HKU.out;have:=HU.out;have:=Ih.out;omega
    go_ret
    exact ⟨_,rfl,by rw [<-xU.out];exact HK.out⟩
  . have d1:((k:Int) %8==0)=false:=by rw [beq_eq_false_iff_ne];omega
    have d2:((k:Int) %8 != 0)=true:=by simp [bne,d1]
    have Ih:Hid (k<u):=Lib.hid (by have:=HKU.out;have:=HU.out;omega);clear zb
    go_wp2_with (at_builtin;refine se rfl _ _ 100 rfl (W.heap.size+1) 154 i64 _ 3 24 Tryz.underlying100 hi Nw Kh tg rfl (by decide) wr Li.out (.slice va k vc) k (fD l0) rfl HO.out #[.int .i64 0, .int .i64 0, .int .i64 0] 1 1 rfl rfl (by simp [Value.oneCell']) (by have:=Ih.out;have:=HU.out;unfold maxLen;omega) (by have:=Ih.out;have:=HU.out;omega) ?_;intro v' w' Od rn Dg bc;have HP:=Lib.hid (HK.out.push (fun q hq=>(HO.out.lt q hq).1) Od rn Dg);clear Od rn Dg bc)
    go_roundg (gk -1)
    case rel=>exact ⟨k+1,by have:=HKU.out;have:=Ih.out;omega,by have:=HKU.out;omega,by have h:=HP.out;rw [xU.out,List.append_assoc,<-ZE,show k -n+1=k+1 -n by have:=HKU.out;omega]at h;exact Lib.hid h⟩
    case measure=>have:=HKU.out;have:=Ih.out;omega
end Go.Proofs.YtfnkmolffhfpoaaGreat
