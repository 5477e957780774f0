/- -/
import Derived.Test.YtfnkmolffhfpoaaGreatHp14
set_option linter.unusedVariables false
set_option linter.unusedSimpArgs false
namespace Go.Proofs.YtfnkmolffhfpoaaGreat
open Go.RowKit Go.BigFrame
theorem rv(M:Mv)(x:Acc)(f:Nat)(lb:Array Value)(nw:Int)(pu:Bool)(ef:∀args w,(callFunc f args).run Tryz.prog w= .ok (.enter f args) w)(W:World)(h:Ga W M)(hc:M.ck<=1000000)(q0:-9223372036854775808<=x.pl)(q1:x.pl<=9223372036854775807)
  (hf:∀w1,Below W.heap.size W w1->Calls Tryz.prog f (#[.int .u64 (M.Ua x.pl).1]++lb) w1 (Wi (.tuple #[.int .u64 nw, .bool pu]) w1)):
  Calls Tryz.prog 106 #[.pointer (some ⟨M.m,0,none⟩), .agg x.cells, .func (.func f) #[] lb] W (rp M (M.Ye x nw pu) (.agg (M.res x pu).cells) W):=by
 unfold Mv.Ye Mv.res;by_cases hp:(M.Ua x.pl).2=true
 . rw [if_pos hp,hp];cases pu
   . exact ZC M x f lb nw ef W h hc q0 q1 hp hf
   . exact PF M x f lb nw ef W h hc q0 q1 hp hf
 . have UK:(M.Ua x.pl).2=false:=by simpa using hp
   rw [if_neg hp,UK];exact NO M x _ W h hc q0 q1 UK
def Mv.load(M:Mv)(t at_:Int):Mv:=M.Ye ⟨1,t,at_,0,0,false⟩ 0 false
def Mv.store(M:Mv)(t at_ w:Int):Mv:=M.Ye ⟨2,t,at_,0,w,false⟩ w true
def Mv.swap(M:Mv)(t at_ old w:Int):Mv:=M.Ye ⟨3,t,at_,0,w,false⟩ w ((M.Ua at_).1==old)
theorem Mv.Bj(M:Mv)(x:Acc)(nw:Int)(pu:Bool):(M.Ye x nw pu).own=M.own:=by
 unfold Mv.Ye;split
 . exact Mv.nL M _ _
 . rfl
theorem pZ{M:Mv}{at_:Int}(h:(M.Ua at_).2=false):(M.Ua at_).1=0:=by
 unfold Mv.Ua Je at*;by_cases h0:0<=at_<;>by_cases h1:at_/8<(M.n:Int)<;>by_cases h2:-1 -at_<(M.np:Int)<;>simp [h0,h1,h2]at h⊢
theorem Raf(M:Mv)(x:Acc)(h:x.ol=0)(pu:Bool):(M.res x pu).ol=(M.Ua x.pl).1:=by
 unfold Mv.res;by_cases hp:(M.Ua x.pl).2=true
 . rw [if_pos hp]
 . rw [if_neg hp,h,pZ (by simpa using hp)]
set_option maxRecDepth 100000 in
theorem JS(M:Mv)(t at_:Int)(q0:-9223372036854775808<=at_)(q1:at_<=9223372036854775807)(W:World)(h:Ga W M)(hc:M.ck<=1000000):
  Calls Tryz.prog 64 #[.pointer (some ⟨M.m,0,none⟩), .int .i64 t, .int .i64 at_] W (rp M (M.load t at_) (.int .u64 (M.Ua at_).1) W):=by
 have H:=Lib.hid (rv M ⟨1,t,at_,0,0,false⟩ 168 #[] 0 false (Ca Tryz.func168 (by kernel_rfl) rfl) W h hc q0 q1 (fun w1 _=>lZ _ w1));have HO:=Lib.hid (Raf M ⟨1,t,at_,0,0,false⟩ rfl false);have hO:∀k,(M.load t at_).own k->M.own k:=fun k hk=>by unfold Mv.load at hk;rw [Mv.Bj]at hk;exact hk
 unfold Mv.load at*;generalize M.Ye ⟨1,t,at_,0,0,false⟩ 0 false=N at*;generalize M.res ⟨1,t,at_,0,0,false⟩ false=r at*;obtain ⟨o,ho⟩:∃o,o=(M.Ua at_).1:=⟨_,rfl⟩
 have HO2:Hid (r.ol=o):=Lib.hid (by rw [ho];exact HO.out);rw [<-ho];obtain ⟨ki,th,pl,ol,ne,dn⟩:=r;simp only [Acc.cells]at*;have HO3:Hid (ol=o):=HO2;have HH:=Lib.hid h;have HL:=Lib.hid hO;clear HO HO2 ho h hO
 go_enter Tryz.func64,Tryz.ntmps64
 go_wp2_with fail
 refine H.out.mono ?_
 rintro e w1 ⟨rfl,hm,ht⟩;have HM:=Lib.hid hm;have HT:=Lib.hid ht;clear hm ht
 go_wp2_with fail
 go_ret
 exact ⟨Vi (by rw [HO3.out];rfl),HM.out.below ((Below.refl _ _).alloc (Nat.le_refl _) _),HT.out.alloc _⟩
set_option maxRecDepth 100000 in
theorem oL(M:Mv)(t at_ v:Int)(q0:-9223372036854775808<=at_)(q1:at_<=9223372036854775807)(W:World)(h:Ga W M)(hc:M.ck<=1000000):
  Calls Tryz.prog 46 #[.pointer (some ⟨M.m,0,none⟩), .int .i64 t, .int .i64 at_, .int .u64 v] W (Xq M (M.store t at_ v) W):=by
 have H:Hid (∀o,Calls Tryz.prog 106 #[.pointer (some ⟨M.m,0,none⟩), .agg (Acc.cells ⟨2,t,at_,0,v,false⟩), .func (.func 107) #[] #[.pointer (some ⟨W.heap.size,0,none⟩)]] (W.alloc (.cells #[.int .u64 v] o)) (rp M (M.store t at_ v) (.agg (M.res ⟨2,t,at_,0,v,false⟩ true).cells) (W.alloc (.cells #[.int .u64 v] o)))):=Lib.hid fun o=>by
  refine rv M ⟨2,t,at_,0,v,false⟩ 107 _ v true (Ca Tryz.func107 (by kernel_rfl) rfl) _ (h.below ((Below.refl _ _).alloc (Nat.le_refl _) _)) hc q0 q1 (fun w1 hb=> ?_);exact LF _ v W.heap.size w1 ((hb.cell (p:=⟨W.heap.size,0,none⟩) (by simp)).trans (cell_of_row _ _ 0 _ _ _ (heap_alloc_new W _)))
 generalize M.store t at_ v=N at*;generalize M.res ⟨2,t,at_,0,v,false⟩ true=r at*;simp only [Acc.cells]at*;clear h
 go_enter Tryz.func46,Tryz.ntmps46
 go_wp2_with fail
 refine (H.out _).mono ?_
 rintro e w1 ⟨rfl,hm,ht⟩;have HM:=Lib.hid hm;have HT:=Lib.hid ht;clear hm ht
 go_wp2_with fail
 go_end0
 exact ⟨⟨_,rfl⟩,HM.out,((Ja.refl _ _).alloc _).trans HT.out (fun _ _ h=>h)⟩
set_option maxRecDepth 100000 in
theorem KS(M:Mv)(t at_ old v:Int)(q0:-9223372036854775808<=at_)(q1:at_<=9223372036854775807)(W:World)(h:Ga W M)(hc:M.ck<=1000000):
  Calls Tryz.prog 65 #[.pointer (some ⟨M.m,0,none⟩), .int .i64 t, .int .i64 at_, .int .u64 old, .int .u64 v] W (rp M (M.swap t at_ old v) (.bool (M.swap t at_ old v).la.dn) W):=by
 have H:Hid (∀o o',Calls Tryz.prog 106 #[.pointer (some ⟨M.m,0,none⟩), .agg (Acc.cells ⟨3,t,at_,0,v,false⟩), .func (.func 169) #[] #[.pointer (some ⟨W.heap.size+1,0,none⟩), .pointer (some ⟨W.heap.size,0,none⟩)]] ((W.alloc (.cells #[.int .u64 old] o)).alloc (.cells #[.int .u64 v] o')) (rp M (M.swap t at_ old v) (.agg (M.res ⟨3,t,at_,0,v,false⟩ ((M.Ua at_).1==old)).cells) ((W.alloc (.cells #[.int .u64 old] o)).alloc (.cells #[.int .u64 v] o')))):=Lib.hid fun o o'=>by
  refine rv M ⟨3,t,at_,0,v,false⟩ 169 _ v _ (Ca Tryz.func169 (by kernel_rfl) rfl) _ (h.below (((Below.refl _ _).alloc (Nat.le_refl _) _).alloc (by simp) _)) hc q0 q1 (fun w1 hb=> ?_);have e:=Yd W (.cells #[.int .u64 old] o) (.cells #[.int .u64 v] o');exact mZ _ v old (W.heap.size+1) W.heap.size w1 ((hb.cell (p:=⟨W.heap.size+1,0,none⟩) (by simp)).trans (cell_of_row _ _ 0 _ _ _ e.2)) ((hb.cell (p:=⟨W.heap.size,0,none⟩) (by simp;omega)).trans (cell_of_row _ _ 0 _ _ _ e.1))
 have HO:Hid ((M.swap t at_ old v).la=M.res ⟨3,t,at_,0,v,false⟩ ((M.Ua at_).1==old)):=Lib.hid rfl;generalize M.swap t at_ old v=N at*;generalize M.res ⟨3,t,at_,0,v,false⟩ ((M.Ua at_).1==old)=r at*;obtain ⟨y,hy⟩:∃y,y=N.la.dn:=⟨_,rfl⟩;have HY:Hid (r.dn=y):=Lib.hid (by rw [hy,HO.out]);rw [<-hy];obtain ⟨ki,th,pl,ol,ne,dn⟩:=r;simp only [Acc.cells]at*;have HY2:Hid (dn=y):=HY;clear h HO HY hy
 go_enter Tryz.func65,Tryz.ntmps65
 go_wp2_with fail
 refine (H.out _ _).mono ?_
 rintro e w1 ⟨rfl,hm,ht⟩;have HM:=Lib.hid hm;have HT:=Lib.hid ht;clear hm ht
 go_wp2_with fail
 go_ret
 exact ⟨Vi (by rw [HY2.out];rfl),HM.out.below ((Below.refl _ _).alloc (Nat.le_refl _) _),((((Ja.refl _ _).alloc _).alloc _).trans HT.out (fun _ _ h=>h)).alloc _⟩
theorem OO{l:List Int}{i:Nat}{x y:Int}(h:y∈Di l i x):y=x\/y∈l:=by
 unfold Di at h;rw [List.mem_append,List.mem_cons]at h;rcases h with h|h|h
 . exact Or.inr (List.mem_of_mem_take h)
 . exact Or.inl h
 . exact Or.inr (List.mem_of_mem_drop h)
theorem PO{l:List Int}{i:Nat}{x y:Int}:y∈Di l i x<->y=x\/y∈l:=by
 constructor
 . exact OO
 . intro h;unfold Di;rw [List.mem_append,List.mem_cons];rcases h with rfl|h
   . exact Or.inr (Or.inl rfl)
   . rw [<-List.take_append_drop i l,List.mem_append]at h;rcases h with h|h
     . exact Or.inl h
     . exact Or.inr (Or.inr h)
theorem QF(l:List Int)(x:Int)(hs:l.Pairwise (·<·)):(∀y∈l.take (l.countP (·<x)),y<x)/\(∀y∈l.drop (l.countP (·<x)),x<=y):=by
 induction l with
 |nil=>simp
 |cons a l ih=>
  obtain ⟨h1,h2⟩:=List.pairwise_cons.1 hs
  obtain ⟨i1,i2⟩:=ih h2;by_cases ha:a<x
  . rw [List.countP_cons_of_pos (by simpa using ha),List.take_succ_cons,List.drop_succ_cons];refine ⟨fun y hy=> ?_,i2⟩;rcases List.mem_cons.1 hy with rfl|hy
    . exact ha
    . exact i1 y hy
  . have:l.countP (·<x)=0:=by
     rw [List.countP_eq_zero];intro y hy;have:=h1 y hy;simp;omega
    rw [List.countP_cons_of_neg (by simpa using ha),this];refine ⟨by simp,fun y hy=> ?_⟩;simp at hy;rcases hy with rfl|hy
    . omega
    . have:=h1 y hy;omega
theorem RF{l:List Int}{x y:Int}:y∈bx l x<->y=x\/y∈l:=by
 unfold bx
 split
 . rename_i h;have:x∈l:=by simpa using h
   constructor
   . exact Or.inr
   . rintro (rfl|h)
     . exact this
     . exact h
 . exact PO
theorem QO{l:List Int}{x:Int}(hs:l.Pairwise (·<·)):(bx l x).Pairwise (·<·):=by
 unfold bx
 split
 . exact hs
 . rename_i h;have hx:x∉l:=by simpa using h
   obtain ⟨h1,h2⟩:=QF l x hs;unfold Di;rw [List.pairwise_append];refine ⟨hs.sublist (List.take_sublist _ _), ?_, ?_⟩
   . rw [List.pairwise_cons];refine ⟨fun y hy=> ?_,hs.sublist (List.drop_sublist _ _)⟩;have:=h2 y hy;have:y≠x:=fun e=>hx (e▸List.mem_of_mem_drop hy)
     omega
   . intro y hy z hz;have a:=h1 y hy;rcases List.mem_cons.1 hz with rfl|hz
     . exact a
     . have:=h2 z hz;omega
theorem SF:∀(l:List Int) (n:Nat) (a:Int),l.Pairwise (·<·)->(∀x∈l,a<=x/\x<n)->a<=n->(l.length:Int)<=n -a
 |[],n,a,_,_,h=>by simp;omega
 |x::l,n,a,hs,h,hn=>by
  obtain ⟨h1,h2⟩:=List.pairwise_cons.1 hs
  have hx:=h x (by simp);have:=SF l n (x+1) h2 (fun y hy=>by have:=h1 y hy;have:=h y (by simp [hy]);omega) (by omega);simp;omega
theorem Ga.LS{W:World}{M:Mv}(h:Ga W M){t:Nat}(ht:t<M.nt):(M.fl t).length<=M.n:=by
 have:=SF (M.fl t) M.n 0 (h.SI t ht) (h.inn t ht) (by omega);omega
theorem Ga.Ps{W W1:World}{M:Mv}(h:Ga W M){t:Nat}(ht:t<M.nt){v':Value}{l':List Int}(hT:Ja (fun k=>(M.fv t).ownBlock=some k) W W1)(hl:lg W1 v' l')(hv:∀g,v'.ownBlock=some g->(M.fv t).ownBlock=some g\/W.heap.size<=g)
  (hs:l'.Pairwise (·<·))(hi:∀x∈l',0<=x/\x<M.n):
  Ga (W1.setCell ⟨M.fb,t,none⟩ v') {M with fl:=nd M.fl t l',fv:=nd M.fv t v'}/\Ja M.own W (W1.setCell ⟨M.fb,t,none⟩ v')/\∀k,({M with fl:=nd M.fl t l',fv:=nd M.fv t v'}:Mv).own k->M.own k\/W.heap.size<=k:=by
 have n:=h.ne;have o1:∀k,k∈M.blocks->W1.heap[k]?=W.heap[k]?:=fun k hk=>hT.block k (h.lt (Or.inl hk)) fun e=>h.alone t ht k e hk
 have o:∀k,k∈M.blocks->k≠M.fb->(W1.setCell ⟨M.fb,t,none⟩ v').heap[k]?=W.heap[k]?:=fun k hk e=>(aa e).trans (o1 k hk)
 have cY:M.fb∈M.blocks:=by simp [Mv.blocks]
 have rL:M.fb<W.heap.size:=h.lt (Or.inl cY);refine ⟨?_, ?_, ?_⟩
 . exact {h with
    row:=(o _ (by simp [Mv.blocks]) n.mf).trans h.row
    dev:=(o _ (by simp [Mv.blocks]) n.df).trans h.dev
    kept:=h.kept.keep (o _ (by simp [Mv.blocks]) n.kf)
    seen:=h.seen.keep (o _ (by simp [Mv.blocks]) n.sf)
    wr:=h.wr.keep (o _ (by simp [Mv.blocks]) n.wf)
    fb:=(h.fb.keep (o1 _ cY)).set t v'
    pass:=h.pass.keep (o _ (by simp [Mv.blocks]) (Ne.symm n.fp))
    fl:=fun t' um=>by
     show lg _ (nd M.fv t v' t') (nd M.fl t l' t')
     by_cases e:t'=t
     . subst e;rw [Wb,Wb];refine hl.keep fun g hg=>aa fun e=> ?_
       rcases hv g hg with h1|h1
       . exact h.alone _ ht g h1 (e▸cY)
       . omega
     . rw [Kb _ _ e,Kb _ _ e];refine (h.fl t' um).keep fun g hg=> ?_
       rw [aa (fun(e':g=M.fb)=>h.alone t' um g hg (e'▸cY))];exact hT.block g ((h.fl t' um).lt hg) fun e'=>h.lone t ht t' um (Ne.symm e) g e' hg
    alone:=fun t' um g hg hb=>by
     have hg:(nd M.fv t v' t').ownBlock=some g:=hg
     have hb:g∈M.blocks:=hb;by_cases e:t'=t
     . subst e;rw [Wb]at hg;rcases hv g hg with h1|h1
       . exact h.alone _ ht g h1 hb
       . have:=h.lt (Or.inl hb);omega
     . rw [Kb _ _ e]at hg;exact h.alone t' um g hg hb
    lone:=fun a ha b hb hab g hg0 Vz=>by
     have hg:(nd M.fv t v' a).ownBlock=some g:=hg0
     have du:(nd M.fv t v' b).ownBlock=some g:=Vz
     have ha:a<M.nt:=ha;have hb:b<M.nt:=hb;clear hg0 Vz;by_cases e:a=t
     . rw [e,Wb]at hg;rw [Kb _ _ (fun e'=>hab (e.trans e'.symm))]at du;rcases hv g hg with h1|h1
       . exact h.lone _ ht b hb (fun e'=>hab (e.trans e')) g h1 du
       . have:=(h.fl b hb).lt du;omega
     . rw [Kb _ _ e]at hg;by_cases e':b=t
       . rw [e',Wb]at du;rcases hv g du with h1|h1
         . exact h.lone a ha _ ht e g hg h1
         . have:=(h.fl a ha).lt hg;omega
       . rw [Kb _ _ e']at du;exact h.lone a ha b hb hab g hg du
    SI:=fun t' um=>by
     show(nd M.fl t l' t').Pairwise (·<·)
     by_cases e:t'=t
     . subst e;rw [Wb];exact hs
     . rw [Kb _ _ e];exact h.SI t' um
    inn:=fun t' um=>by
     show∀x∈nd M.fl t l' t',0<=x/\x<M.n
     by_cases e:t'=t
     . subst e;rw [Wb];exact hi
     . rw [Kb _ _ e];exact h.inn t' um}
 . exact (hT.mono fun k _ e=>Or.inr ⟨t,ht,e⟩).set (fun _=>Or.inl cY) _ _
 . rintro k (hk|⟨t',um,hk⟩)
   . exact Or.inl (Or.inl hk)
   . have hk:(nd M.fv t v' t').ownBlock=some k:=hk
     by_cases e:t'=t
     . subst e;rw [Wb]at hk;rcases hv k hk with h1|h1
       . exact Or.inl (Or.inr ⟨_,ht,h1⟩)
       . exact Or.inr h1
     . rw [Kb _ _ e]at hk;exact Or.inl (Or.inr ⟨t',um,hk⟩)
def Se(M M':Mv)(W W':World):Prop:=Ga W' M'/\Ja M.own W W'/\∀k,M'.own k->M.own k\/W.heap.size<=k
theorem Se.trans{M M' M'':Mv}{W W' W'':World}(h:Se M M' W W')(k:Se M' M'' W' W''):Se M M'' W W'':=by
 have hs:=h.2.1.size
 refine ⟨k.1,h.2.1.trans k.2.1 fun i hi e=> ?_,fun i e=> ?_⟩
 . rcases h.2.2 i e with h1|h1
   . exact h1
   . omega
 . rcases k.2.2 i e with h1|h1
   . exact h.2.2 i h1
   . exact Or.inr (by omega)
theorem Se.below{M M':Mv}{W W' W'':World}(h:Se M M' W W')(k:Below W'.heap.size W' W''):Se M M' W W'':=
 ⟨h.1.below k,h.2.1.trans (Ja.jc k) (fun _ _ h=>h),h.2.2⟩
theorem Se.refl{M:Mv}{W:World}(h:Ga W M):Se M M W W:=⟨h,Ja.refl _ _,fun _ h=>Or.inl h⟩
def Mv.Nb(M:Mv)(t l:Int):Int:=if Hb M.nt t=0 then Rh M.n l else 1
def Mv.Rc(M:Mv)(t l:Int)(v:Value):Mv:={M with fl:=nd M.fl t.toNat (bx (M.fl t.toNat) l),fv:=nd M.fv t.toNat v}
def Yq(M:Mv)(t l:Int)(W:World)(e:Ending)(W':World):Prop:=
 e= .returned (.int .i64 (M.Nb t l))/\(M.Nb t l≠0/\Se M M W W'\/M.Nb t l=0/\∃v,Se M (M.Rc t l v) W W')
theorem WI(M:Mv)(t l:Int)(W:World)(h:Ga W M)(hn:M.Nb t l≠0):
  Calls Tryz.prog 171 #[.pointer (some ⟨M.d,0,none⟩), .int .i64 t, .int .i64 l] W (Yq M t l W):=by
 have HT:=Lib.hid (Wq M.d (some ⟨M.fb,0,none⟩) M.nt M.c3 t W (by rw [Wa h.dev];rfl));have HL:=Lib.hid (Ns M.d (some ⟨M.sb,0,none⟩) M.n M.c1 l W (by rw [Wa h.dev];rfl));have HM:=Lib.hid h;have HN:=Lib.hid hn;unfold Mv.Nb at hn;by_cases h0:Hb M.nt t=0
 . rw [if_pos h0]at hn;have e5:Rh M.n l=5:=by unfold Rh at*;split at hn<;>simp_all
   have eF:M.Nb t l=5:=by unfold Mv.Nb;rw [if_pos h0];exact e5
   have HE:Hid (M.Nb t l=5):=Lib.hid eF;rw [h0]at HT;rw [e5]at HL;clear h hn h0 e5 eF
   go_enter Tryz.func171,Tryz.ntmps171
   go_wp2_with fail
   refine HT.out.mono ?_
   rintro e w ⟨rfl,hw⟩;cases hw
   go_wp2_with fail
   refine HL.out.mono ?_
   rintro e w ⟨rfl,hw⟩;cases hw
   go_wp2_with fail
   go_ret
   exact ⟨by rw [HE.out];rfl,Or.inl ⟨HN.out,Se.refl HM.out⟩⟩
 . have e1:Hb M.nt t=1:=by unfold Hb at*;split at h0<;>simp_all
   have eF:M.Nb t l=1:=by unfold Mv.Nb;rw [if_neg h0]
   have HE:Hid (M.Nb t l=1):=Lib.hid eF;rw [e1]at HT;clear h hn h0 e1 eF
   go_enter Tryz.func171,Tryz.ntmps171
   go_wp2_with fail
   refine HT.out.mono ?_
   rintro e w ⟨rfl,hw⟩;cases hw
   go_wp2_with fail
   go_ret
   exact ⟨by rw [HE.out];rfl,Or.inl ⟨HN.out,Se.refl HM.out⟩⟩
theorem Lap(M:Mv)(t:Nat)(ht:t<M.nt)(l:Int)(h0:0<=l)(h1:l<M.n)(W:World)(h:Ga W M):
  Calls Tryz.prog 256 #[.pointer (some ⟨M.fb,t,none⟩), .int .i64 l] W (fun e W'=>(∃u,e= .returned u)/\∃v,Se M (M.Rc t l v) W W'):=by
 have hl:=h.LS ht;have hn:=h.n1;have Bg:∀x∈bx (M.fl t) l,0<=x/\x<M.n:=fun x hx=>by
  rcases RF.1 hx with rfl|hx
  . exact ⟨h0,h1⟩
  . exact h.inn t ht x hx
 have hr:=QO (x:=l) (h.SI t ht);unfold Mv.Rc;rw [Int.toNat_natCast];by_cases hx:(M.fl t).contains l=true
 . have e:bx (M.fl t) l=M.fl t:=by unfold bx;rw [if_pos hx]
   refine (GS M.fb t (M.fv t) (M.fl t) l W (by omega) (h.fb.cell ht) (h.fl t ht) (h.SI t ht) hx).mono ?_
   rintro e' W' ⟨hu,hb,hh⟩;refine ⟨hu,M.fv t, ?_⟩;rw [e];have e1:nd M.fl t (M.fl t)=M.fl:=by funext k;unfold nd;split<;>simp_all
   have e2:nd M.fv t (M.fv t)=M.fv:=by funext k;unfold nd;split<;>simp_all
   rw [e1,e2];exact (Se.refl h).below hb
 . have RO:(M.fl t).contains l=false:=by simpa using hx
   have e:bx (M.fl t) l=Di (M.fl t) ((M.fl t).countP (·<l)) l:=by unfold bx;rw [if_neg hx]
   refine (LO M.fb t (M.fv t) (M.fl t) l W (by omega) (h.fb.cell ht) (h.fb.free t) h.fb.lt (fun e=>h.alone t ht _ e (by simp [Mv.blocks])) (h.fl t ht) (h.SI t ht) RO).mono ?_
   rintro e' W' ⟨hu,v',W1,hT,hL,hv,rfl⟩;rw [<-e]at hL;obtain ⟨a,b,c⟩:=h.Ps ht hT hL hv hr Bg;exact ⟨hu,v',a,b,c⟩
set_option maxRecDepth 100000 in
theorem TF(M:Mv)(t l:Int)(W:World)(h:Ga W M)(hn:M.Nb t l=0):
  Calls Tryz.prog 171 #[.pointer (some ⟨M.d,0,none⟩), .int .i64 t, .int .i64 l] W (Yq M t l W):=by
 have HT:=Lib.hid (Wq M.d (some ⟨M.fb,0,none⟩) M.nt M.c3 t W (by rw [Wa h.dev];rfl));have HL:=Lib.hid (Ns M.d (some ⟨M.sb,0,none⟩) M.n M.c1 l W (by rw [Wa h.dev];rfl));have HN:=Lib.hid hn;unfold Mv.Nb at hn;have h0:Hb M.nt t=0:=by by_cases h0:Hb M.nt t=0;exact h0;rw [if_neg h0]at hn;cases hn
 rw [if_pos h0]at hn;rw [h0]at HT;rw [hn]at HL;unfold Hb at h0;unfold Rh at hn;have a0:0<=t/\t<M.nt:=by split at h0;cases h0;omega
 have a1:0<=l/\l<M.n:=by split at hn;cases hn;omega
 obtain ⟨k,rfl⟩:=Int.eq_ofNat_of_zero_le a0.1
 have b0:(0:Int)<=(k:Int):=by omega
 have b1:(k:Int)<(M.nt:Int):=a0.2
 have HP:=Lib.hid (Lap M k (by omega) l a1.1 a1.2 W h);have hd:W.cell? ⟨M.d,3,none⟩=some (.slice (some ⟨M.fb,0,none⟩) M.nt M.c3):=by rw [Wa h.dev];rfl
 clear h hn h0 a0 a1
 go_enter Tryz.func171,Tryz.ntmps171
 go_wp2_with fail
 refine HT.out.mono ?_
 rintro e w ⟨rfl,hw⟩;cases hw
 go_wp2_with fail
 refine HL.out.mono ?_
 rintro e w ⟨rfl,hw⟩;cases hw
 go_wp2_with fail
 refine HP.out.mono ?_
 rintro e w ⟨⟨u,rfl⟩,hv⟩;have HV:=Lib.hid hv;clear hv
 go_wp2_with fail
 go_ret
 exact ⟨by rw [HN.out];rfl,Or.inr ⟨HN.out,HV.out⟩⟩
theorem sL(M:Mv)(t l:Int)(W:World)(h:Ga W M):
  Calls Tryz.prog 171 #[.pointer (some ⟨M.d,0,none⟩), .int .i64 t, .int .i64 l] W (Yq M t l W):=by
 by_cases hn:M.Nb t l=0
 . exact TF M t l W h hn
 . exact WI M t l W h hn
theorem tb.dA{W:World}{b n:Nat}{f:Nat->Value}(h:tb W b n f)(o:Nat)(l:Nat->Int):tb (dA W b o l) b n (fun k=>if o<=k/\k<o+8 then .int .u64 (l (k -o))else f k):=by
 refine ((((((((h.set o (.int .u64 (l 0))).set (o+1) (.int .u64 (l 1))).set (o+2) (.int .u64 (l 2))).set (o+3) (.int .u64 (l 3))).set (o+4) (.int .u64 (l 4))).set (o+5) (.int .u64 (l 5))).set (o+6) (.int .u64 (l 6))).set (o+7) (.int .u64 (l 7))).congr fun k _=> ?_
 by_cases hk:o<=k/\k<o+8
 . rw [if_pos hk];obtain ⟨j,rfl⟩:∃j,k=o+j:=⟨k -o,by omega⟩;have hj:j<8:=by omega
   rw [show o+j -o=j by omega];have c:j=0\/j=1\/j=2\/j=3\/j=4\/j=5\/j=6\/j=7:=by omega
   rcases c with rfl|rfl|rfl|rfl|rfl|rfl|rfl|rfl<;>simp [nd]
 . rw [if_neg hk];have:∀j,j<8->k≠o+j:=fun j hj=>by omega
   unfold nd;rw [if_neg (this 7 (by omega)),if_neg (this 6 (by omega)),if_neg (this 5 (by omega)),if_neg (this 4 (by omega)),if_neg (this 3 (by omega)),if_neg (this 2 (by omega)),if_neg (this 1 (by omega)),if_neg (show k≠o by omega)]
theorem SO{F:Nat->Prop}{a w:World}(h:Ja F a w){b:Nat}(hb:b<a.heap.size->F b)(o:Nat)(l:Nat->Int):Ja F a (dA w b o l):=by
 unfold dA;exact (((((((h.set hb _ _).set hb _ _).set hb _ _).set hb _ _).set hb _ _).set hb _ _).set hb _ _).set hb _ _
def Mv.Zq(M:Mv)(i:Nat):Mv:={M with kept:=fun k=>if k/8=i then M.seen k else M.kept k,wr:=nd M.wr i (M.wr i+1)}
theorem tL(M:Mv)(i:Nat)(hi:i<M.n)(W:World)(h:Ga W M)(hw:M.wr i<M.wm)(hm:M.wm<=1000000):
  Calls Tryz.prog 174 #[.pointer (some ⟨M.d,0,none⟩), .int .i64 i] W (Xq M (M.Zq i) W):=by
 have n:=h.ne;have hw0:=h.ZA i hi;refine (Naf M.d M.kb M.sb M.wb M.n M.c0 M.c1 M.c2 h.n1 i hi (fun r=>M.kept (i*8+r)) (fun r=>M.seen (i*8+r)) (M.wr i) hw0.1 (by omega) W (by rw [Wa h.dev];rfl) (by rw [Wa h.dev];rfl) (by rw [Wa h.dev];rfl)
  (fun r hr=>h.kept.cell (by omega)) (fun r hr=>h.seen.cell (by omega)) (h.wr.cell hi) h.kept.free h.wr.free (Ne.symm n.dk) (Ne.symm n.kw) (Ne.symm n.dw) (Ne.symm n.ks)).mono ?_
 rintro e W' ⟨hx,w1,⟨hh,hb⟩,rfl⟩;have hT:Ja M.own W w1:=(SO (Ja.refl _ W) (fun _=>Or.inl (by simp [Mv.blocks])) _ _).trans (Ja.jc hb) (fun _ _ h=>h)
 have o1:∀k,k≠M.kb->w1.heap[k]?=W.heap[k]?:=fun k hk=>by rw [hh];exact Eo hk
 have o:∀k,k≠M.kb->k≠M.wb->(w1.setCell ⟨M.wb,i,none⟩ (.int .i64 (M.wr i+1))).heap[k]?=W.heap[k]?:=fun k hk e=>(aa e).trans (o1 k hk)
 refine ⟨hx, ?_,hT.set (fun _=>Or.inl (by simp [Mv.blocks])) _ _⟩;exact {h with
  row:=(o _ n.mkb n.mw).trans h.row
  dev:=(o _ n.dk n.dw).trans h.dev
  kept:=by
   refine tb.keep (W:=w1) ?_ (aa n.kw)
   refine tb.congr (tb.keep (h.kept.dA (i*8) (fun r=>M.seen (i*8+r))) (by rw [hh])) fun k hk=> ?_
   show _=Value.int .u64 (if k/8=i then M.seen k else M.kept k)
   by_cases c:i*8<=k/\k<i*8+8
   . rw [if_pos c,if_pos (by omega),show i*8+(k -i*8)=k by omega]
   . rw [if_neg c,if_neg (by omega)]
  seen:=h.seen.keep (o _ (Ne.symm n.ks) n.sw)
  wr:=by
   have:=(h.wr.keep (o1 _ (Ne.symm n.kw))).set i (.int .i64 (M.wr i+1))
   simp only [Mv.Zq,Aj];exact this
  fb:=h.fb.keep (o _ (Ne.symm n.kf) (Ne.symm n.wf))
  pass:=h.pass.keep (o _ (Ne.symm n.kp) (Ne.symm n.wp))
  fl:=fun t ht=>(h.fl t ht).keep fun g hg=>o g (fun e=>h.alone t ht g hg (by rw [e];simp [Mv.blocks])) (fun e=>h.alone t ht g hg (by rw [e];simp [Mv.blocks]))
  ZA:=fun k hk=>by
   show 0<=nd M.wr i (M.wr i+1) k/\nd M.wr i (M.wr i+1) k<=M.wm
   by_cases e:k=i
   . rw [e,Wb];omega
   . rw [Kb _ _ e];exact h.ZA k hk}
def Mv.Ck(M:Mv)(l:List Int):Mv:={M with kept:=fun i=>if l.contains ((i/8:Nat):Int)then M.seen i else M.kept i,wr:=fun n=>if l.contains (n:Int)then M.wr n+1 else M.wr n,wm:=M.wm+1}
theorem TO{W:World}{M:Mv}(h:Ga W M):Ga W (M.Ck []):=by
 exact {h with
  kept:=h.kept
  wr:=h.wr
  ZA:=fun k hk=>by
   have:=h.ZA k hk
   show 0<=(if([]:List Int).contains (k:Int)then M.wr k+1 else M.wr k)/\(if([]:List Int).contains (k:Int)then M.wr k+1 else M.wr k)<=M.wm+1
   simp;omega}
theorem XI(M:Mv)(l:List Int)(i:Nat)(hi:(i:Int)∉l):(M.Ck l).Zq i=M.Ck (l++[(i:Int)]):=by
 unfold Mv.Ck Mv.Zq;have e1:(fun k=>if k/8=i then M.seen k else if l.contains ((k/8:Nat):Int)then M.seen k else M.kept k)=fun k=>if(l++[(i:Int)]).contains ((k/8:Nat):Int)then M.seen k else M.kept k:=by
  funext k
  by_cases c:k/8=i
  . simp [c]
  . have:¬((k/8:Nat):Int)=(i:Int):=by omega
    simp [c]
    congr 1
    simp;omega
 have e2:nd (fun n:Nat=>if l.contains (n:Int)then M.wr n+1 else M.wr n) i ((if l.contains (i:Int)then M.wr i+1 else M.wr i)+1)=fun n:Nat=>if(l++[(i:Int)]).contains (n:Int)then M.wr n+1 else M.wr n:=by
  funext k
  by_cases c:k=i
  . subst c;rw [Wb];simp [hi]
  . rw [Kb _ _ c];have:¬((k:Int)=(i:Int)):=by omega
    simp [this]
 simp only [e1,e2]
structure Rv where
 m:Nat
 d:Nat
 kb:Nat
 sb:Nat
 wb:Nat
 fb:Nat
 pb:Nat
 n:Nat
 nt:Nat
 np:Nat
 c0:Nat
 c1:Nat
 c2:Nat
 c3:Nat
 c4:Nat
 fg:Nat->Nat
 fc:Nat->Nat
 kept:Nat->Int
 seen:Nat->Int
 pass:Nat->Int
 wr:Nat->Int
 fl:Nat->Nat->Bool
 ck:Int
 bd:Int
 la:Acc
 wm:Int
def Rv.blocks(M:Rv):List Nat:=[M.m,M.d,M.kb,M.sb,M.wb,M.fb,M.pb]
def Rv.own(M:Rv)(k:Nat):Prop:=k∈M.blocks\/∃t,t<M.nt/\M.fg t=k
structure za(W:World)(M:Rv):Prop where
 row:W.heap[M.m]?=some (.cells #[.pointer (some ⟨M.d,0,none⟩), .slice (some ⟨M.pb,0,none⟩) M.np M.c4, .int .i64 M.ck, .int .i64 M.bd, .int .i64 M.la.ki, .int .i64 M.la.th, .int .i64 M.la.pl, .int .u64 M.la.ol, .int .u64 M.la.ne, .bool M.la.dn] 141 (0,0))
 dev:W.heap[M.d]?=some (.cells #[.slice (some ⟨M.kb,0,none⟩) (8*M.n) M.c0, .slice (some ⟨M.sb,0,none⟩) (8*M.n) M.c1, .slice (some ⟨M.wb,0,none⟩) M.n M.c2, .slice (some ⟨M.fb,0,none⟩) M.nt M.c3] 148 (0,0))
 kept:tb W M.kb (8*M.n) fun k=> .int .u64 (M.kept k)
 seen:tb W M.sb (8*M.n) fun k=> .int .u64 (M.seen k)
 wr:tb W M.wb M.n fun k=> .int .i64 (M.wr k)
 fb:tb W M.fb M.nt fun t=> .slice (some ⟨M.fg t,0,none⟩) M.n (M.fc t)
 pass:tb W M.pb M.np fun k=> .int .u64 (M.pass k)
 fl:∀t,t<M.nt->tb W (M.fg t) M.n fun k=> .bool (M.fl t k)
 apart:M.blocks.Nodup
 alone:∀t,t<M.nt->M.fg t∉M.blocks
 lone:∀t,t<M.nt->∀t',t'<M.nt->t≠t'->M.fg t≠M.fg t'
 n0:0<M.n
 n1:M.n<=262144
 t1:M.nt<=64
 p1:M.np<=262144
 Cm:0<=M.ck
 fA:0<=M.bd
 Mu:M.bd<=M.ck
 ZA:∀k,k<M.n->0<=M.wr k/\M.wr k<=M.wm
structure Rv.Ne(M:Rv):Prop where
 md:M.m≠M.d
 mkb:M.m≠M.kb
 ms:M.m≠M.sb
 mw:M.m≠M.wb
 mf:M.m≠M.fb
 mp:M.m≠M.pb
 dk:M.d≠M.kb
 ds:M.d≠M.sb
 dw:M.d≠M.wb
 df:M.d≠M.fb
 dp:M.d≠M.pb
 ks:M.kb≠M.sb
 kw:M.kb≠M.wb
 kf:M.kb≠M.fb
 kp:M.kb≠M.pb
 sw:M.sb≠M.wb
 sf:M.sb≠M.fb
 sp:M.sb≠M.pb
 wf:M.wb≠M.fb
 wp:M.wb≠M.pb
 fp:M.fb≠M.pb
theorem za.ne{W:World}{M:Rv}(h:za W M):M.Ne:=by
 have:=h.apart;simp only [Rv.blocks,List.nodup_cons,List.mem_cons,List.not_mem_nil,or_false,not_or,List.nodup_nil,and_true,not_false_eq_true]at this;obtain ⟨⟨a1,a2,a3,a4,a5,a6⟩,⟨b1,b2,b3,b4,b5⟩,⟨c1,c2,c3,c4⟩,⟨d1,d2,d3⟩,⟨e1,e2⟩,f1⟩:=this;exact ⟨a1,a2,a3,a4,a5,a6,b1,b2,b3,b4,b5,c1,c2,c3,c4,d1,d2,d3,e1,e2,f1⟩
theorem za.lt{W:World}{M:Rv}(h:za W M){k:Nat}(hk:M.own k):k<W.heap.size:=by
 rcases hk with hk|⟨t,ht,e⟩
 . simp only [Rv.blocks,List.mem_cons,List.not_mem_nil,or_false]at hk;rcases hk with rfl|rfl|rfl|rfl|rfl|rfl|rfl
   . exact (Array.getElem?_eq_some_iff.1 h.row).1
   . exact (Array.getElem?_eq_some_iff.1 h.dev).1
   . exact h.kept.lt
   . exact h.seen.lt
   . exact h.wr.lt
   . exact h.fb.lt
   . exact h.pass.lt
 . rw [<-e];exact (h.fl t ht).lt
theorem za.keep{W W':World}{M:Rv}(h:za W M)(e:∀k,M.own k->W'.heap[k]?=W.heap[k]?):za W' M:=by
 have o:∀k,k∈M.blocks->W'.heap[k]?=W.heap[k]?:=fun k hk=>e k (Or.inl hk)
 exact {h with
  row:=(o _ (by simp [Rv.blocks])).trans h.row
  dev:=(o _ (by simp [Rv.blocks])).trans h.dev
  kept:=h.kept.keep (o _ (by simp [Rv.blocks]))
  seen:=h.seen.keep (o _ (by simp [Rv.blocks]))
  wr:=h.wr.keep (o _ (by simp [Rv.blocks]))
  fb:=h.fb.keep (o _ (by simp [Rv.blocks]))
  pass:=h.pass.keep (o _ (by simp [Rv.blocks]))
  fl:=fun t ht=>(h.fl t ht).keep (e _ (Or.inr ⟨t,ht,rfl⟩))}
theorem za.Oaf{W W':World}{M:Rv}{F:Nat->Prop}(h:za W M)(t:Ja F W W')(hd:∀k,M.own k->¬F k):za W' M:=
 h.keep fun k hk=>t.block k (h.lt hk) (hd k hk)
theorem za.below{W W':World}{M:Rv}(h:za W M)(t:Below W.heap.size W W'):za W' M:=
 h.keep fun k hk=>t.block k (h.lt hk)
theorem za.Ab{W:World}{M:Rv}(h:za W M){k:Nat}(hk:W.heap.size<=k):¬M.own k:=fun e=>by have:=h.lt e;omega
def Rv.Ua(M:Rv)(at_:Int):Int×Bool:=Je M.n M.np M.seen M.pass at_
set_option maxRecDepth 100000 in
theorem UO(M:Rv)(at_:Int)(q0:-9223372036854775808<=at_)(q1:at_<=9223372036854775807)(W:World)(h:za W M):
  Calls Tryz.prog 108 #[.pointer (some ⟨M.m,0,none⟩), .int .i64 at_] W (Wi (.tuple #[.int .u64 (M.Ua at_).1, .bool (M.Ua at_).2]) W):=by
 obtain ⟨x0,x1,-⟩:=qd h.row;have y1:W.cell? ⟨M.d,1,none⟩=some (.slice (some ⟨M.sb,0,none⟩) (8*M.n) M.c1):=by rw [Wa h.dev];rfl
 have hn:=h.n1;have hp:=h.p1;have HH:=Lib.hid h;clear h;unfold Rv.Ua;by_cases h0:0<=at_
 . have d0:decide (0<=at_)=true:=ga h0;have d2:decide (at_<0)=false:=ua (by omega);by_cases h1:at_/8<(M.n:Int)
   . rw [show Je M.n M.np M.seen M.pass at_=(M.seen at_.toNat,true)by rw [Je,if_pos h0,if_pos h1]];obtain ⟨k,rfl⟩:=Int.eq_ofNat_of_zero_le h0;have hc:=HH.out.seen.cell (k:=k) (by omega);rw [Int.toNat_natCast];generalize M.seen k=v at*;have d1:decide ((k:Int)<((8*M.n:Nat):Int))=true:=ga (by omega);have f2:(k:Int)<((8*M.n:Nat):Int):=by omega
     obtain ⟨N,hN⟩:∃N,N=8*M.n:=⟨_,rfl⟩;rw [<-hN]at y1 d1 f2;have VO:N<=2097152:=by omega
     clear hN h1
     go_enter Tryz.func108,Tryz.ntmps108
     go_wp2_with fail
     go_ret2
     exact ⟨rfl,Below.refl _ _,rfl⟩
   . rw [show Je M.n M.np M.seen M.pass at_=(0,false)by rw [Je,if_pos h0,if_neg h1]];have d1:decide (at_<((8*M.n:Nat):Int))=false:=ua (by omega);obtain ⟨N,hN⟩:∃N,N=8*M.n:=⟨_,rfl⟩;rw [<-hN]at y1 d1;have VO:N<=2097152:=by omega
     clear hN h1
     go_enter Tryz.func108,Tryz.ntmps108
     go_wp2_with fail
     go_ret2
     exact ⟨rfl,Below.refl _ _,rfl⟩
 . have d0:decide (0<=at_)=false:=ua h0;have d2:decide (at_<0)=true:=ga (by omega);by_cases h1:-1 -at_<(M.np:Int)
   . rw [show Je M.n M.np M.seen M.pass at_=(M.pass (-1 -at_).toNat,true)by rw [Je,if_neg h0,if_pos h1]];have hc:=HH.out.pass.cell (k:=(-1 -at_).toNat) (by omega);generalize M.pass (-1 -at_).toNat=v at*
     obtain ⟨k,hk⟩:=Int.eq_ofNat_of_zero_le (show 0<=-1 -at_ by omega);rw [hk]at hc;have NQ:W.cell? ⟨M.pb,k,none⟩=some (.int .u64 v):=hc;obtain rfl:at_=-1 -(k:Int):=by omega
     have f2:(k:Int)<(M.np:Int):=by omega
     have d3:decide (-(M.np:Int)<=-1 -(k:Int))=true:=ga (by omega);have e3:(-1 -(-1 -(k:Int)):Int)=(k:Int):=by omega
     clear hc hk h1
     go_enter Tryz.func108,Tryz.ntmps108
     go_wp2_with fail
     go_ret2
     exact ⟨rfl,Below.refl _ _,rfl⟩
   . rw [show Je M.n M.np M.seen M.pass at_=(0,false)by rw [Je,if_neg h0,if_neg h1]];have d3:decide (-(M.np:Int)<=at_)=false:=ua (by omega);clear h1
     go_enter Tryz.func108,Tryz.ntmps108
     go_wp2_with fail
     go_ret2
     exact ⟨rfl,Below.refl _ _,rfl⟩
def Rv.Nb(M:Rv)(t l:Int):Int:=if Hb M.nt t=0 then Rh M.n l else 1
def Rv.Rc(M:Rv)(t l:Int):Rv:={M with fl:=nd M.fl t.toNat (nd (M.fl t.toNat) l.toNat true)}
def yn(M M':Rv)(v:Value)(W:World)(e:Ending)(W':World):Prop:=e= .returned v/\za W' M'/\Ja M.own W W'
theorem za.Ps{W:World}{M:Rv}(h:za W M){t:Nat}(ht:t<M.nt)(j:Nat)(v:Bool):
  za (W.setCell ⟨M.fg t,j,none⟩ (.bool v)) {M with fl:=nd M.fl t (nd (M.fl t) j v)}:=by
 have o:∀k,k∈M.blocks->(W.setCell ⟨M.fg t,j,none⟩ (.bool v)).heap[k]?=W.heap[k]?:=fun k hk=>aa fun e=>h.alone t ht (e▸hk)
 exact {h with
  row:=(o _ (by simp [Rv.blocks])).trans h.row
  dev:=(o _ (by simp [Rv.blocks])).trans h.dev
  kept:=h.kept.keep (o _ (by simp [Rv.blocks]))
  seen:=h.seen.keep (o _ (by simp [Rv.blocks]))
  wr:=h.wr.keep (o _ (by simp [Rv.blocks]))
  fb:=h.fb.keep (o _ (by simp [Rv.blocks]))
  pass:=h.pass.keep (o _ (by simp [Rv.blocks]))
  fl:=fun t' um=>by
   show tb _ (M.fg t') M.n fun k=> .bool (nd M.fl t (nd (M.fl t) j v) t' k)
   by_cases e:t'=t
   . subst e;rw [Wb];have:=(h.fl _ ht).set j (.bool v)
     simp only [Aj];exact this
   . rw [Kb _ _ e];exact (h.fl t' um).keep (aa (h.lone t' um t ht e))}
theorem Mb{W:World}{b:Nat}{k0 k1 k2 k3:Value}{t:TypeId}(h:W.heap[b]?=some (.cells #[k0,k1,k2,k3] t (0,0))):
  W.cell? ⟨b,0,none⟩=some k0/\W.cell? ⟨b,1,none⟩=some k1/\W.cell? ⟨b,2,none⟩=some k2/\W.cell? ⟨b,3,none⟩=some k3:=by
 refine ⟨?_, ?_, ?_, ?_⟩<;>(rw [cell_of_row _ _ _ _ _ _ h];rfl)
set_option maxRecDepth 100000 in
theorem vp(M:Rv)(t l:Int)(W:World)(h:za W M):
  Calls Tryz.prog 70 #[.pointer (some ⟨M.d,0,none⟩), .int .i64 0, .int .i64 t, .int .i64 l] W (yn M (if M.Nb t l=0 then M.Rc t l else M) (.int .i64 (M.Nb t l)) W):=by
 obtain ⟨y0,y1,y2,y3⟩:=Mb h.dev;have hn:=h.n1;have uL:=h.t1;have HH:=Lib.hid h;clear h;unfold Rv.Nb Hb Rh;by_cases h0:t<0
 . have d0:decide (t<0)=true:=ga h0;rw [if_pos (show t<0\/(M.nt:Int)<=t from Or.inl h0),if_neg (by omega:¬((1:Int)=0)),if_neg (by omega:¬((1:Int)=0))];clear h0
   go_enter Tryz.func70,Tryz.ntmps70
   go_wp2_with fail
   go_ret
   exact ⟨rfl,HH.out,Ja.refl _ _⟩
 . have d0:decide (t<0)=false:=ua h0;by_cases h1:(M.nt:Int)<=t
   . have d1:decide ((M.nt:Int)<=t)=true:=ga h1;rw [if_pos (show t<0\/(M.nt:Int)<=t from Or.inr h1),if_neg (by omega:¬((1:Int)=0)),if_neg (by omega:¬((1:Int)=0))];clear h0 h1
     go_enter Tryz.func70,Tryz.ntmps70
     go_wp2_with fail
     go_ret
     exact ⟨rfl,HH.out,Ja.refl _ _⟩
   . have d1:decide ((M.nt:Int)<=t)=false:=ua h1;rw [if_neg (show¬(t<0\/(M.nt:Int)<=t)by omega)];simp only [if_true];by_cases h2:l<0
     . have d2:decide (l<0)=true:=ga h2;rw [if_pos (show l<0\/(M.n:Int)<=l from Or.inl h2),if_neg (by omega:¬((5:Int)=0))];clear h0 h1 h2
       go_enter Tryz.func70,Tryz.ntmps70
       go_wp2_with fail
       go_ret
       exact ⟨rfl,HH.out,Ja.refl _ _⟩
     . have d2:decide (l<0)=false:=ua h2;by_cases h3:(M.n:Int)<=l
       . have d3:decide ((M.n:Int)<=l)=true:=ga h3;rw [if_pos (show l<0\/(M.n:Int)<=l from Or.inr h3),if_neg (by omega:¬((5:Int)=0))];clear h0 h1 h2 h3
         go_enter Tryz.func70,Tryz.ntmps70
         go_wp2_with fail
         go_ret
         exact ⟨rfl,HH.out,Ja.refl _ _⟩
       . have d3:decide ((M.n:Int)<=l)=false:=ua h3;rw [if_neg (show¬(l<0\/(M.n:Int)<=l)by omega)];simp only [if_true];obtain ⟨a,rfl⟩:=Int.eq_ofNat_of_zero_le (show 0<=t by omega);obtain ⟨b,rfl⟩:=Int.eq_ofNat_of_zero_le (show 0<=l by omega);have ha:a<M.nt:=by omega
         have hb:b<M.n:=by omega
         have HS:=Lib.hid (HH.out.Ps ha b true);have HO:Hid (M.own (M.fg a)):=Lib.hid (Or.inr ⟨a,ha,rfl⟩);have g1:=HH.out.fb.cell ha;have g2:=(HH.out.fl a ha).cell hb
         have g3:=(HH.out.fl a ha).free b
         have i0:(0:Int)<=(a:Int):=by omega
         have i1:(a:Int)<(M.nt:Int):=by omega
         have i2:(0:Int)<=(b:Int):=by omega
         have i3:(b:Int)<(M.n:Int):=by omega
         have HE:Hid (M.Rc (a:Int) (b:Int)={M with fl:=nd M.fl a (nd (M.fl a) b true)}):=Lib.hid rfl;generalize M.fl a b=u at*;generalize M.fg a=g at*;generalize M.fc a=c at*;obtain ⟨N,hN⟩:∃N,N=M.Rc (a:Int) (b:Int):=⟨_,rfl⟩;rw [<-hN]at HE⊢;have VI:Hid (za (W.setCell ⟨g,b,none⟩ (.bool true)) N):=Lib.hid (by rw [HE.out];exact HS.out);clear ha hb h0 h1 h2 h3
         go_enter Tryz.func70,Tryz.ntmps70
         go_wp2_with fail
         go_ret
         exact ⟨rfl,VI.out,(Ja.refl _ _).set (fun _=>HO.out) _ _⟩
set_option maxRecDepth 100000 in
theorem Qs(M:Rv)(t l:Int)(W:World)(h:za W M)(hn:Hb M.nt t≠0):
  Calls Tryz.prog 70 #[.pointer (some ⟨M.d,0,none⟩), .int .i64 1, .int .i64 t, .int .i64 l] W (yn M M (.int .i64 1) W):=by
 obtain ⟨y0,y1,y2,y3⟩:=Mb h.dev;have uL:=h.t1;have HH:=Lib.hid h;clear h;unfold Hb at hn;by_cases h0:t<0
 . have d0:decide (t<0)=true:=ga h0;clear h0 hn
   go_enter Tryz.func70,Tryz.ntmps70
   go_wp2_with fail
   go_ret
   exact ⟨rfl,HH.out,Ja.refl _ _⟩
 . have d0:decide (t<0)=false:=ua h0;have h1:(M.nt:Int)<=t:=by
    rcases Int.lt_or_le t (M.nt:Int)with h|h
    . rw [if_neg (by omega)]at hn;exact absurd rfl hn
    . exact h
   have d1:decide ((M.nt:Int)<=t)=true:=ga h1;clear h0 h1 hn
   go_enter Tryz.func70,Tryz.ntmps70
   go_wp2_with fail
   go_ret
   exact ⟨rfl,HH.out,Ja.refl _ _⟩
theorem za.UF{W:World}{M:Rv}(h:za W M)(k:Nat)(v:Int):za (W.setCell ⟨M.kb,k,none⟩ (.int .u64 v)) {M with kept:=nd M.kept k v}:=by
 have n:=h.ne;exact {h with
  row:=(aa n.mkb).trans h.row
  dev:=(aa n.dk).trans h.dev
  kept:=by
   have:=h.kept.set k (.int .u64 v);simp only [Aj];exact this
  seen:=h.seen.keep (aa (Ne.symm n.ks))
  wr:=h.wr.keep (aa (Ne.symm n.kw))
  fb:=h.fb.keep (aa (Ne.symm n.kf))
  pass:=h.pass.keep (aa (Ne.symm n.kp))
  fl:=fun t ht=>(h.fl t ht).keep (aa fun e=>h.alone t ht (by rw [e];simp [Rv.blocks]))}
theorem za.MS{W:World}{M:Rv}(h:za W M)(k:Nat)(v:Int)(h0:0<=v)(h1:v<=M.wm):za (W.setCell ⟨M.wb,k,none⟩ (.int .i64 v)) {M with wr:=nd M.wr k v}:=by
 have n:=h.ne;exact {h with
  row:=(aa n.mw).trans h.row
  dev:=(aa n.dw).trans h.dev
  kept:=h.kept.keep (aa n.kw)
  seen:=h.seen.keep (aa n.sw)
  wr:=by
   have:=h.wr.set k (.int .i64 v);simp only [Aj];exact this
  fb:=h.fb.keep (aa (Ne.symm n.wf))
  pass:=h.pass.keep (aa (Ne.symm n.wp))
  fl:=fun t ht=>(h.fl t ht).keep (aa fun e=>h.alone t ht (by rw [e];simp [Rv.blocks]))
  ZA:=fun j hj=>by
   show 0<=nd M.wr k v j/\nd M.wr k v j<=M.wm
   by_cases e:j=k
   . rw [e,Wb];exact ⟨h0,h1⟩
   . rw [Kb _ _ e];exact h.ZA j hj}
def Rv.upto(M:Rv)(t k:Nat):Rv:={M with kept:=fun i=>if i/8<k/\M.fl t (i/8)=true then M.seen i else M.kept i,wr:=fun j=>if j<k/\M.fl t j=true then M.wr j+1 else M.wr j,wm:=M.wm+1}
def Rv.Uh(M:Rv)(t k j:Nat):Rv:={M.upto t k with kept:=fun i=>if i/8=k/\i %8<j then M.seen i else(M.upto t k).kept i}
theorem Saf{W:World}{M:Rv}(h:za W M)(t:Nat):za W (M.upto t 0):=by
 exact {h with
  kept:=h.kept.congr fun k _=>by simp [Rv.upto]
  wr:=h.wr.congr fun k _=>by simp [Rv.upto]
  ZA:=fun k hk=>by have:=h.ZA k hk;simp [Rv.upto];omega}
theorem qZ(M:Rv)(t k:Nat):M.Uh t k 0=M.upto t k:=by
 unfold Rv.Uh;have:(fun i=>if i/8=k/\i %8<0 then M.seen i else(M.upto t k).kept i)=(M.upto t k).kept:=by funext i;rw [if_neg (by omega)]
 rw [this]
theorem YI(M:Rv)(t k j:Nat)(hj:j<8):{M.Uh t k j with kept:=nd (M.Uh t k j).kept (8*k+j) (M.seen (8*k+j))}=M.Uh t k (j+1):=by
 have:nd (M.Uh t k j).kept (8*k+j) (M.seen (8*k+j))=(M.Uh t k (j+1)).kept:=by
  funext i
  show nd (fun i=>if i/8=k/\i %8<j then M.seen i else(M.upto t k).kept i) (8*k+j) (M.seen (8*k+j)) i=if i/8=k/\i %8<j+1 then M.seen i else(M.upto t k).kept i
  by_cases e:i=8*k+j
  . rw [e,Wb,if_pos (by omega)]
  . rw [Kb _ _ e];by_cases c:i/8=k/\i %8<j
    . rw [if_pos c,if_pos (by omega)]
    . rw [if_neg c,if_neg (by omega)]
 rw [this];rfl
theorem NS(M:Rv)(t k:Nat)(h:M.fl t k=true):{M.Uh t k 8 with wr:=nd (M.Uh t k 8).wr k (M.wr k+1)}=M.upto t (k+1):=by
 have e1:nd (M.Uh t k 8).wr k (M.wr k+1)=(M.upto t (k+1)).wr:=by
  funext i
  show nd (fun j=>if j<k/\M.fl t j=true then M.wr j+1 else M.wr j) k (M.wr k+1) i=if i<k+1/\M.fl t i=true then M.wr i+1 else M.wr i
  by_cases e:i=k
  . rw [e,Wb,if_pos ⟨by omega,h⟩]
  . rw [Kb _ _ e];by_cases c:i<k/\M.fl t i=true
    . rw [if_pos c,if_pos ⟨by omega,c.2⟩]
    . rw [if_neg c,if_neg (fun c'=>c ⟨by omega,c'.2⟩)]
 have e2:(M.Uh t k 8).kept=(M.upto t (k+1)).kept:=by
  funext i
  show(if i/8=k/\i %8<8 then M.seen i else if i/8<k/\M.fl t (i/8)=true then M.seen i else M.kept i)=if i/8<k+1/\M.fl t (i/8)=true then M.seen i else M.kept i
  by_cases e:i/8=k
  . rw [if_pos ⟨e,by omega⟩,if_pos ⟨by omega,by rw [e];exact h⟩]
  . rw [if_neg (fun c=>e c.1)];by_cases c:i/8<k/\M.fl t (i/8)=true
    . rw [if_pos c,if_pos ⟨by omega,c.2⟩]
    . rw [if_neg c,if_neg (fun c'=>c ⟨by omega,c'.2⟩)]
 rw [e1]
 show({M.upto t k with kept:=(M.Uh t k 8).kept,wr:=(M.upto t (k+1)).wr}:Rv)=_
 rw [e2];rfl
theorem rZ(M:Rv)(t k:Nat)(h:M.fl t k=false):M.upto t (k+1)=M.upto t k:=by
 have e1:(M.upto t (k+1)).wr=(M.upto t k).wr:=by
  funext i
  show(if i<k+1/\M.fl t i=true then M.wr i+1 else M.wr i)=if i<k/\M.fl t i=true then M.wr i+1 else M.wr i
  by_cases e:i=k
  . rw [e,h];simp
  . by_cases c:i<k/\M.fl t i=true
    . rw [if_pos c,if_pos ⟨by omega,c.2⟩]
    . rw [if_neg c,if_neg (fun c'=>c ⟨by omega,c'.2⟩)]
 have e2:(M.upto t (k+1)).kept=(M.upto t k).kept:=by
  funext i
  show(if i/8<k+1/\M.fl t (i/8)=true then M.seen i else M.kept i)=if i/8<k/\M.fl t (i/8)=true then M.seen i else M.kept i
  by_cases e:i/8=k
  . rw [e,h];simp
  . by_cases c:i/8<k/\M.fl t (i/8)=true
    . rw [if_pos c,if_pos ⟨by omega,c.2⟩]
    . rw [if_neg c,if_neg (fun c'=>c ⟨by omega,c'.2⟩)]
 show({M with kept:=(M.upto t (k+1)).kept,wr:=(M.upto t (k+1)).wr,wm:=M.wm+1}:Rv)=_
 rw [e1,e2];rfl
def Rv.Zd(M:Rv)(t a b:Nat):Rv:={M with fl:=fun x y=>if x=t/\y<M.n/\(x<a\/x=a/\y<b)then false else M.fl x y}
theorem OS(M:Rv)(t:Nat):M.Zd t 0 0=M:=by
 unfold Rv.Zd;have:(fun x y=>if x=t/\y<M.n/\(x<0\/x=0/\y<0)then false else M.fl x y)=M.fl:=by funext x y;rw [if_neg (by omega)]
 rw [this]
theorem VF(M:Rv)(t a:Nat):M.Zd t a M.n=M.Zd t (a+1) 0:=by
 unfold Rv.Zd;have:(fun x y=>if x=t/\y<M.n/\(x<a\/x=a/\y<M.n)then false else M.fl x y)=fun x y=>if x=t/\y<M.n/\(x<a+1\/x=a+1/\y<0)then false else M.fl x y:=by
  funext x y
  by_cases c:x=t/\y<M.n/\(x<a\/x=a/\y<M.n)
  . rw [if_pos c,if_pos (by omega)]
  . rw [if_neg c,if_neg (by omega)]
 rw [this]
theorem aD(M:Rv)(t a b:Nat)(h:a≠t):M.Zd t a (b+1)=M.Zd t a b:=by
 unfold Rv.Zd;have:(fun x y=>if x=t/\y<M.n/\(x<a\/x=a/\y<b+1)then false else M.fl x y)=fun x y=>if x=t/\y<M.n/\(x<a\/x=a/\y<b)then false else M.fl x y:=by
  funext x y
  by_cases c:x=t/\y<M.n/\(x<a\/x=a/\y<b+1)
  . rw [if_pos c,if_pos (by omega)]
  . rw [if_neg c,if_neg (by omega)]
 rw [this]
theorem ZI(M:Rv)(t b:Nat)(h:b<M.n):{M.Zd t t b with fl:=nd (M.Zd t t b).fl t (nd ((M.Zd t t b).fl t) b false)}=M.Zd t t (b+1):=by
 have:nd (M.Zd t t b).fl t (nd ((M.Zd t t b).fl t) b false)=(M.Zd t t (b+1)).fl:=by
  funext x y
  show nd (M.Zd t t b).fl t (nd ((M.Zd t t b).fl t) b false) x y=if x=t/\y<M.n/\(x<t\/x=t/\y<b+1)then false else M.fl x y
  by_cases e:x=t
  . rw [e,Wb];by_cases e':y=b
    . rw [e',Wb,if_pos (by omega)]
    . rw [Kb _ _ e']
      show(if t=t/\y<M.n/\(t<t\/t=t/\y<b)then false else M.fl t y)=_
      by_cases c:y<M.n/\y<b
      . rw [if_pos (by omega),if_pos (by omega)]
      . rw [if_neg (by omega),if_neg (by omega)]
  . rw [Kb _ _ e]
    show(if x=t/\y<M.n/\(x<t\/x=t/\y<b)then false else M.fl x y)=_
    rw [if_neg (by omega),if_neg (by omega)]
 rw [this];rfl
def Rv.fenced(M:Rv)(t:Nat):Rv:=(M.upto t M.n).Zd t M.nt 0
end Go.Proofs.YtfnkmolffhfpoaaGreat
