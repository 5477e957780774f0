/- -/
import Derived.Test.YtfnkmolffhfpoaaGreatHq17
import Derived.Test.YtfnkmolffhfpoaaGreatHq18
set_option linter.unusedVariables false
set_option linter.unusedSimpArgs false
namespace Go.Proofs.YtfnkmolffhfpoaaGreat
open Go.RowKit Go.BigFrame
theorem xM{l:List Int}{i:Nat}{x y:Int}(h:y∈Mh l i x):y=x\/y∈l:=by
 unfold Mh at h;rw [List.mem_append,List.mem_cons]at h;rcases h with h|h|h
 . exact Or.inr (List.mem_of_mem_take h)
 . exact Or.inl h
 . exact Or.inr (List.mem_of_mem_drop h)
theorem yM{l:List Int}{i:Nat}{x y:Int}:y∈Mh l i x<->y=x\/y∈l:=by
 constructor
 . exact xM
 . intro h;unfold Mh;rw [List.mem_append,List.mem_cons];rcases h with rfl|h
   . exact Or.inr (Or.inl rfl)
   . rw [<-List.take_append_drop i l,List.mem_append]at h;rcases h with h|h
     . exact Or.inl h
     . exact Or.inr (Or.inr h)
theorem AE(l:List Int)(x:Int)(hs:l.Pairwise (·<·)):(∀y∈l.take (l.countP (·<x)),y<x)/\(∀y∈l.drop (l.countP (·<x)),x<=y):=by
 induction l with
 |nil=>simp
 |cons a l ih=>
  obtain ⟨h1,h2⟩:=List.pairwise_cons.1 hs
  obtain ⟨i1,i2⟩:=ih h2;by_cases ha:a<x
  . rw [List.countP_cons_of_pos (by simpa using ha),List.take_succ_cons,List.drop_succ_cons];refine ⟨fun y hy=> ?_,i2⟩;rcases List.mem_cons.1 hy with rfl|hy
    . exact ha
    . exact i1 y hy
  . have:l.countP (·<x)=0:=by
     rw [List.countP_eq_zero];intro y hy;have:=h1 y hy;simp;omega
    rw [List.countP_cons_of_neg (by simpa using ha),this];refine ⟨by simp,fun y hy=> ?_⟩;simp at hy;rcases hy with rfl|hy
    . omega
    . have:=h1 y hy;omega
theorem BE{l:List Int}{x y:Int}:y∈Ew l x<->y=x\/y∈l:=by
 unfold Ew
 split
 . rename_i h;have:x∈l:=by simpa using h
   constructor
   . exact Or.inr
   . rintro (rfl|h)
     . exact this
     . exact h
 . exact yM
theorem zM{l:List Int}{x:Int}(hs:l.Pairwise (·<·)):(Ew l x).Pairwise (·<·):=by
 unfold Ew
 split
 . exact hs
 . rename_i h;have hx:x∉l:=by simpa using h
   obtain ⟨h1,h2⟩:=AE l x hs;unfold Mh;rw [List.pairwise_append];refine ⟨hs.sublist (List.take_sublist _ _), ?_, ?_⟩
   . rw [List.pairwise_cons];refine ⟨fun y hy=> ?_,hs.sublist (List.drop_sublist _ _)⟩;have:=h2 y hy;have:y≠x:=fun e=>hx (e▸List.mem_of_mem_drop hy)
     omega
   . intro y hy z hz;have a:=h1 y hy;rcases List.mem_cons.1 hz with rfl|hz
     . exact a
     . have:=h2 z hz;omega
theorem CE:∀(l:List Int) (n:Nat) (a:Int),l.Pairwise (·<·)->(∀x∈l,a<=x/\x<n)->a<=n->(l.length:Int)<=n -a
 |[],n,a,_,_,h=>by simp;omega
 |x::l,n,a,hs,h,hn=>by
  obtain ⟨h1,h2⟩:=List.pairwise_cons.1 hs
  have hx:=h x (by simp);have:=CE l n (x+1) h2 (fun y hy=>by have:=h1 y hy;have:=h y (by simp [hy]);omega) (by omega);simp;omega
theorem za.UP{W:World}{M:Mv}(h:za W M){t:Nat}(ht:t<M.nt):(M.fl t).length<=M.n:=by
 have:=CE (M.fl t) M.n 0 (h.qH t ht) (h.inn t ht) (by omega);omega
theorem za.Gs{W W1:World}{M:Mv}(h:za W M){t:Nat}(ht:t<M.nt){v':Value}{l':List Int}(hT:Ba (fun k=>(M.fv t).ownBlock=some k) W W1)(hl:Of W1 v' l')(hv:∀g,v'.ownBlock=some g->(M.fv t).ownBlock=some g\/W.heap.size<=g)
  (hs:l'.Pairwise (·<·))(hi:∀x∈l',0<=x/\x<M.n):
  za (W1.setCell ⟨M.fb,t,none⟩ v') {M with fl:=Mc M.fl t l',fv:=Mc M.fv t v'}/\Ba M.own W (W1.setCell ⟨M.fb,t,none⟩ v')/\∀k,({M with fl:=Mc M.fl t l',fv:=Mc M.fv t v'}:Mv).own k->M.own k\/W.heap.size<=k:=by
 have n:=h.ne;have o1:∀k,k∈M.blocks->W1.heap[k]?=W.heap[k]?:=fun k hk=>hT.block k (h.lt (Or.inl hk)) fun e=>h.alone t ht k e hk
 have o:∀k,k∈M.blocks->k≠M.fb->(W1.setCell ⟨M.fb,t,none⟩ v').heap[k]?=W.heap[k]?:=fun k hk e=>(aa e).trans (o1 k hk)
 have rU:M.fb∈M.blocks:=by simp [Mv.blocks]
 have AM:M.fb<W.heap.size:=h.lt (Or.inl rU);refine ⟨?_, ?_, ?_⟩
 . exact {h with
    row:=(o _ (by simp [Mv.blocks]) n.mf).trans h.row
    dev:=(o _ (by simp [Mv.blocks]) n.df).trans h.dev
    kept:=h.kept.keep (o _ (by simp [Mv.blocks]) n.kf)
    seen:=h.seen.keep (o _ (by simp [Mv.blocks]) n.sf)
    wr:=h.wr.keep (o _ (by simp [Mv.blocks]) n.wf)
    fb:=(h.fb.keep (o1 _ rU)).set t v'
    pass:=h.pass.keep (o _ (by simp [Mv.blocks]) (Ne.symm n.fp))
    fl:=fun t' dm=>by
     show Of _ (Mc M.fv t v' t') (Mc M.fl t l' t')
     by_cases e:t'=t
     . subst e;rw [Pb,Pb];refine hl.keep fun g hg=>aa fun e=> ?_
       rcases hv g hg with h1|h1
       . exact h.alone _ ht g h1 (e▸rU)
       . omega
     . rw [Gb _ _ e,Gb _ _ e];refine (h.fl t' dm).keep fun g hg=> ?_
       rw [aa (fun(e':g=M.fb)=>h.alone t' dm g hg (e'▸rU))];exact hT.block g ((h.fl t' dm).lt hg) fun e'=>h.lone t ht t' dm (Ne.symm e) g e' hg
    alone:=fun t' dm g hg hb=>by
     have hg:(Mc M.fv t v' t').ownBlock=some g:=hg
     have hb:g∈M.blocks:=hb;by_cases e:t'=t
     . subst e;rw [Pb]at hg;rcases hv g hg with h1|h1
       . exact h.alone _ ht g h1 hb
       . have:=h.lt (Or.inl hb);omega
     . rw [Gb _ _ e]at hg;exact h.alone t' dm g hg hb
    lone:=fun a ha b hb sU g hg0 Fy=>by
     have hg:(Mc M.fv t v' a).ownBlock=some g:=hg0
     have Ht:(Mc M.fv t v' b).ownBlock=some g:=Fy
     have ha:a<M.nt:=ha;have hb:b<M.nt:=hb;clear hg0 Fy;by_cases e:a=t
     . rw [e,Pb]at hg;rw [Gb _ _ (fun e'=>sU (e.trans e'.symm))]at Ht;rcases hv g hg with h1|h1
       . exact h.lone _ ht b hb (fun e'=>sU (e.trans e')) g h1 Ht
       . have:=(h.fl b hb).lt Ht;omega
     . rw [Gb _ _ e]at hg;by_cases e':b=t
       . rw [e',Pb]at Ht;rcases hv g Ht with h1|h1
         . exact h.lone a ha _ ht e g hg h1
         . have:=(h.fl a ha).lt hg;omega
       . rw [Gb _ _ e']at Ht;exact h.lone a ha b hb sU g hg Ht
    qH:=fun t' dm=>by
     show(Mc M.fl t l' t').Pairwise (·<·)
     by_cases e:t'=t
     . subst e;rw [Pb];exact hs
     . rw [Gb _ _ e];exact h.qH t' dm
    inn:=fun t' dm=>by
     show∀x∈Mc M.fl t l' t',0<=x/\x<M.n
     by_cases e:t'=t
     . subst e;rw [Pb];exact hi
     . rw [Gb _ _ e];exact h.inn t' dm}
 . exact (hT.mono fun k _ e=>Or.inr ⟨t,ht,e⟩).set (fun _=>Or.inl rU) _ _
 . rintro k (hk|⟨t',dm,hk⟩)
   . exact Or.inl (Or.inl hk)
   . have hk:(Mc M.fv t v' t').ownBlock=some k:=hk
     by_cases e:t'=t
     . subst e;rw [Pb]at hk;rcases hv k hk with h1|h1
       . exact Or.inl (Or.inr ⟨_,ht,h1⟩)
       . exact Or.inr h1
     . rw [Gb _ _ e]at hk;exact Or.inl (Or.inr ⟨t',dm,hk⟩)
def Ge(M M':Mv)(W W':World):Prop:=za W' M'/\Ba M.own W W'/\∀k,M'.own k->M.own k\/W.heap.size<=k
theorem Ge.trans{M M' M'':Mv}{W W' W'':World}(h:Ge M M' W W')(k:Ge M' M'' W' W''):Ge M M'' W W'':=by
 have hs:=h.2.1.size
 refine ⟨k.1,h.2.1.trans k.2.1 fun i hi e=> ?_,fun i e=> ?_⟩
 . rcases h.2.2 i e with h1|h1
   . exact h1
   . omega
 . rcases k.2.2 i e with h1|h1
   . exact h.2.2 i h1
   . exact Or.inr (by omega)
theorem Ge.below{M M':Mv}{W W' W'':World}(h:Ge M M' W W')(k:Below W'.heap.size W' W''):Ge M M' W W'':=
 ⟨h.1.below k,h.2.1.trans (Ba.Sb k) (fun _ _ h=>h),h.2.2⟩
theorem Ge.refl{M:Mv}{W:World}(h:za W M):Ge M M W W:=⟨h,Ba.refl _ _,fun _ h=>Or.inl h⟩
def Mv.Kb(M:Mv)(t l:Int):Int:=if Bb M.nt t=0 then rh M.n l else 1
def Mv.Bc(M:Mv)(t l:Int)(v:Value):Mv:={M with fl:=Mc M.fl t.toNat (Ew (M.fl t.toNat) l),fv:=Mc M.fv t.toNat v}
def Pq(M:Mv)(t l:Int)(W:World)(e:Ending)(W':World):Prop:=
 e= .returned (.int .i64 (M.Kb t l))/\(M.Kb t l≠0/\Ge M M W W'\/M.Kb t l=0/\∃v,Ge M (M.Bc t l v) W W')
theorem uH(M:Mv)(t l:Int)(W:World)(h:za W M)(hn:M.Kb t l≠0):
  Calls Tryz.prog 171 #[.pointer (some ⟨M.d,0,none⟩), .int .i64 t, .int .i64 l] W (Pq M t l W):=by
 have HT:=Lib.hid (Nq M.d (some ⟨M.fb,0,none⟩) M.nt M.c3 t W (by rw [Oa h.dev];rfl));have HL:=Lib.hid (Fs M.d (some ⟨M.sb,0,none⟩) M.n M.c1 l W (by rw [Oa h.dev];rfl));have HM:=Lib.hid h;have HN:=Lib.hid hn;unfold Mv.Kb at hn;by_cases h0:Bb M.nt t=0
 . rw [if_pos h0]at hn;have e5:rh M.n l=5:=by unfold rh at*;split at hn<;>simp_all
   have eF:M.Kb t l=5:=by unfold Mv.Kb;rw [if_pos h0];exact e5
   have HE:Hid (M.Kb t l=5):=Lib.hid eF;rw [h0]at HT;rw [e5]at HL;clear h hn h0 e5 eF
   go_enter Tryz.func171,Tryz.ntmps171
   go_wp2_with fail
   refine HT.out.mono ?_
   rintro e w ⟨rfl,hw⟩;cases hw
   go_wp2_with fail
   refine HL.out.mono ?_
   rintro e w ⟨rfl,hw⟩;cases hw
   go_wp2_with fail
   go_ret
   exact ⟨by rw [HE.out];rfl,Or.inl ⟨HN.out,Ge.refl HM.out⟩⟩
 . have e1:Bb M.nt t=1:=by unfold Bb at*;split at h0<;>simp_all
   have eF:M.Kb t l=1:=by unfold Mv.Kb;rw [if_neg h0]
   have HE:Hid (M.Kb t l=1):=Lib.hid eF;rw [e1]at HT;clear h hn h0 e1 eF
   go_enter Tryz.func171,Tryz.ntmps171
   go_wp2_with fail
   refine HT.out.mono ?_
   rintro e w ⟨rfl,hw⟩;cases hw
   go_wp2_with fail
   go_ret
   exact ⟨by rw [HE.out];rfl,Or.inl ⟨HN.out,Ge.refl HM.out⟩⟩
theorem Fai(M:Mv)(t:Nat)(ht:t<M.nt)(l:Int)(h0:0<=l)(h1:l<M.n)(W:World)(h:za W M):
  Calls Tryz.prog 256 #[.pointer (some ⟨M.fb,t,none⟩), .int .i64 l] W (fun e W'=>(∃u,e= .returned u)/\∃v,Ge M (M.Bc t l v) W W'):=by
 have hl:=h.UP ht;have hn:=h.n1;have ag:∀x∈Ew (M.fl t) l,0<=x/\x<M.n:=fun x hx=>by
  rcases BE.1 hx with rfl|hx
  . exact ⟨h0,h1⟩
  . exact h.inn t ht x hx
 have hr:=zM (x:=l) (h.qH t ht);unfold Mv.Bc;rw [Int.toNat_natCast];by_cases hx:(M.fl t).contains l=true
 . have e:Ew (M.fl t) l=M.fl t:=by unfold Ew;rw [if_pos hx]
   refine (QP M.fb t (M.fv t) (M.fl t) l W (by omega) (h.fb.cell ht) (h.fl t ht) (h.qH t ht) hx).mono ?_
   rintro e' W' ⟨hu,hb,hh⟩;refine ⟨hu,M.fv t, ?_⟩;rw [e];have e1:Mc M.fl t (M.fl t)=M.fl:=by funext k;unfold Mc;split<;>simp_all
   have e2:Mc M.fv t (M.fv t)=M.fv:=by funext k;unfold Mc;split<;>simp_all
   rw [e1,e2];exact (Ge.refl h).below hb
 . have BM:(M.fl t).contains l=false:=by simpa using hx
   have e:Ew (M.fl t) l=Mh (M.fl t) ((M.fl t).countP (·<l)) l:=by unfold Ew;rw [if_neg hx]
   refine (vM M.fb t (M.fv t) (M.fl t) l W (by omega) (h.fb.cell ht) (h.fb.free t) h.fb.lt (fun e=>h.alone t ht _ e (by simp [Mv.blocks])) (h.fl t ht) (h.qH t ht) BM).mono ?_
   rintro e' W' ⟨hu,v',W1,hT,hL,hv,rfl⟩;rw [<-e]at hL;obtain ⟨a,b,c⟩:=h.Gs ht hT hL hv hr ag;exact ⟨hu,v',a,b,c⟩
set_option maxRecDepth 100000 in
theorem DE(M:Mv)(t l:Int)(W:World)(h:za W M)(hn:M.Kb t l=0):
  Calls Tryz.prog 171 #[.pointer (some ⟨M.d,0,none⟩), .int .i64 t, .int .i64 l] W (Pq M t l W):=by
 have HT:=Lib.hid (Nq M.d (some ⟨M.fb,0,none⟩) M.nt M.c3 t W (by rw [Oa h.dev];rfl));have HL:=Lib.hid (Fs M.d (some ⟨M.sb,0,none⟩) M.n M.c1 l W (by rw [Oa h.dev];rfl));have HN:=Lib.hid hn;unfold Mv.Kb at hn;have h0:Bb M.nt t=0:=by by_cases h0:Bb M.nt t=0;exact h0;rw [if_neg h0]at hn;cases hn
 rw [if_pos h0]at hn;rw [h0]at HT;rw [hn]at HL;unfold Bb at h0;unfold rh at hn;have a0:0<=t/\t<M.nt:=by split at h0;cases h0;omega
 have a1:0<=l/\l<M.n:=by split at hn;cases hn;omega
 obtain ⟨k,rfl⟩:=Int.eq_ofNat_of_zero_le a0.1
 have b0:(0:Int)<=(k:Int):=by omega
 have b1:(k:Int)<(M.nt:Int):=a0.2
 have HP:=Lib.hid (Fai M k (by omega) l a1.1 a1.2 W h);have hd:W.cell? ⟨M.d,3,none⟩=some (.slice (some ⟨M.fb,0,none⟩) M.nt M.c3):=by rw [Oa h.dev];rfl
 clear h hn h0 a0 a1
 go_enter Tryz.func171,Tryz.ntmps171
 go_wp2_with fail
 refine HT.out.mono ?_
 rintro e w ⟨rfl,hw⟩;cases hw
 go_wp2_with fail
 refine HL.out.mono ?_
 rintro e w ⟨rfl,hw⟩;cases hw
 go_wp2_with fail
 refine HP.out.mono ?_
 rintro e w ⟨⟨u,rfl⟩,hv⟩;have HV:=Lib.hid hv;clear hv
 go_wp2_with fail
 go_ret
 exact ⟨by rw [HN.out];rfl,Or.inr ⟨HN.out,HV.out⟩⟩
theorem LJ(M:Mv)(t l:Int)(W:World)(h:za W M):
  Calls Tryz.prog 171 #[.pointer (some ⟨M.d,0,none⟩), .int .i64 t, .int .i64 l] W (Pq M t l W):=by
 by_cases hn:M.Kb t l=0
 . exact DE M t l W h hn
 . exact uH M t l W h hn
theorem Za.Ny{W:World}{b n:Nat}{f:Nat->Value}(h:Za W b n f)(o:Nat)(l:Nat->Int):Za (Ny W b o l) b n (fun k=>if o<=k/\k<o+8 then .int .u64 (l (k -o))else f k):=by
 refine ((((((((h.set o (.int .u64 (l 0))).set (o+1) (.int .u64 (l 1))).set (o+2) (.int .u64 (l 2))).set (o+3) (.int .u64 (l 3))).set (o+4) (.int .u64 (l 4))).set (o+5) (.int .u64 (l 5))).set (o+6) (.int .u64 (l 6))).set (o+7) (.int .u64 (l 7))).congr fun k _=> ?_
 by_cases hk:o<=k/\k<o+8
 . rw [if_pos hk];obtain ⟨j,rfl⟩:∃j,k=o+j:=⟨k -o,by omega⟩;have hj:j<8:=by omega
   rw [show o+j -o=j by omega];have c:j=0\/j=1\/j=2\/j=3\/j=4\/j=5\/j=6\/j=7:=by omega
   rcases c with rfl|rfl|rfl|rfl|rfl|rfl|rfl|rfl<;>simp [Mc]
 . rw [if_neg hk];have:∀j,j<8->k≠o+j:=fun j hj=>by omega
   unfold Mc;rw [if_neg (this 7 (by omega)),if_neg (this 6 (by omega)),if_neg (this 5 (by omega)),if_neg (this 4 (by omega)),if_neg (this 3 (by omega)),if_neg (this 2 (by omega)),if_neg (this 1 (by omega)),if_neg (show k≠o by omega)]
theorem CM{F:Nat->Prop}{a w:World}(h:Ba F a w){b:Nat}(hb:b<a.heap.size->F b)(o:Nat)(l:Nat->Int):Ba F a (Ny w b o l):=by
 unfold Ny;exact (((((((h.set hb _ _).set hb _ _).set hb _ _).set hb _ _).set hb _ _).set hb _ _).set hb _ _).set hb _ _
def Mv.Qq(M:Mv)(i:Nat):Mv:={M with kept:=fun k=>if k/8=i then M.seen k else M.kept k,wr:=Mc M.wr i (M.wr i+1)}
theorem MJ(M:Mv)(i:Nat)(hi:i<M.n)(W:World)(h:za W M)(hw:M.wr i<M.wm)(hm:M.wm<=1000000):
  Calls Tryz.prog 174 #[.pointer (some ⟨M.d,0,none⟩), .int .i64 i] W (Oq M (M.Qq i) W):=by
 have n:=h.ne;have hw0:=h.Oz i hi;refine (s8 M.d M.kb M.sb M.wb M.n M.c0 M.c1 M.c2 h.n1 i hi (fun r=>M.kept (i*8+r)) (fun r=>M.seen (i*8+r)) (M.wr i) hw0.1 (by omega) W (by rw [Oa h.dev];rfl) (by rw [Oa h.dev];rfl) (by rw [Oa h.dev];rfl)
  (fun r hr=>h.kept.cell (by omega)) (fun r hr=>h.seen.cell (by omega)) (h.wr.cell hi) h.kept.free h.wr.free (Ne.symm n.dk) (Ne.symm n.kw) (Ne.symm n.dw) (Ne.symm n.ks)).mono ?_
 rintro e W' ⟨hx,w1,⟨hh,hb⟩,rfl⟩;have hT:Ba M.own W w1:=(CM (Ba.refl _ W) (fun _=>Or.inl (by simp [Mv.blocks])) _ _).trans (Ba.Sb hb) (fun _ _ h=>h)
 have o1:∀k,k≠M.kb->w1.heap[k]?=W.heap[k]?:=fun k hk=>by rw [hh];exact ko hk
 have o:∀k,k≠M.kb->k≠M.wb->(w1.setCell ⟨M.wb,i,none⟩ (.int .i64 (M.wr i+1))).heap[k]?=W.heap[k]?:=fun k hk e=>(aa e).trans (o1 k hk)
 refine ⟨hx, ?_,hT.set (fun _=>Or.inl (by simp [Mv.blocks])) _ _⟩;exact {h with
  row:=(o _ n.C8 n.mw).trans h.row
  dev:=(o _ n.dk n.dw).trans h.dev
  kept:=by
   refine Za.keep (W:=w1) ?_ (aa n.kw)
   refine Za.congr (Za.keep (h.kept.Ny (i*8) (fun r=>M.seen (i*8+r))) (by rw [hh])) fun k hk=> ?_
   show _=Value.int .u64 (if k/8=i then M.seen k else M.kept k)
   by_cases c:i*8<=k/\k<i*8+8
   . rw [if_pos c,if_pos (by omega),show i*8+(k -i*8)=k by omega]
   . rw [if_neg c,if_neg (by omega)]
  seen:=h.seen.keep (o _ (Ne.symm n.ks) n.sw)
  wr:=by
   have:=(h.wr.keep (o1 _ (Ne.symm n.kw))).set i (.int .i64 (M.wr i+1))
   simp only [Mv.Qq,aj];exact this
  fb:=h.fb.keep (o _ (Ne.symm n.kf) (Ne.symm n.wf))
  pass:=h.pass.keep (o _ (Ne.symm n.kp) (Ne.symm n.wp))
  fl:=fun t ht=>(h.fl t ht).keep fun g hg=>o g (fun e=>h.alone t ht g hg (by rw [e];simp [Mv.blocks])) (fun e=>h.alone t ht g hg (by rw [e];simp [Mv.blocks]))
  Oz:=fun k hk=>by
   show 0<=Mc M.wr i (M.wr i+1) k/\Mc M.wr i (M.wr i+1) k<=M.wm
   by_cases e:k=i
   . rw [e,Pb];omega
   . rw [Gb _ _ e];exact h.Oz k hk}
def Mv.Kk(M:Mv)(l:List Int):Mv:={M with kept:=fun i=>if l.contains ((i/8:Nat):Int)then M.seen i else M.kept i,wr:=fun n=>if l.contains (n:Int)then M.wr n+1 else M.wr n,wm:=M.wm+1}
theorem DM{W:World}{M:Mv}(h:za W M):za W (M.Kk []):=by
 exact {h with
  kept:=h.kept
  wr:=h.wr
  Oz:=fun k hk=>by
   have:=h.Oz k hk
   show 0<=(if([]:List Int).contains (k:Int)then M.wr k+1 else M.wr k)/\(if([]:List Int).contains (k:Int)then M.wr k+1 else M.wr k)<=M.wm+1
   simp;omega}
theorem vH(M:Mv)(l:List Int)(i:Nat)(hi:(i:Int)∉l):(M.Kk l).Qq i=M.Kk (l++[(i:Int)]):=by
 unfold Mv.Kk Mv.Qq;have e1:(fun k=>if k/8=i then M.seen k else if l.contains ((k/8:Nat):Int)then M.seen k else M.kept k)=fun k=>if(l++[(i:Int)]).contains ((k/8:Nat):Int)then M.seen k else M.kept k:=by
  funext k
  by_cases c:k/8=i
  . simp [c]
  . have:¬((k/8:Nat):Int)=(i:Int):=by omega
    simp [c]
    congr 1
    simp;omega
 have e2:Mc (fun n:Nat=>if l.contains (n:Int)then M.wr n+1 else M.wr n) i ((if l.contains (i:Int)then M.wr i+1 else M.wr i)+1)=fun n:Nat=>if(l++[(i:Int)]).contains (n:Int)then M.wr n+1 else M.wr n:=by
  funext k
  by_cases c:k=i
  . subst c;rw [Pb];simp [hi]
  . rw [Gb _ _ c];have:¬((k:Int)=(i:Int)):=by omega
    simp [this]
 simp only [e1,e2]
structure Rv where
 m:Nat
 d:Nat
 kb:Nat
 sb:Nat
 wb:Nat
 fb:Nat
 pb:Nat
 n:Nat
 nt:Nat
 np:Nat
 c0:Nat
 c1:Nat
 c2:Nat
 c3:Nat
 c4:Nat
 fg:Nat->Nat
 fc:Nat->Nat
 kept:Nat->Int
 seen:Nat->Int
 pass:Nat->Int
 wr:Nat->Int
 fl:Nat->Nat->Bool
 ck:Int
 bd:Int
 la:Acc
 wm:Int
def Rv.blocks(M:Rv):List Nat:=[M.m,M.d,M.kb,M.sb,M.wb,M.fb,M.pb]
def Rv.own(M:Rv)(k:Nat):Prop:=k∈M.blocks\/∃t,t<M.nt/\M.fg t=k
structure ua(W:World)(M:Rv):Prop where
 row:W.heap[M.m]?=some (.cells #[.pointer (some ⟨M.d,0,none⟩), .slice (some ⟨M.pb,0,none⟩) M.np M.c4, .int .i64 M.ck, .int .i64 M.bd, .int .i64 M.la.ki, .int .i64 M.la.th, .int .i64 M.la.pl, .int .u64 M.la.ol, .int .u64 M.la.ne, .bool M.la.dn] 141 (0,0))
 dev:W.heap[M.d]?=some (.cells #[.slice (some ⟨M.kb,0,none⟩) (8*M.n) M.c0, .slice (some ⟨M.sb,0,none⟩) (8*M.n) M.c1, .slice (some ⟨M.wb,0,none⟩) M.n M.c2, .slice (some ⟨M.fb,0,none⟩) M.nt M.c3] 148 (0,0))
 kept:Za W M.kb (8*M.n) fun k=> .int .u64 (M.kept k)
 seen:Za W M.sb (8*M.n) fun k=> .int .u64 (M.seen k)
 wr:Za W M.wb M.n fun k=> .int .i64 (M.wr k)
 fb:Za W M.fb M.nt fun t=> .slice (some ⟨M.fg t,0,none⟩) M.n (M.fc t)
 pass:Za W M.pb M.np fun k=> .int .u64 (M.pass k)
 fl:∀t,t<M.nt->Za W (M.fg t) M.n fun k=> .bool (M.fl t k)
 apart:M.blocks.Nodup
 alone:∀t,t<M.nt->M.fg t∉M.blocks
 lone:∀t,t<M.nt->∀t',t'<M.nt->t≠t'->M.fg t≠M.fg t'
 n0:0<M.n
 n1:M.n<=262144
 t1:M.nt<=64
 p1:M.np<=262144
 Cm:0<=M.ck
 Oy:0<=M.bd
 ju:M.bd<=M.ck
 Oz:∀k,k<M.n->0<=M.wr k/\M.wr k<=M.wm
structure Rv.Ne(M:Rv):Prop where
 md:M.m≠M.d
 C8:M.m≠M.kb
 ms:M.m≠M.sb
 mw:M.m≠M.wb
 mf:M.m≠M.fb
 mp:M.m≠M.pb
 dk:M.d≠M.kb
 ds:M.d≠M.sb
 dw:M.d≠M.wb
 df:M.d≠M.fb
 dp:M.d≠M.pb
 ks:M.kb≠M.sb
 kw:M.kb≠M.wb
 kf:M.kb≠M.fb
 kp:M.kb≠M.pb
 sw:M.sb≠M.wb
 sf:M.sb≠M.fb
 sp:M.sb≠M.pb
 wf:M.wb≠M.fb
 wp:M.wb≠M.pb
 fp:M.fb≠M.pb
theorem ua.ne{W:World}{M:Rv}(h:ua W M):M.Ne:=by
 have:=h.apart;simp only [Rv.blocks,List.nodup_cons,List.mem_cons,List.not_mem_nil,or_false,not_or,List.nodup_nil,and_true,not_false_eq_true]at this;obtain ⟨⟨a1,a2,a3,a4,a5,a6⟩,⟨b1,b2,b3,b4,b5⟩,⟨c1,c2,c3,c4⟩,⟨d1,d2,d3⟩,⟨e1,e2⟩,f1⟩:=this;exact ⟨a1,a2,a3,a4,a5,a6,b1,b2,b3,b4,b5,c1,c2,c3,c4,d1,d2,d3,e1,e2,f1⟩
theorem ua.lt{W:World}{M:Rv}(h:ua W M){k:Nat}(hk:M.own k):k<W.heap.size:=by
 rcases hk with hk|⟨t,ht,e⟩
 . simp only [Rv.blocks,List.mem_cons,List.not_mem_nil,or_false]at hk;rcases hk with rfl|rfl|rfl|rfl|rfl|rfl|rfl
   . exact (Array.getElem?_eq_some_iff.1 h.row).1
   . exact (Array.getElem?_eq_some_iff.1 h.dev).1
   . exact h.kept.lt
   . exact h.seen.lt
   . exact h.wr.lt
   . exact h.fb.lt
   . exact h.pass.lt
 . rw [<-e];exact (h.fl t ht).lt
theorem ua.keep{W W':World}{M:Rv}(h:ua W M)(e:∀k,M.own k->W'.heap[k]?=W.heap[k]?):ua W' M:=by
 have o:∀k,k∈M.blocks->W'.heap[k]?=W.heap[k]?:=fun k hk=>e k (Or.inl hk)
 exact {h with
  row:=(o _ (by simp [Rv.blocks])).trans h.row
  dev:=(o _ (by simp [Rv.blocks])).trans h.dev
  kept:=h.kept.keep (o _ (by simp [Rv.blocks]))
  seen:=h.seen.keep (o _ (by simp [Rv.blocks]))
  wr:=h.wr.keep (o _ (by simp [Rv.blocks]))
  fb:=h.fb.keep (o _ (by simp [Rv.blocks]))
  pass:=h.pass.keep (o _ (by simp [Rv.blocks]))
  fl:=fun t ht=>(h.fl t ht).keep (e _ (Or.inr ⟨t,ht,rfl⟩))}
theorem ua.v8{W W':World}{M:Rv}{F:Nat->Prop}(h:ua W M)(t:Ba F W W')(hd:∀k,M.own k->¬F k):ua W' M:=
 h.keep fun k hk=>t.block k (h.lt hk) (hd k hk)
theorem ua.below{W W':World}{M:Rv}(h:ua W M)(t:Below W.heap.size W W'):ua W' M:=
 h.keep fun k hk=>t.block k (h.lt hk)
theorem ua.rb{W:World}{M:Rv}(h:ua W M){k:Nat}(hk:W.heap.size<=k):¬M.own k:=fun e=>by have:=h.lt e;omega
def Rv.La(M:Rv)(at_:Int):Int×Bool:=te M.n M.np M.seen M.pass at_
set_option maxRecDepth 100000 in
theorem EM(M:Rv)(at_:Int)(q0:-9223372036854775808<=at_)(q1:at_<=9223372036854775807)(W:World)(h:ua W M):
  Calls Tryz.prog 108 #[.pointer (some ⟨M.m,0,none⟩), .int .i64 at_] W (Tg (.tuple #[.int .u64 (M.La at_).1, .bool (M.La at_).2]) W):=by
 obtain ⟨x0,x1,-⟩:=Uc h.row;have y1:W.cell? ⟨M.d,1,none⟩=some (.slice (some ⟨M.sb,0,none⟩) (8*M.n) M.c1):=by rw [Oa h.dev];rfl
 have hn:=h.n1;have hp:=h.p1;have HH:=Lib.hid h;clear h;unfold Rv.La;by_cases h0:0<=at_
 . have d0:decide (0<=at_)=true:=ea h0;have d2:decide (at_<0)=false:=ta (by omega);by_cases h1:at_/8<(M.n:Int)
   . rw [show te M.n M.np M.seen M.pass at_=(M.seen at_.toNat,true)by rw [te,if_pos h0,if_pos h1]];obtain ⟨k,rfl⟩:=Int.eq_ofNat_of_zero_le h0;have hc:=HH.out.seen.cell (k:=k) (by omega);rw [Int.toNat_natCast];generalize M.seen k=v at*;have d1:decide ((k:Int)<((8*M.n:Nat):Int))=true:=ea (by omega);have f2:(k:Int)<((8*M.n:Nat):Int):=by omega
     obtain ⟨N,hN⟩:∃N,N=8*M.n:=⟨_,rfl⟩;rw [<-hN]at y1 d1 f2;have FM:N<=2097152:=by omega
     clear hN h1
     go_enter Tryz.func108,Tryz.ntmps108
     go_wp2_with fail
     go_ret2
     exact ⟨rfl,Below.refl _ _,rfl⟩
   . rw [show te M.n M.np M.seen M.pass at_=(0,false)by rw [te,if_pos h0,if_neg h1]];have d1:decide (at_<((8*M.n:Nat):Int))=false:=ta (by omega);obtain ⟨N,hN⟩:∃N,N=8*M.n:=⟨_,rfl⟩;rw [<-hN]at y1 d1;have FM:N<=2097152:=by omega
     clear hN h1
     go_enter Tryz.func108,Tryz.ntmps108
     go_wp2_with fail
     go_ret2
     exact ⟨rfl,Below.refl _ _,rfl⟩
 . have d0:decide (0<=at_)=false:=ta h0;have d2:decide (at_<0)=true:=ea (by omega);by_cases h1:-1 -at_<(M.np:Int)
   . rw [show te M.n M.np M.seen M.pass at_=(M.pass (-1 -at_).toNat,true)by rw [te,if_neg h0,if_pos h1]];have hc:=HH.out.pass.cell (k:=(-1 -at_).toNat) (by omega);generalize M.pass (-1 -at_).toNat=v at*
     obtain ⟨k,hk⟩:=Int.eq_ofNat_of_zero_le (show 0<=-1 -at_ by omega);rw [hk]at hc;have jO:W.cell? ⟨M.pb,k,none⟩=some (.int .u64 v):=hc;obtain rfl:at_=-1 -(k:Int):=by omega
     have f2:(k:Int)<(M.np:Int):=by omega
     have d3:decide (-(M.np:Int)<=-1 -(k:Int))=true:=ea (by omega);have e3:(-1 -(-1 -(k:Int)):Int)=(k:Int):=by omega
     clear hc hk h1
     go_enter Tryz.func108,Tryz.ntmps108
     go_wp2_with fail
     go_ret2
     exact ⟨rfl,Below.refl _ _,rfl⟩
   . rw [show te M.n M.np M.seen M.pass at_=(0,false)by rw [te,if_neg h0,if_neg h1]];have d3:decide (-(M.np:Int)<=at_)=false:=ta (by omega);clear h1
     go_enter Tryz.func108,Tryz.ntmps108
     go_wp2_with fail
     go_ret2
     exact ⟨rfl,Below.refl _ _,rfl⟩
def Rv.Kb(M:Rv)(t l:Int):Int:=if Bb M.nt t=0 then rh M.n l else 1
def Rv.Bc(M:Rv)(t l:Int):Rv:={M with fl:=Mc M.fl t.toNat (Mc (M.fl t.toNat) l.toNat true)}
def jn(M M':Rv)(v:Value)(W:World)(e:Ending)(W':World):Prop:=e= .returned v/\ua W' M'/\Ba M.own W W'
theorem ua.Gs{W:World}{M:Rv}(h:ua W M){t:Nat}(ht:t<M.nt)(j:Nat)(v:Bool):
  ua (W.setCell ⟨M.fg t,j,none⟩ (.bool v)) {M with fl:=Mc M.fl t (Mc (M.fl t) j v)}:=by
 have o:∀k,k∈M.blocks->(W.setCell ⟨M.fg t,j,none⟩ (.bool v)).heap[k]?=W.heap[k]?:=fun k hk=>aa fun e=>h.alone t ht (e▸hk)
 exact {h with
  row:=(o _ (by simp [Rv.blocks])).trans h.row
  dev:=(o _ (by simp [Rv.blocks])).trans h.dev
  kept:=h.kept.keep (o _ (by simp [Rv.blocks]))
  seen:=h.seen.keep (o _ (by simp [Rv.blocks]))
  wr:=h.wr.keep (o _ (by simp [Rv.blocks]))
  fb:=h.fb.keep (o _ (by simp [Rv.blocks]))
  pass:=h.pass.keep (o _ (by simp [Rv.blocks]))
  fl:=fun t' dm=>by
   show Za _ (M.fg t') M.n fun k=> .bool (Mc M.fl t (Mc (M.fl t) j v) t' k)
   by_cases e:t'=t
   . subst e;rw [Pb];have:=(h.fl _ ht).set j (.bool v)
     simp only [aj];exact this
   . rw [Gb _ _ e];exact (h.fl t' dm).keep (aa (h.lone t' dm t ht e))}
theorem Jb{W:World}{b:Nat}{k0 k1 k2 k3:Value}{t:TypeId}(h:W.heap[b]?=some (.cells #[k0,k1,k2,k3] t (0,0))):
  W.cell? ⟨b,0,none⟩=some k0/\W.cell? ⟨b,1,none⟩=some k1/\W.cell? ⟨b,2,none⟩=some k2/\W.cell? ⟨b,3,none⟩=some k3:=by
 refine ⟨?_, ?_, ?_, ?_⟩<;>(rw [cell_of_row _ _ _ _ _ _ h];rfl)
set_option maxRecDepth 100000 in
theorem bp(M:Rv)(t l:Int)(W:World)(h:ua W M):
  Calls Tryz.prog 70 #[.pointer (some ⟨M.d,0,none⟩), .int .i64 0, .int .i64 t, .int .i64 l] W (jn M (if M.Kb t l=0 then M.Bc t l else M) (.int .i64 (M.Kb t l)) W):=by
 obtain ⟨y0,y1,y2,y3⟩:=Jb h.dev;have hn:=h.n1;have BX:=h.t1;have HH:=Lib.hid h;clear h;unfold Rv.Kb Bb rh;by_cases h0:t<0
 . have d0:decide (t<0)=true:=ea h0;rw [if_pos (show t<0\/(M.nt:Int)<=t from Or.inl h0),if_neg (by omega:¬((1:Int)=0)),if_neg (by omega:¬((1:Int)=0))];clear h0
   go_enter Tryz.func70,Tryz.ntmps70
   go_wp2_with fail
   go_ret
   exact ⟨rfl,HH.out,Ba.refl _ _⟩
 . have d0:decide (t<0)=false:=ta h0;by_cases h1:(M.nt:Int)<=t
   . have d1:decide ((M.nt:Int)<=t)=true:=ea h1;rw [if_pos (show t<0\/(M.nt:Int)<=t from Or.inr h1),if_neg (by omega:¬((1:Int)=0)),if_neg (by omega:¬((1:Int)=0))];clear h0 h1
     go_enter Tryz.func70,Tryz.ntmps70
     go_wp2_with fail
     go_ret
     exact ⟨rfl,HH.out,Ba.refl _ _⟩
   . have d1:decide ((M.nt:Int)<=t)=false:=ta h1;rw [if_neg (show¬(t<0\/(M.nt:Int)<=t)by omega)];simp only [if_true];by_cases h2:l<0
     . have d2:decide (l<0)=true:=ea h2;rw [if_pos (show l<0\/(M.n:Int)<=l from Or.inl h2),if_neg (by omega:¬((5:Int)=0))];clear h0 h1 h2
       go_enter Tryz.func70,Tryz.ntmps70
       go_wp2_with fail
       go_ret
       exact ⟨rfl,HH.out,Ba.refl _ _⟩
     . have d2:decide (l<0)=false:=ta h2;by_cases h3:(M.n:Int)<=l
       . have d3:decide ((M.n:Int)<=l)=true:=ea h3;rw [if_pos (show l<0\/(M.n:Int)<=l from Or.inr h3),if_neg (by omega:¬((5:Int)=0))];clear h0 h1 h2 h3
         go_enter Tryz.func70,Tryz.ntmps70
         go_wp2_with fail
         go_ret
         exact ⟨rfl,HH.out,Ba.refl _ _⟩
       . have d3:decide ((M.n:Int)<=l)=false:=ta h3;rw [if_neg (show¬(l<0\/(M.n:Int)<=l)by omega)];simp only [if_true];obtain ⟨a,rfl⟩:=Int.eq_ofNat_of_zero_le (show 0<=t by omega);obtain ⟨b,rfl⟩:=Int.eq_ofNat_of_zero_le (show 0<=l by omega);have ha:a<M.nt:=by omega
         have hb:b<M.n:=by omega
         have HS:=Lib.hid (HH.out.Gs ha b true);have HO:Hid (M.own (M.fg a)):=Lib.hid (Or.inr ⟨a,ha,rfl⟩);have g1:=HH.out.fb.cell ha;have g2:=(HH.out.fl a ha).cell hb
         have g3:=(HH.out.fl a ha).free b
         have i0:(0:Int)<=(a:Int):=by omega
         have i1:(a:Int)<(M.nt:Int):=by omega
         have i2:(0:Int)<=(b:Int):=by omega
         have i3:(b:Int)<(M.n:Int):=by omega
         have HE:Hid (M.Bc (a:Int) (b:Int)={M with fl:=Mc M.fl a (Mc (M.fl a) b true)}):=Lib.hid rfl;generalize M.fl a b=u at*;generalize M.fg a=g at*;generalize M.fc a=c at*;obtain ⟨N,hN⟩:∃N,N=M.Bc (a:Int) (b:Int):=⟨_,rfl⟩;rw [<-hN]at HE⊢;have tH:Hid (ua (W.setCell ⟨g,b,none⟩ (.bool true)) N):=Lib.hid (by rw [HE.out];exact HS.out);clear ha hb h0 h1 h2 h3
         go_enter Tryz.func70,Tryz.ntmps70
         go_wp2_with fail
         go_ret
         exact ⟨rfl,tH.out,(Ba.refl _ _).set (fun _=>HO.out) _ _⟩
set_option maxRecDepth 100000 in
theorem Hs(M:Rv)(t l:Int)(W:World)(h:ua W M)(hn:Bb M.nt t≠0):
  Calls Tryz.prog 70 #[.pointer (some ⟨M.d,0,none⟩), .int .i64 1, .int .i64 t, .int .i64 l] W (jn M M (.int .i64 1) W):=by
 obtain ⟨y0,y1,y2,y3⟩:=Jb h.dev;have BX:=h.t1;have HH:=Lib.hid h;clear h;unfold Bb at hn;by_cases h0:t<0
 . have d0:decide (t<0)=true:=ea h0;clear h0 hn
   go_enter Tryz.func70,Tryz.ntmps70
   go_wp2_with fail
   go_ret
   exact ⟨rfl,HH.out,Ba.refl _ _⟩
 . have d0:decide (t<0)=false:=ta h0;have h1:(M.nt:Int)<=t:=by
    rcases Int.lt_or_le t (M.nt:Int)with h|h
    . rw [if_neg (by omega)]at hn;exact absurd rfl hn
    . exact h
   have d1:decide ((M.nt:Int)<=t)=true:=ea h1;clear h0 h1 hn
   go_enter Tryz.func70,Tryz.ntmps70
   go_wp2_with fail
   go_ret
   exact ⟨rfl,HH.out,Ba.refl _ _⟩
theorem ua.EE{W:World}{M:Rv}(h:ua W M)(k:Nat)(v:Int):ua (W.setCell ⟨M.kb,k,none⟩ (.int .u64 v)) {M with kept:=Mc M.kept k v}:=by
 have n:=h.ne;exact {h with
  row:=(aa n.C8).trans h.row
  dev:=(aa n.dk).trans h.dev
  kept:=by
   have:=h.kept.set k (.int .u64 v);simp only [aj];exact this
  seen:=h.seen.keep (aa (Ne.symm n.ks))
  wr:=h.wr.keep (aa (Ne.symm n.kw))
  fb:=h.fb.keep (aa (Ne.symm n.kf))
  pass:=h.pass.keep (aa (Ne.symm n.kp))
  fl:=fun t ht=>(h.fl t ht).keep (aa fun e=>h.alone t ht (by rw [e];simp [Rv.blocks]))}
theorem ua.VP{W:World}{M:Rv}(h:ua W M)(k:Nat)(v:Int)(h0:0<=v)(h1:v<=M.wm):ua (W.setCell ⟨M.wb,k,none⟩ (.int .i64 v)) {M with wr:=Mc M.wr k v}:=by
 have n:=h.ne;exact {h with
  row:=(aa n.mw).trans h.row
  dev:=(aa n.dw).trans h.dev
  kept:=h.kept.keep (aa n.kw)
  seen:=h.seen.keep (aa n.sw)
  wr:=by
   have:=h.wr.set k (.int .i64 v);simp only [aj];exact this
  fb:=h.fb.keep (aa (Ne.symm n.wf))
  pass:=h.pass.keep (aa (Ne.symm n.wp))
  fl:=fun t ht=>(h.fl t ht).keep (aa fun e=>h.alone t ht (by rw [e];simp [Rv.blocks]))
  Oz:=fun j hj=>by
   show 0<=Mc M.wr k v j/\Mc M.wr k v j<=M.wm
   by_cases e:j=k
   . rw [e,Pb];exact ⟨h0,h1⟩
   . rw [Gb _ _ e];exact h.Oz j hj}
def Rv.upto(M:Rv)(t k:Nat):Rv:={M with kept:=fun i=>if i/8<k/\M.fl t (i/8)=true then M.seen i else M.kept i,wr:=fun j=>if j<k/\M.fl t j=true then M.wr j+1 else M.wr j,wm:=M.wm+1}
def Rv.sh(M:Rv)(t k j:Nat):Rv:={M.upto t k with kept:=fun i=>if i/8=k/\i %8<j then M.seen i else(M.upto t k).kept i}
theorem F8{W:World}{M:Rv}(h:ua W M)(t:Nat):ua W (M.upto t 0):=by
 exact {h with
  kept:=h.kept.congr fun k _=>by simp [Rv.upto]
  wr:=h.wr.congr fun k _=>by simp [Rv.upto]
  Oz:=fun k hk=>by have:=h.Oz k hk;simp [Rv.upto];omega}
theorem AV(M:Rv)(t k:Nat):M.sh t k 0=M.upto t k:=by
 unfold Rv.sh;have:(fun i=>if i/8=k/\i %8<0 then M.seen i else(M.upto t k).kept i)=(M.upto t k).kept:=by funext i;rw [if_neg (by omega)]
 rw [this]
theorem wH(M:Rv)(t k j:Nat)(hj:j<8):{M.sh t k j with kept:=Mc (M.sh t k j).kept (8*k+j) (M.seen (8*k+j))}=M.sh t k (j+1):=by
 have:Mc (M.sh t k j).kept (8*k+j) (M.seen (8*k+j))=(M.sh t k (j+1)).kept:=by
  funext i
  show Mc (fun i=>if i/8=k/\i %8<j then M.seen i else(M.upto t k).kept i) (8*k+j) (M.seen (8*k+j)) i=if i/8=k/\i %8<j+1 then M.seen i else(M.upto t k).kept i
  by_cases e:i=8*k+j
  . rw [e,Pb,if_pos (by omega)]
  . rw [Gb _ _ e];by_cases c:i/8=k/\i %8<j
    . rw [if_pos c,if_pos (by omega)]
    . rw [if_neg c,if_neg (by omega)]
 rw [this];rfl
theorem XP(M:Rv)(t k:Nat)(h:M.fl t k=true):{M.sh t k 8 with wr:=Mc (M.sh t k 8).wr k (M.wr k+1)}=M.upto t (k+1):=by
 have e1:Mc (M.sh t k 8).wr k (M.wr k+1)=(M.upto t (k+1)).wr:=by
  funext i
  show Mc (fun j=>if j<k/\M.fl t j=true then M.wr j+1 else M.wr j) k (M.wr k+1) i=if i<k+1/\M.fl t i=true then M.wr i+1 else M.wr i
  by_cases e:i=k
  . rw [e,Pb,if_pos ⟨by omega,h⟩]
  . rw [Gb _ _ e];by_cases c:i<k/\M.fl t i=true
    . rw [if_pos c,if_pos ⟨by omega,c.2⟩]
    . rw [if_neg c,if_neg (fun c'=>c ⟨by omega,c'.2⟩)]
 have e2:(M.sh t k 8).kept=(M.upto t (k+1)).kept:=by
  funext i
  show(if i/8=k/\i %8<8 then M.seen i else if i/8<k/\M.fl t (i/8)=true then M.seen i else M.kept i)=if i/8<k+1/\M.fl t (i/8)=true then M.seen i else M.kept i
  by_cases e:i/8=k
  . rw [if_pos ⟨e,by omega⟩,if_pos ⟨by omega,by rw [e];exact h⟩]
  . rw [if_neg (fun c=>e c.1)];by_cases c:i/8<k/\M.fl t (i/8)=true
    . rw [if_pos c,if_pos ⟨by omega,c.2⟩]
    . rw [if_neg c,if_neg (fun c'=>c ⟨by omega,c'.2⟩)]
 rw [e1]
 show({M.upto t k with kept:=(M.sh t k 8).kept,wr:=(M.upto t (k+1)).wr}:Rv)=_
 rw [e2];rfl
theorem BV(M:Rv)(t k:Nat)(h:M.fl t k=false):M.upto t (k+1)=M.upto t k:=by
 have e1:(M.upto t (k+1)).wr=(M.upto t k).wr:=by
  funext i
  show(if i<k+1/\M.fl t i=true then M.wr i+1 else M.wr i)=if i<k/\M.fl t i=true then M.wr i+1 else M.wr i
  by_cases e:i=k
  . rw [e,h];simp
  . by_cases c:i<k/\M.fl t i=true
    . rw [if_pos c,if_pos ⟨by omega,c.2⟩]
    . rw [if_neg c,if_neg (fun c'=>c ⟨by omega,c'.2⟩)]
 have e2:(M.upto t (k+1)).kept=(M.upto t k).kept:=by
  funext i
  show(if i/8<k+1/\M.fl t (i/8)=true then M.seen i else M.kept i)=if i/8<k/\M.fl t (i/8)=true then M.seen i else M.kept i
  by_cases e:i/8=k
  . rw [e,h];simp
  . by_cases c:i/8<k/\M.fl t (i/8)=true
    . rw [if_pos c,if_pos ⟨by omega,c.2⟩]
    . rw [if_neg c,if_neg (fun c'=>c ⟨by omega,c'.2⟩)]
 show({M with kept:=(M.upto t (k+1)).kept,wr:=(M.upto t (k+1)).wr,wm:=M.wm+1}:Rv)=_
 rw [e1,e2];rfl
def Rv.Jd(M:Rv)(t a b:Nat):Rv:={M with fl:=fun x y=>if x=t/\y<M.n/\(x<a\/x=a/\y<b)then false else M.fl x y}
theorem YP(M:Rv)(t:Nat):M.Jd t 0 0=M:=by
 unfold Rv.Jd;have:(fun x y=>if x=t/\y<M.n/\(x<0\/x=0/\y<0)then false else M.fl x y)=M.fl:=by funext x y;rw [if_neg (by omega)]
 rw [this]
theorem FE(M:Rv)(t a:Nat):M.Jd t a M.n=M.Jd t (a+1) 0:=by
 unfold Rv.Jd;have:(fun x y=>if x=t/\y<M.n/\(x<a\/x=a/\y<M.n)then false else M.fl x y)=fun x y=>if x=t/\y<M.n/\(x<a+1\/x=a+1/\y<0)then false else M.fl x y:=by
  funext x y
  by_cases c:x=t/\y<M.n/\(x<a\/x=a/\y<M.n)
  . rw [if_pos c,if_pos (by omega)]
  . rw [if_neg c,if_neg (by omega)]
 rw [this]
theorem WB(M:Rv)(t a b:Nat)(h:a≠t):M.Jd t a (b+1)=M.Jd t a b:=by
 unfold Rv.Jd;have:(fun x y=>if x=t/\y<M.n/\(x<a\/x=a/\y<b+1)then false else M.fl x y)=fun x y=>if x=t/\y<M.n/\(x<a\/x=a/\y<b)then false else M.fl x y:=by
  funext x y
  by_cases c:x=t/\y<M.n/\(x<a\/x=a/\y<b+1)
  . rw [if_pos c,if_pos (by omega)]
  . rw [if_neg c,if_neg (by omega)]
 rw [this]
theorem xH(M:Rv)(t b:Nat)(h:b<M.n):{M.Jd t t b with fl:=Mc (M.Jd t t b).fl t (Mc ((M.Jd t t b).fl t) b false)}=M.Jd t t (b+1):=by
 have:Mc (M.Jd t t b).fl t (Mc ((M.Jd t t b).fl t) b false)=(M.Jd t t (b+1)).fl:=by
  funext x y
  show Mc (M.Jd t t b).fl t (Mc ((M.Jd t t b).fl t) b false) x y=if x=t/\y<M.n/\(x<t\/x=t/\y<b+1)then false else M.fl x y
  by_cases e:x=t
  . rw [e,Pb];by_cases e':y=b
    . rw [e',Pb,if_pos (by omega)]
    . rw [Gb _ _ e']
      show(if t=t/\y<M.n/\(t<t\/t=t/\y<b)then false else M.fl t y)=_
      by_cases c:y<M.n/\y<b
      . rw [if_pos (by omega),if_pos (by omega)]
      . rw [if_neg (by omega),if_neg (by omega)]
  . rw [Gb _ _ e]
    show(if x=t/\y<M.n/\(x<t\/x=t/\y<b)then false else M.fl x y)=_
    rw [if_neg (by omega),if_neg (by omega)]
 rw [this];rfl
def Rv.fenced(M:Rv)(t:Nat):Rv:=(M.upto t M.n).Jd t M.nt 0
end Go.Proofs.YtfnkmolffhfpoaaGreat
