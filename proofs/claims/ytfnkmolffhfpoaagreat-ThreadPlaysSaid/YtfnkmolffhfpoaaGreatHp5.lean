/- -/
import Derived.Test.YtfnkmolffhfpoaaGreatHp4
import Derived.Laws.MakeOwn
set_option linter.unusedVariables false
set_option linter.unusedSimpArgs false
set_option linter.unusedSectionVars false
namespace Go.Proofs.YtfnkmolffhfpoaaGreat
namespace Sk
open Go.RowKit
variable[Interp]
def AH.put(σ:AH)(b:Nat)(x:Option Na):AH:=⟨σ.next,Tr.put (b+1) σ.tr b x⟩
def AH.new(σ:AH)(x:Na):AH:=⟨σ.next+1,Tr.put (σ.next+1) σ.tr σ.next (some x)⟩
theorem Ec{β:Sort _}(σ:AH)(b:Nat)(x:Option Na)(k:AH->β):σ.oe b x k=k (σ.put b x):=by obtain ⟨n,t⟩:=σ;simp [AH.oe,AH.put,mo]
theorem vj{β:Sort _}(σ:AH)(x:Na)(k:AH->β):σ.zE x k=k (σ.new x):=by obtain ⟨n,t⟩:=σ;simp [AH.zE,AH.new,mo,xl]
theorem Bb(σ:AH)(b:Nat)(x:Option Na)(j:Nat):(σ.put b x).get j=if j=b then x else σ.get j:=Ii _ _ _ _ _ (Nat.lt_succ_self b)
theorem Zc(σ:AH)(x:Na)(j:Nat):(σ.new x).get j=if j=σ.next then some x else σ.get j:=Ii _ _ _ _ _ (Nat.lt_succ_self _)
@[simp] theorem P3(σ:AH)(b:Nat)(x:Option Na):(σ.put b x).next=σ.next:=rfl
@[simp] theorem Qt(σ:AH)(x:Na):(σ.new x).next=σ.next+1:=rfl
def Mp.set(R:Mp)(b:Nat)(x:Nat×Nat):Mp:=fun c=>if c=b then some x else R c
theorem Mp.xC{R:Mp}{b:Nat}{x:Nat×Nat}(h:R b=none):R.le (R.set b x):=fun c y e=>by
 unfold Mp.set;by_cases hc:c=b
 . subst hc;rw [h]at e;cases e
 . rw [if_neg hc];exact e
theorem Mp.Jd(R:Mp)(b:Nat)(x:Nat×Nat):R.set b x b=some x:=if_pos rfl
theorem Mp.Cf{R:Mp}{b c:Nat}{x:Nat×Nat}(h:c≠b):R.set b x c=R c:=if_neg h
structure Ext(R:Mp)(σ:AH)(R':Mp)(σ':AH):Prop where
 le:R.le R'
 next:σ.next<=σ'.next
 fr:∀b,b<σ.next->R b=none->σ'.get b=σ.get b/\R' b=none
theorem Ext.refl(R:Mp)(σ:AH):Ext R σ R σ:=⟨R.le_refl,Nat.le_refl _,fun b _ h=>⟨rfl,h⟩⟩
theorem Ext.trans{R S T:Mp}{a b c:AH}(h:Ext R a S b)(k:Ext S b T c):Ext R a T c:=
 ⟨Mp.le_trans h.le k.le,Nat.le_trans h.next k.next,fun q hq hr=>by
   obtain ⟨h1,h2⟩:=h.fr q hq hr;obtain ⟨k1,k2⟩:=k.fr q (Nat.lt_of_lt_of_le hq h.next) h2;exact ⟨k1.trans h1,k2⟩⟩
section
variable{B:Nat->Prop}{w0:World}{R:Mp}{σ:AH}{w:World}
theorem Qc.yo(h:Qc B w0 R σ w){b:Nat}(hb:σ.next<=b):R b=none:=by
 cases e:R b with
 |none=>rfl
 |some x=>have:=h.tC b x e;omega
theorem iO.keep{O:Nat->Nat->Prop}{w':World}(h:iO B R σ O w)(hs:w.heap.size<=w'.heap.size)(hk:∀b r s e,R b=some (r,s)->σ.get b=some (.gh e)->∀k,O b k->w'.heap[k]?=w.heap[k]?):iO B R σ O w':=fun b r s e h1 h2=>by
 obtain ⟨⟨g,k1,k2⟩,k3,k4⟩:=h b r s e h1 h2;exact ⟨⟨g,k1,Interp.gh_keep _ _ _ _ _ k2 hs (hk b r s e h1 h2)⟩,k3,k4⟩
theorem iO.lt{O:Nat->Nat->Prop}(h:iO B R σ O w){b r s:Nat}{e:Value}(h1:R b=some (r,s))(h2:σ.get b=some (.gh e)){k:Nat}(hk:O b k):k<w.heap.size:=by
 obtain ⟨⟨g,k1,k2⟩,_⟩:=h b r s e h1 h2;exact Interp.gh_lt _ _ _ _ k2 k hk
theorem Qc.world{w':World}(h:Qc B w0 R σ w)(hh:w'.heap=w.heap)(h1:w'.os=w.os)(h2:w'.tape=w.tape)(h3:w'.output=w.output):Qc B w0 R σ w':=
 ⟨h.tC,fun b r s e=>by rw [hh];exact h.lt b r s e,fun b r s o e g=>by rw [hh];exact h.obj b r s o e g,h.inj,
   ⟨h1.trans h.below.os,h2.trans h.below.tape,h3.trans h.below.output,by rw [hh];exact h.below.size,fun k hk ht=>by rw [hh];exact h.below.block k hk ht⟩,h.base,by
     obtain ⟨O,hO⟩:=h.MK;exact ⟨O,hO.keep (by rw [hh];exact Nat.le_refl _) fun b r s e _ _ k _=>by rw [hh]⟩⟩
theorem Qc.drawn(h:Qc B w0 R σ w)(n:Nat):Qc B w0 R σ {w with drawn:=n}:=h.world rfl rfl rfl rfl
theorem Qc.ghost(h:Qc B w0 R σ w)(x:Na):Qc B w0 R (σ.new x) w:=
 ⟨fun b y e=>Nat.lt_succ_of_lt (h.tC b y e),h.lt,fun b r s o e g=>by
    rw [Zc,if_neg (by have:=h.tC b _ e;omega)]at g;exact h.obj b r s o e g,
   fun b1 b2 r s1 s2 e1 e2 Jc=>by
    rw [Zc,Zc,if_neg (by have:=h.tC b1 _ e1;omega),if_neg (by have:=h.tC b2 _ e2;omega)];exact h.inj b1 b2 r s1 s2 e1 e2 Jc,h.below,h.base,by
    obtain ⟨O,hO⟩:=h.MK;refine ⟨O,fun b r s e h1 h2=> ?_⟩;rw [Zc,if_neg (by have:=h.tC b _ h1;omega)]at h2;obtain ⟨k1,k2,k3⟩:=hO b r s e h1 h2;refine ⟨k1,k2,fun b2 r2 s2 o2 Jc h3 h4=> ?_⟩;rw [Zc,if_neg (by have:=h.tC b2 _ h3;omega)]at h4;exact k3 b2 r2 s2 o2 Jc h3 h4⟩
theorem heap_alloc_old(w:World)(o:Obj){k:Nat}(hk:k<w.heap.size):(w.alloc o).heap[k]?=w.heap[k]?:=by
 show(w.heap.push o)[k]?=_
 rw [Array.getElem?_push,if_neg (by omega)]
theorem Pz(w:World)(o:Obj):(w.alloc o).heap[w.heap.size]?=some o:=by
 show(w.heap.push o)[w.heap.size]?=_
 simp
theorem Qc.real(h:Qc B w0 R σ w){b:Nat}{x:Na}(hb:b<σ.next)(hr:R b=none)(hg:σ.get b=some x){o:Obj}{s:Nat}(ho:Jp R x (some o) s)(hx:∀e,x≠ .gh e:=by(intro e h;cases h)):
  Qc B w0 (R.set b (w.heap.size,s)) σ (w.alloc o):=by
 have hle:R.le (R.set b (w.heap.size,s)):=Mp.xC hr;refine ⟨fun c y e=> ?_,fun c r q e=> ?_,fun c r q y e g=> ?_,fun b1 b2 r s1 s2 e1 e2 Jc=> ?_, ?_,h.base, ?_⟩
 . by_cases hc:c=b
   . subst hc;exact hb
   . rw [Mp.Cf hc]at e;exact h.tC c y e
 . by_cases hc:c=b
   . subst hc;rw [Mp.Jd]at e;cases e;simp
   . rw [Mp.Cf hc]at e;have:=h.lt c r q e;simp;omega
 . by_cases hc:c=b
   . subst hc;rw [Mp.Jd]at e;cases e;rw [hg]at g;cases g;refine ⟨h.base _ h.below.size, ?_⟩;rw [Pz];exact ho.mono hle
   . rw [Mp.Cf hc]at e;obtain ⟨h1,h2⟩:=h.obj c r q y e g;refine ⟨h1, ?_⟩;rw [heap_alloc_old _ _ (h.lt c r q e)];exact h2.mono hle
 . by_cases h1:b1=b
   . subst h1;rw [Mp.Jd]at e1;cases e1;rw [Mp.Cf (Ne.symm Jc)]at e2;have:=h.lt b2 _ _ e2;omega
   . rw [Mp.Cf h1]at e1;by_cases h2:b2=b
     . subst h2;rw [Mp.Jd]at e2;cases e2;have:=h.lt b1 _ _ e1;omega
     . rw [Mp.Cf h2]at e2;exact h.inj b1 b2 r s1 s2 e1 e2 Jc
 . exact h.below.alloc o
 . obtain ⟨O,hO⟩:=h.MK;refine ⟨O,fun c r q e h1 h2=> ?_⟩;have xR:c≠b:=fun k=>by subst k;rw [hg]at h2;cases h2;exact hx e rfl
   rw [Mp.Cf xR]at h1;have hl:∀k,O c k->k<w.heap.size:=fun k hk=>hO.lt h1 h2 hk
   obtain ⟨⟨g,k1,k2⟩,k3,k4⟩:=hO c r q e h1 h2;refine ⟨⟨g,k1,Interp.gh_keep _ _ _ _ _ k2 (by show _<=(w.heap.push o).size;simp) fun k hk=>heap_alloc_old _ _ (hl k hk)⟩,k3,fun b2 r2 s2 o2 Jc h3 h4=> ?_⟩;by_cases h5:b2=b
   . subst h5;rw [Mp.Jd]at h3;cases h3;refine ⟨fun hk=>Nat.lt_irrefl _ (hl _ hk),fun e2 he=> ?_⟩;subst he;rw [hg]at h4;cases h4;exact absurd rfl (hx e2)
   . rw [Mp.Cf h5]at h3;exact k4 b2 r2 s2 o2 Jc h3 h4
theorem Qc.yR{w':World}(h:Qc B w0 R σ w){b r s:Nat}(hb:R b=some (r,s))(hgy:∃y,σ.get b=some y/\∀e,y≠ .gh e){x:Na}(hx:Jp R x w'.heap[r]? s)(ho:∀k,k≠r->w'.heap[k]?=w.heap[k]?)(mj:w'.heap.size=w.heap.size)
  (h1:w'.os=w.os)(h2:w'.tape=w.tape)(h3:w'.output=w.output)(hxg:∀e,x≠ .gh e:=by(intro e h;cases h)):Qc B w0 R (σ.put b (some x)) w':=by
 obtain ⟨y0,hy0,hyg⟩:=hgy;have hg:σ.get b≠none:=by rw [hy0];simp
 have hB:B r:=(h.obj b r s y0 hb hy0).1
 refine ⟨h.tC,fun c q t e=>by rw [mj];exact h.lt c q t e,fun c q t y e g=> ?_,fun b1 b2 r' s1 s2 e1 e2 Jc=> ?_, ?_,h.base, ?_⟩
 . rw [Bb]at g;by_cases hc:c=b
   . subst hc;rw [if_pos rfl]at g;cases g;rw [hb]at e;cases e;exact ⟨hB,hx⟩
   . rw [if_neg hc]at g;obtain ⟨k1,k2⟩:=h.obj c q t y e g;have hqr:q≠r:=fun hq=>by
      subst hq;rcases h.inj c b q t s e hb hc with k|k
      . rw [g]at k;cases k
      . exact hg k
     exact ⟨k1,by rw [ho q hqr];exact k2⟩
 . rw [Bb,Bb];by_cases h1:b1=b
   . subst h1;right;rw [if_neg (Ne.symm Jc)];rcases h.inj b1 b2 r' s1 s2 e1 e2 Jc with k|k
     . exact absurd k hg
     . exact k
   . rw [if_neg h1];by_cases h2:b2=b
     . subst h2;left;rcases h.inj b1 b2 r' s1 s2 e1 e2 Jc with k|k
       . exact k
       . exact absurd k hg
     . rw [if_neg h2];exact h.inj b1 b2 r' s1 s2 e1 e2 Jc
 . exact ⟨h1.trans h.below.os,h2.trans h.below.tape,h3.trans h.below.output,by rw [mj];exact h.below.size,fun k hk ht=>by rw [ho k (fun e=>by subst e;exact ht hB)];exact h.below.block k hk ht⟩
 . obtain ⟨O,hO⟩:=h.MK;refine ⟨O,fun c q t e i1 i2=> ?_⟩;have xR:c≠b:=fun k=>by subst k;rw [Bb,if_pos rfl]at i2;cases i2;exact hxg e rfl
   rw [Bb,if_neg xR]at i2;obtain ⟨⟨g,k1,k2⟩,k3,k4⟩:=hO c q t e i1 i2;have hr:¬O c r:=(k4 b r s y0 (Ne.symm xR) hb hy0).1
   refine ⟨⟨g,k1,Interp.gh_keep _ _ _ _ _ k2 (by rw [mj];exact Nat.le_refl _) fun k hk=>ho k fun e=>by subst e;exact hr hk⟩,k3,fun b2 r2 s2 o2 Jc h4 h5=> ?_⟩;rw [Bb]at h5;by_cases h6:b2=b
   . subst h6;rw [if_pos rfl]at h5;cases h5;rw [hb]at h4;cases h4;exact ⟨hr,fun e2 he=>absurd he (hxg e2)⟩
   . rw [if_neg h6]at h5;exact k4 b2 r2 s2 o2 Jc h4 h5
theorem Qc.kill(h:Qc B w0 R σ w)(b:Nat):Qc B w0 R (σ.put b none) w:=
 ⟨h.tC,h.lt,fun c r s o e g=>by
    rw [Bb]at g;by_cases hc:c=b
    . rw [if_pos hc]at g;cases g
    . rw [if_neg hc]at g;exact h.obj c r s o e g,
   fun b1 b2 r s1 s2 e1 e2 Jc=>by
    rw [Bb,Bb];by_cases h1:b1=b
    . left;rw [if_pos h1]
    . by_cases h2:b2=b
      . right;rw [if_pos h2]
      . rw [if_neg h1,if_neg h2];exact h.inj b1 b2 r s1 s2 e1 e2 Jc,h.below,h.base,by
    obtain ⟨O,hO⟩:=h.MK;refine ⟨O,fun c r s e h1 h2=> ?_⟩;rw [Bb]at h2;by_cases hc:c=b
    . rw [if_pos hc]at h2;cases h2
    . rw [if_neg hc]at h2;obtain ⟨k1,k2,k3⟩:=hO c r s e h1 h2;refine ⟨k1,k2,fun b2 r2 s2 o2 Jc h3 h4=> ?_⟩;rw [Bb]at h4;by_cases NQ:b2=b
      . rw [if_pos NQ]at h4;cases h4
      . rw [if_neg NQ]at h4;exact k3 b2 r2 s2 o2 Jc h3 h4⟩
theorem Ext.put(R:Mp)(σ:AH){b:Nat}{x:Nat×Nat}(hb:R b=some x)(y:Option Na):Ext R σ R (σ.put b y):=
 ⟨R.le_refl,Nat.le_refl _,fun c _ hr=>⟨by rw [Bb,if_neg (fun e=>by subst e;rw [hb]at hr;cases hr)],hr⟩⟩
theorem Ext.new(h:Qc B w0 R σ w)(x:Na)(y:Nat×Nat):Ext R σ (R.set σ.next y) (σ.new x):=
 ⟨Mp.xC (h.yo (Nat.le_refl _)),Nat.le_succ _,fun c hc hr=>⟨by rw [Zc,if_neg (by omega)],by rw [Mp.Cf (by omega)];exact hr⟩⟩
theorem Qc.new(h:Qc B w0 R σ w){x:Na}{o:Obj}{s:Nat}(ho:Jp R x (some o) s)(hx:∀e,x≠ .gh e:=by(intro e h;cases h)):Qc B w0 (R.set σ.next (w.heap.size,s)) (σ.new x) (w.alloc o):=
 (h.ghost x).real (Nat.lt_succ_self _) (h.yo (Nat.le_refl _)) (by rw [Zc,if_pos rfl]) ho hx
end
theorem uk{R:Mp}{l l':List Value}(h:LR R l l')(e:TypeId):Jp R (.cells (Row.nil.app l) e true) (some (.cells ⟨l'⟩ e (0,0))) l'.length:=by
 refine ⟨⟨l'⟩,rfl,rfl, ?_,fun _=> ?_,fun i v hv=> ?_⟩
 . rw [(Re l Row.nil).1,<-h.1];simp [Row.nil]
 . rw [(Re l Row.nil).1,<-h.1];simp [Row.nil]
 . rw [uj l Row.nil rfl]at hv
   split at hv
   . have hv:l[i]?=some v:=by simpa [Row.nil]using hv
     obtain ⟨y,hy,hr⟩:=h.get hv;refine ⟨?_,y,by simpa using hy,hr⟩;rw [(Re l Row.nil).1];have:=(List.getElem?_eq_some_iff.1 hv).1;simp [Row.nil];omega
   . simp [Row.nil,rj,Tr.get_nil]at hv
theorem vk{l:List Value}{e:TypeId}{k f:Nat->Value}{x:Na}(h:Fp l e k=some (x,f)):x= .cells (Row.nil.app l) e true/\f=k:=by
 unfold Fp at h;rw [tj]at h;cases h;exact ⟨rfl,rfl⟩
theorem nO{l:List Value}{e:TypeId}{k f:Nat->Value}{x:Na}(h:Fp l e k=some (x,f)):∀e,x≠ .gh e:=by
 rw [(vk h).1];intro e h;cases h
theorem bF{E:Env}{t:Tm}{o:Op}{x:Na}{f:Nat->Value}(h:Ad E t o=some (x,f)):∀e,x≠ .gh e:=by
 cases o<;>simp only [Ad]at h
 all_goals (repeat' split at h)
 all_goals first
  |(cases h;done)
  |exact nO h
  |(cases h;intro e h;cases h;done)
theorem Il(l:List Value):∀n,(Oi l n).length=n*l.length/\∀j,j<n*l.length->(Oi l n)[j]?=l[j %l.length]?
 |0=>⟨by simp [Oi],fun j hj=>by simp at hj⟩
 |n+1=>by
  obtain ⟨h1,h2⟩:=Il l n;refine ⟨by simp [Oi,h1,Nat.add_mul];omega,fun j hj=> ?_⟩;simp only [Oi];by_cases hjl:j<l.length
  . rw [List.getElem?_append_left hjl,Nat.mod_eq_of_lt hjl]
  . rw [List.getElem?_append_right (by omega),h2 _ (by rw [Nat.add_mul]at hj;omega)]
    congr 1
    rw [Nat.mod_eq_sub_mod (by omega:l.length<=j)]
theorem wk{R:Mp}{z:Value}(hz:Sk.flat z=true)(n:Nat):LR R (Oi (Ra z) n) (Oi (Ra z) n):=by
 induction n with
 |zero=>exact LR.nil R
 |succ n ih=>exact LR.append (tk (Bf R hz)) ih
theorem Kh{z:Value}{s n:Nat}(hs:(Ra z).length=s+1):((Array.range (n*(s+1))).map (z.cells[·%z.cells.size]!)).toList=Oi (Ra z) n:=by
 have mj:z.cells.size=s+1:=by rw [<-hs,yd];simp
 apply List.ext_getElem?;intro j;obtain ⟨h1,h2⟩:=Il (Ra z) n;by_cases hj:j<n*(s+1)
 . rw [h2 j (by rw [hs];exact hj),hs];have hm:j %(s+1)<s+1:=Nat.mod_lt _ (by omega);simp [hj,mj,yd,hm]
 . rw [List.getElem?_eq_none (by simp;omega),List.getElem?_eq_none (by rw [h1,hs];omega)]
section
variable{E:Env}(hE:Yb E){R:Mp}{t:Tm}{a:Act}(ht:TR R t a.tmps)
include hE ht
theorem Rt(o:Oper){x:Na}{f:Nat->Value}(h:Ad E t o.op=some (x,f)):
  ∃(ob:Obj) (s:Nat) (g:Nat->Value),Jp R x (some ob) s/\(∀w,(execOp a.eval o).run E.P w= .ok (.value (g w.heap.size)) (w.alloc ob))/\∀(R':Mp) (b r:Nat),R' b=some (r,s)->VR R' (f b) (g r):=by
 obtain ⟨dst,op,tp,pos,af,gd⟩:=o;cases op with
 |alloc e=>
  simp only [Ad]at h
  split at h
  . rename_i i hi;obtain ⟨ii,d,hT⟩:=hE.is hi
    split at h
    . rename_i z hz;obtain ⟨Mi,uh⟩:=hT.zero hz;obtain ⟨rfl,rfl⟩:=vk h;have hl:LR R (Ra z) (Ra z):=tk (Bf R uh);refine ⟨_,_,fun r=> .pointer (some ⟨r,0,none⟩),uk hl e,fun w=>Dh ?_,fun R' b r hb=> .ptr b 0 r _ hb⟩;simp [Instr.alloc,Bq w hT.info Mi,Result.andThen,newVar,newRow,yd]
    . cases h
  . cases h
 |box e y=>
  simp only [Ad]at h
  split at h
  . rename_i v hv
    split at h
    . obtain ⟨rfl,rfl⟩:=vk h;have hv:=Qa ht hv;refine ⟨_,_,fun r=> .pointer (some ⟨r,0,none⟩),uk (tk hv) e,fun w=>Dh ?_,fun R' b r hb=> .ptr b 0 r _ hb⟩;simp [Instr.box,Result.andThen,newVar,newRow,yd]
    . cases h
  . cases h
 |buildSlice ty n ps=>
  simp only [Ad]at h
  split at h
  . rename_i i vs hi sR;obtain ⟨ii,d,hT⟩:=hE.is hi
    split at h
    . rename_i e Le;have:=hT.sl Le;subst this
      split at h
      . rename_i ie Im;obtain ⟨ei,ed,sh⟩:=hE.is Im
        split at h
        . rename_i s z hs hz;obtain ⟨Mi,uh⟩:=sh.zero hz
          split at h
          . rename_i c1 c2;rw [xd]at c1;rw [Va,Dc]at c2;have c1:=of_decide_eq_true c1;have c2:=of_decide_eq_true c2;have c1:n*(s+1)<=100000:=c1
            split at h
            . rename_i l hf;obtain ⟨rfl,rfl⟩:=vk h;obtain ⟨hl,hp⟩:=As ht sR;obtain ⟨l',hr,GA⟩:=Fl (R:=R) _ _ _ _ _ _ hl hp (wk uh n) hf;have hps:(ps.map fun(i,x)=>(i,a.eval x)).toList=ps.toList.map fun p=>(p.1,a.eval p.2):=by simp
              have mj:ei.size=s+1:=by rw [sh.size,hs]
              have PK:l'.length=n*(s+1):=by
               rw [<-hr.1];have:∀(ps:List (Nat×Value)) (c r:List Value),ld (fun i=>some (Nat.mul i (s+1),s+1)) ps c=some r->r.length=c.length:=by
                intro ps
                induction ps with
                |nil=>intro c r h;simp [ld]at h;rw [h]
                |cons p ps ih=>
                 intro c r h;simp only [ld]at h
                 split at h
                 . cases h
                 . split at h
                   . cases h
                   . rename_i c2 rR;rw [ih _ _ h];obtain ⟨q1,rfl⟩:=Yr _ _ _ _ rR;have em:Nat.mul p.1 (s+1)=p.1*(s+1):=rfl
                     simp only [em]at q1⊢;simp;omega
               rw [this _ _ _ hf,(Il (Ra z) n).1,c2]
              by_cases hn:n*(s+1)=0
              . have yC:n=0:=by
                 rcases Nat.mul_eq_zero.1 hn with h|h
                 . exact h
                 . omega
                subst yC;have Xo:l'=[]:=by simpa using PK
                subst Xo;refine ⟨.cells #[] e (0,0),0,fun r=> .slice (some ⟨r,0,none⟩) 0 0,uk hr e,fun w=>Dh ?_,fun R' b r hb=> .Fz b 0 r _ 0 (s+1) 0 hb (by omega) (by simp) (by omega)⟩;have hf0:Instr.fill (fun i=>some (i*ei.size,ei.size)) #[] (ps.map fun(i,x)=>(i,a.eval x)).toList=some #[]:=by rw [hps,mj];exact GA
                simp [Instr.buildSlice,eb w hT.zg,Result.andThen,Hd w sh.info,newRow,Array.range_zero'];simp only [Array.toList_map]at hf0;simp [hf0]
              . refine ⟨.cells ⟨l'⟩ e (0,0),l'.length,fun r=> .slice (some ⟨r,0,none⟩) n n,uk hr e,fun w=>Dh ?_,fun R' b r hb=> .Fz b 0 r _ n (s+1) n hb (by omega) (by rw [PK];rfl) (Nat.le_refl _)⟩;refine run_buildSlice w ty e n _ ⟨l'⟩ ei z hT.zg sh.info Mi (by rw [mj];omega) (by rw [mj];exact hn) ?_
                rw [hps,mj];have VX:(Array.range (n*(s+1))).map (z.cells[·%z.cells.size]!)=⟨Oi (Ra z) n⟩:=by apply Array.ext';exact Kh c2
                rw [VX];exact GA
            . cases h
          . cases h
        . cases h
      . cases h
    . cases h
  . cases h
 |makeSlice ty l c=>
  simp only [Ad]at h
  split at h
  . rename_i i kl l0 kc c0 hi hl hc;obtain ⟨ii,d,hT⟩:=hE.is hi
    split at h
    . rename_i e Le;have:=hT.sl Le;subst this
      split at h
      . rename_i ie Im;obtain ⟨ei,ed,sh⟩:=hE.is Im
        split at h
        . rename_i s z hs hz;obtain ⟨Mi,uh⟩:=sh.zero hz
          split at h
          . rename_i c1 c2 c3 c4;rw [xd]at c1 c2 c3;rw [Va,Dc]at c4;have c1:=of_decide_eq_true c1;have c2:=of_decide_eq_true c2;have c3:=of_decide_eq_true c3;have c4:=of_decide_eq_true c4;have mj:ei.size=s+1:=by rw [sh.size,hs]
            have BY:ei.bytes=ie.bytes:=by rw [sh.eq]
            have el:=qc (Qa ht hl);have ec:=qc (Qa ht hc);have VX:madeCells z.cells (c0*(s+1))=⟨Oi (Ra z) c0⟩:=by apply Array.ext';exact Kh c4
            have baf:(ei.bytes:Int)*(c0:Int)<=281474976710656:=by
             have:ei.bytes*c0<=65536*65536:=Nat.mul_le_mul (by omega) c2;have:((ei.bytes*c0:Nat):Int)<=281474976710656:=by omega
             rwa [Int.natCast_mul]at this
            have caf:∀w,(Instr.makeSlice ty (.int kl (.ofNat l0)) (.int kc (.ofNat c0))).run E.P w= .ok (.slice (some ⟨w.heap.size,0,none⟩) l0 c0) (w.alloc (.cells ⟨Oi (Ra z) c0⟩ e)):=fun w=>by
             have:=run_make (P:=E.P) w ty e ei z hT.zg sh.info Mi kl kc l0 c0 (by omega) (by omega) baf (by omega);simp only [Int.toNat_natCast]at this;rw [mj,VX]at this;exact this
            have hlen:(Oi (Ra z) c0).length=c0*(s+1):=by rw [(Il (Ra z) c0).1,c4]
            have Kq:∀(R':Mp) (b r:Nat),R' b=some (r,c0*(s+1))->VR R' (.slice (some ⟨b,0,none⟩) l0 (s+1)) (.slice (some ⟨r,0,none⟩) l0 c0):=fun R' b r hb=> .Fz b 0 r _ l0 (s+1) c0 hb (by omega) (by omega) c1
            have hex:∀w,(execOp a.eval ⟨dst, .makeSlice ty l c,tp,pos,af,gd⟩).run E.P w= .ok (.value (.slice (some ⟨w.heap.size,0,none⟩) l0 c0)) (w.alloc (.cells ⟨Oi (Ra z) c0⟩ e (0,0))):=fun w=>Dh (by rw [el,ec];exact caf w)
            split at h
            . rename_i dv hdv;cases h;refine ⟨_,_,fun r=> .slice (some ⟨r,0,none⟩) l0 c0,⟨_,rfl,hlen, ?_,fun _=> ?_,fun i v hv=> ?_⟩,hex,Kq⟩
              . have:s=0:=by rw [hdv]at c4;simpa using c4.symm
                subst this;simp
              . have:s=0:=by rw [hdv]at c4;simpa using c4.symm
                subst this;simp
              . have:s=0:=by rw [hdv]at c4;simpa using c4.symm
                subst this;simp [rj,Tr.get_nil]at hv;obtain ⟨hv1,hv2⟩:=hv;subst hv2;have zC:=wk (R:=R) uh c0;have hj:=(Il (Ra z) c0).2 i (by rw [c4];omega)
                rw [hdv]at hj;have hj':(Oi (Ra z) c0)[i]?=some dv:=by rw [hdv];simpa [Nat.mod_one]using hj
                exact ⟨hv1,dv,by simpa using hj',zC.2 i dv dv hj' hj'⟩
            . obtain ⟨rfl,rfl⟩:=vk h;refine ⟨_,_,fun r=> .slice (some ⟨r,0,none⟩) l0 c0, ?_,hex,Kq⟩;have:=uk (wk (R:=R) uh c0) e;rw [hlen]at this;exact this
          . cases h
        . cases h
      . cases h
    . cases h
  . cases h
 |makeMap ty r=>
  simp only [Ad]at h
  split at h
  . cases h;refine ⟨.map #[] 0,0,fun r=> .map (some r),⟨#[],0,rfl,rfl,fun i p e hp=>by simp at hp⟩,fun w=>Dh ?_,fun R' b r hb=> .map b r 0 hb⟩;simp [Instr.makeMap,Result.andThen]
  . cases h
 |_=>simp [Ad]at h
end
end Sk
end Go.Proofs.YtfnkmolffhfpoaaGreat
