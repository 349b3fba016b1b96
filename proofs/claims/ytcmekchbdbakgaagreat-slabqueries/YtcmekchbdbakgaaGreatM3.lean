/- A part of the proof of a law. No conditions. -/
import Derived.Test.YtcmekchbdbakgaaGreatM2
import Derived.ChangeKeysEq
import Derived.Test.YtcmekchbdbakgaaGreatProg
import Derived.KernelRfl
set_option linter.unusedVariables false
set_option linter.unusedSimpArgs false
set_option maxRecDepth 10000
set_option maxHeartbeats 8000000
section
namespace Go.Sx
open Go Go.RowKit

section
variable {P : Program} {T : TT} {C : Cx} {E : Env} {st st' : SS}
theorem zkz {w : World} {B t es n : Nat} {v : Value} {xs : List Value} (h : w.ownsRow B t es v n xs) : w.ownsRow 0 t es v n xs/\∀ b,v.ownBlock=some b->B<=b/\b<w.heap.size:=by
 obtain ⟨h1,h2 | ⟨g,cap,cur,rfl,h3,h4⟩⟩:=h
 ·exact ⟨⟨h1,.inl h2⟩,fun b hb=>by rw [h2.1] at hb; cases hb⟩
 ·exact ⟨⟨h1,.inr ⟨g,cap,cur,rfl,zyD _,h4⟩⟩,fun b hb=>by cases hb; exact ⟨h3,(zxv.1 h4.1).1⟩⟩
theorem zi1 {E : Env} {k b : Nat} : Value.ownBlock ((SV.o (.w k)).real E)=some b↔E.β k=some b:=by
 show Value.ownBlock (.slice ((E.β k).map fun b=>⟨b,0,none⟩) (E.ω k).1 (E.ω k).2)=some b↔_
 cases E.β k with
 | none=>simp [Value.ownBlock]
 | some c=>simp [Value.ownBlock]
theorem zae.d (z1 z2 : Nat) {g : FuncId} {t es n0 nj n m k j : Nat} {x0 xj xs ys : List Value} {K : SV->SS->Prop}
  (h : ∀ A c A' c',n0<=c->nj<=c'->FnM P g [.slice A n0 c,.slice A' nj c'] (Sx.facts [zai A x0,zai A' xj]) (zsj (.slice A n0 c) x0 n0 t es n xs m ys))
  (hk : lk k st.me=some (.own t es n0 x0)) (hj : lk j st.me=some (.own t es nj xj)) (hz1 : st.has z1=false) (hz2 : st.has z2=false) (h12 : Nat.beq z1 z2=false) (hz1N : zby C.N (some z1)=true) (hz2N : zby C.N (some z2)=true)
  (hK : K (.o (.tu [.w z1,.w z2])) { st with me:=(z2,.own t es m ys)::rmL k ((z1,.own t es n xs)::st.me) }) : zae P C g [.o (.w k),.o (.w j)] st K:=by
 refine ⟨(h none n0 none nj (zxr _) (zxr _)).enters,fun E w hm=>?_⟩;obtain ⟨A,c,hr,hc,hs⟩:=zzU hk E w (fun k mm _ hk=>hm.ent k mm hk) (fun R hR=>(hm.res R hR).2.1);obtain ⟨A',c',hr',hc',hs'⟩:=zzU hj E w (fun k mm _ hk=>hm.ent k mm hk) (fun R hR=>(hm.res R hR).2.1);rw [show [SV.o (.w k),SV.o (.w j)].map (SV.real E)=[.slice A n0 c,.slice A' nj c'] by rw [zxT,zxT,zyt,hr,hr']];refine ((h A c A' c' hc hc').calls w (fun R hR=>?_)).mono ?_
 ·rcases zy1.1 hR with rfl | hR
  ·exact hs
  ·rw [zyZ.1 hR]; exact hs'
 rintro e w' ⟨u,v,rfl,hu,hv,hb⟩;have hkz1 : k≠z1:=(zxE hz1 hk).1;have hm1:=zaV.own (st:=st) hm hz1N hz1 hb hu;obtain ⟨hbut1,hreal1,hβ1⟩:=zcz (E:=E) (d:=z1) hu;obtain ⟨hu0,hub⟩:=zkz hu;have hfree : (rmL k ((z1,ME.own t es n xs)::st.me)).any (fun e=>Nat.beq e.1 z2||e.2.has z2)=false:=by
  refine zsY (st:={ tm:=[],me:=(z1,.own t es n xs)::st.me,re:=st.re }) ?_ k;have h2:=hz2;unfold SS.has at h2 ⊢;rw [zxD] at h2;rw [zyn,zxU,zxN,h2.2,zxO];show (Nat.beq z1 z2||false)=false;rw [h12]; rfl
 have hβk : (zaz E z1 u).β k=E.β k:=(hbut1 _ hkz1).1;have hcase : w'.ownsRow 0 t es v m ys/\(∀ b,v.ownBlock=some b->(C.W0.heap.size<=b\/b∈C.X)/\b<w'.heap.size) /\
   ∀ b,v.ownBlock=some b->(∀ i mm,lk i (rmL k ((z1,ME.own t es n xs)::st.me))=some mm->(zaz E z1 u).β i≠some b)/\∀ R∈st.re,b ∉ R.bs:=by
  have hsel : ∀ {i mm},lk i (rmL k ((z1,ME.own t es n xs)::st.me))=some mm->i≠k/\(i=z1\/(i≠z1/\lk i st.me=some mm)):=by
   intro i mm hi;rw [zhG] at hi;split at hi
   ·cases hi
   ·rename_i e;rw [zaB] at hi;split at hi
    ·rename_i e'; exact ⟨e,.inl e'⟩
    ·rename_i e'; exact ⟨e,.inr ⟨e',hi⟩⟩
  rcases hv with ⟨hv,hdis⟩ | ⟨rfl,rfl,rfl⟩
  ·obtain ⟨hv0,hvb⟩:=zkz hv;refine ⟨hv0,fun b hb'=>⟨.inl (zxs hm.ext.size (hvb b hb').1),(hvb b hb').2⟩,fun b hb'=>⟨fun i mm hi hib=>?_,fun R hR hbR=>?_⟩⟩
   ·obtain ⟨_,rfl | ⟨e,hi⟩⟩:=hsel hi
    ·exact hdis b ((hβ1 b).1 hib) hb'
    ·rw [(hbut1 _ e).1] at hib;have:=(hm.ge _ _ _ hi hib).2;have:=(hvb b hb').1;omega
   ·have:=((hm.res R hR).2.2 b hbR).1.lt;have:=(hvb b hb').1;omega
  ·have hmw:=(hm.world (st:=st) hb);have hent:=hmw.ent _ _ hk;have hown : w'.ownsRow 0 t es ((SV.o (.w k)).real E) m ys:=hent;rw [hr] at hown;refine ⟨hown,fun b hb'=>?_,fun b hb'=>?_⟩
   ·rw [<-hr,zi1] at hb';exact hmw.ge _ _ _ hk hb'
   ·rw [<-hr,zi1] at hb';refine ⟨fun i mm hi hib=>?_,fun R hR hbR=>((hm.res R hR).2.2 b hbR).2 k _ hk hb'⟩;obtain ⟨hik,rfl | ⟨e,hi⟩⟩:=hsel hi
    ·have:=(hub b ((hβ1 b).1 hib)).1;have:=(hm.ge _ _ _ hk hb').2;omega
    ·rw [(hbut1 _ e).1] at hib;exact hik (hm.inj _ _ _ _ _ hi hk hib hb')
 have hmo:=(hm1.rm k).own' (d:=z2) hfree hz2N hcase.1 hcase.2.1 hcase.2.2;obtain ⟨hbut2,hreal2,_⟩:=zcz (E:=zaz E z1 u) (d:=z2) hcase.1;refine ⟨zaz (zaz E z1 u) z2 v,{ st with me:=(z2,.own t es m ys)::rmL k ((z1,.own t es n xs)::st.me) },.o (.tu [.w z1,.w z2]),?_,hmo,zxu hb,fun i sv hi=>⟨sv,hi,?_⟩,hK⟩
 ·have e1 : TP.real (zaz (zaz E z1 u) z2 v) (.w z2)=v:=hreal2;have e2 : TP.real (zaz (zaz E z1 u) z2 v) (.w z1)=u:=by
   have : (SV.o (.w z1)).real (zaz (zaz E z1 u) z2 v)=(SV.o (.w z1)).real (zaz E z1 u):=zxn hbut2 (by
    show Nat.beq z1 z2=false; exact h12)
   exact (show TP.real (zaz (zaz E z1 u) z2 v) (.w z1)=TP.real (zaz E z1 u) (.w z1) from this).trans hreal1
  show _=Ending.returned (Value.tuple #[TP.real _ (.w z1),TP.real _ (.w z2)]);rw [e1,e2]
 ·rw [zxn hbut2 (zxC hz2 hi),zxn hbut1 (zxC hz1 hi)]

theorem zae.w1 {g : FuncId} {t es n t' es' nj k j : Nat} {xs ys xj : List Value} {r : Value} {tl : List Value} {K : SV->SS->Prop} (hkj : k≠j) (hk : lk k st.me=some (.own t es n xs)) (hj : lk j st.me=some (.own t' es' nj xj)) (hn : 0<n)
  (h : ∀ A c,nj<=c->FnW P g (.slice A nj c::tl) [zai A xj] t n xs ys r) (hlen : ys.length=xs.length) (hK : K (.o (.v r)) { st with me:=setL k (.own t es n ys) st.me }) : zae P C g (.o (.w k)::.o (.w j)::vsv tl) st K:=by
 refine zae.w hk hn (h none nj (zxr _)).enters (fun E w hm=>?_) hlen hK;obtain ⟨A,c,hr,hc,hs⟩:=zzU hj E w (fun k mm _ hk=>hm.ent k mm hk) (fun R hR=>(hm.res R hR).2.1);refine ⟨.slice A nj c::tl,[zai A xj],by rw [zxT,zxT,hr,zbk],h A c hc,fun R hR=>by rw [zyZ.1 hR]; exact hs,fun R hR b hb hβ=>?_⟩;rw [zyZ.1 hR] at hb;have hbj : E.β j=some b:=by
  have hA : A=(E.β j).map fun b=>⟨b,0,none⟩:=by
   have : Value.slice ((E.β j).map fun b=>⟨b,0,none⟩) (E.ω j).1 (E.ω j).2=.slice A nj c:=hr;injection this with h1 _ _
   exact h1.symm
  cases hβj : E.β j with
  | none=>rw [hA,hβj] at hb; cases xj <;> simp [zai,SlB] at hb
  | some b' =>
   rw [hA,hβj] at hb;have hb2 : b∈SlB (some ⟨b',0,none⟩) xj:=hb
   cases xj with
   | nil=>simp [SlB] at hb2
   | cons x r=>simp [SlB] at hb2; rw [hb2]
 exact hkj (hm.inj _ _ _ _ _ hk hj hβ hbj)

theorem WPS.mono {c : Code} {Q Q' : Exit->SS->Prop} (h : WPS P C c st Q) (hq : ∀ e s,Q e s->Q' e s) : WPS P C c st Q' :=
 ⟨fun a w hr=>wpIn_mono (h.wp a w hr) (fun e a' w' ⟨s,h1,h2⟩=>⟨s,h1,hq _ _ h2⟩)⟩
theorem WPS.seq {x y : Code} {Q : Exit->SS->Prop} (h : WPS P C x st (fun e s=>match e with
  | .normal=>WPS P C y s Q
  | e=>Q e s)) : WPS P C (.seq x y) st Q:=⟨fun a w hr=>by
 refine wpIn_seq (wpIn_mono (h.wp a w hr) ?_);rintro e a' w' ⟨st',hst,hq⟩
 cases e with
 | normal=>exact hq.wp _ _ hst
 | _=>exact ⟨st',hst,hq⟩⟩
abbrev zAk:=@WPS.seq
theorem WPS.block {id : Nat} {c : Code} {Q : Exit->SS->Prop} (h : WPS P C c st (fun e s=>match e with
  | .exit j=>bif Nat.beq j id then Q .normal s else Q (.exit j) s
  | e=>Q e s)) : WPS P C (.block id c) st Q:=⟨fun a w hr=>by
 refine wpIn_block (wpIn_mono (h.wp a w hr) ?_);rintro e a' w' ⟨st',hst,hq⟩
 cases e with
 | exit j =>
  simp only [Exit.inBlock];by_cases hj : j=id
  ·subst hj; rw [zxJ rfl]; simp only [zxM,cond_true] at hq; exact ⟨st',hst,hq⟩
  ·rw [zxI hj]; simp only [zaH.2 hj,cond_false] at hq; exact ⟨st',hst,hq⟩
 | _=>exact ⟨st',hst,hq⟩⟩
abbrev zAl:=@WPS.block
theorem WPS.loop {c : Code} {Q : Exit->SS->Prop} {ι : Type} (I : ι->SS) (J : ι->Prop) (μ : ι->Nat) (i0 : ι) (h0 : J i0) (hi : SLe C st (I i0))
  (hround : ∀ i,J i->WPS P C c (I i) (fun e s=>match e with
   | .normal=>∃ j,J j/\μ j<μ i/\SLe C s (I j)
   | e=>Q e s)) : WPS P C (.loop c) st Q:=⟨fun a w h=>by
 have key : ∀ (m : Nat) (i : ι) (a : Act) (w : World),J i->μ i=m->SR C (I i) a w->∀ (b : Frame) (k : List Item) (cs : List Frame),b.roundOf=(FW none).round->(FW none).fn b.fn->(FW none).room (cs.length+1+0) ->
   ∃ e a' w',lift C Q e a' w'/\ArrivesIn (Machine.fenced P (FW none)) P (lone (b.atR a (.code c::.inLoop c::k)) cs w) b k cs e a' w':=by
  intro m
  induction m using Nat.strongRecOn with
  | _ m ih =>
   intro i a w hJ hm hI b k cs hro hb hr;obtain ⟨e,a₁,w₁,⟨st',hst,hq⟩,harr⟩:=(hround i hJ).wp a w hI b (.inLoop c::k) cs hro hb hr
   cases e with
   | normal =>
    obtain ⟨j,hj,hlt,hle⟩:=hq;obtain ⟨e₂,a₂,w₂,hq₂,harr₂⟩:=ih (μ j) (hm▸hlt) j a₁ w₁ hj rfl (hle _ _ hst) b k cs hro hb hr;exact ⟨e₂,a₂,w₂,hq₂,.of_steps (StepsIn.trans harr (.one (fenced_calm hb hr rfl) stepR_inLoop)) harr₂⟩
   | exit id=>exact ⟨_,a₁,w₁,⟨st',hst,hq⟩,.pass (x:=.inLoop c) rfl (fun _ _=>.inl (by simp)) harr⟩
   | goto l=>exact ⟨_,a₁,w₁,⟨st',hst,hq⟩,.pass (x:=.inLoop c) rfl (fun _ _=>.inl (by simp)) harr⟩
   | ret=>exact ⟨_,a₁,w₁,⟨st',hst,hq⟩,.pass (x:=.inLoop c) rfl (fun _ _=>.inl (by simp)) harr⟩
   | panic ch=>exact ⟨_,a₁,w₁,⟨st',hst,hq⟩,.pass (x:=.inLoop c) rfl (fun _ _=>.inl (by simp)) harr⟩
   | outgrown=>exact ⟨_,a₁,w₁,⟨st',hst,hq⟩,.pass (x:=.inLoop c) rfl (fun _ _=>.inl (by simp)) harr⟩
 intro b k cs hro hb hr;obtain ⟨e,a',w',hq,harr⟩:=key _ i0 a w h0 rfl (hi _ _ h) b k cs hro hb hr;exact ⟨e,a',w',hq,.of_steps (.one (fenced_calm hb hr rfl) stepR_loop) harr⟩⟩
abbrev zAm:=@WPS.loop
theorem WPS.cutW {x y : Code} {Q : Exit->SS->Prop} {ι : Type} (M : ι->SS) (J : ι->Prop) (h : WPS P C x st (fun e s=>match e with
  | .normal=>∃ j,J j/\SLe C s (M j)
  | e=>Q e s)) (hy : ∀ j,J j->WPS P C y (M j) Q) : WPS P C (.seq x y) st Q:=zAk (h.mono (fun e s hs=>by
 cases e with
 | normal=>obtain ⟨j,hj,hl⟩:=hs; exact (hy j hj).le hl
 | _=>exact hs))
end

structure zlh (B Z Z' : List Nat) (w w' : World) : Prop where
 os : w'.os=w.os
 tape : w'.tape=w.tape
 output : w'.output=w.output
 size : w.heap.size<=w'.heap.size
 block : ∀ k,k<w.heap.size->k ∉ B->k ∉ Z->w'.heap[k]?=w.heap[k]?
 grow : ∀ k∈Z',k∈Z\/w.heap.size<=k
 drawn : w.drawn<=w'.drawn
abbrev zcX (l : Nat) : Value:=.func (.yield l) #[] #[]
structure Own (B : List Nat) (J : List Nat->World->Prop) : Prop where
 stable : ∀ Z w w',J Z w->(∀ k,k∈B\/k∈Z->w'.heap[k]?=w.heap[k]?)->J Z w'
 kept : ∀ Z w,J Z w->∀ k,k∈B\/k∈Z->IsC w k
def zne (P : Program) (l : Nat) (W : World) (B : List Nat) (xs : List (List Value)) (J : Nat->List Nat->World->Prop) (Jx : List Nat->World->Prop) : Prop :=
 ∀ i Z w,i<xs.length->J i Z w->Ext B W w->(∀ k∈Z,W.heap.size<=k)->∀ ro m,YieldAt (FW ro) m P l (xs.getD i []).toArray w fun e w' =>
  (e=.returned (.bool true)/\∃ Z',J (i+1) Z' w'/\zlh B Z Z' w w')\/(e=.returned (.bool false)/\∃ Z',Jx Z' w'/\zlh B Z Z' w w')
structure SeqC (P : Program) (g : FuncId) (caps : List Value) (re : List Res) (xs : List (List Value)) : Prop where
 enters : Enters P g
 ok : ∀ R∈re,R.ok
 calls : ∀ (l : Nat) (W : World) (B : List Nat) (J : Nat->List Nat->World->Prop) (Jx : List Nat->World->Prop),
  facts re W->(∀ R∈re,∀ b∈R.bs,b ∉ B)->(∀ b∈B,b<W.heap.size)->(∀ i,Own B (J i))->Own B Jx->zne P l W B xs J Jx->J 0 [] W ->
  Calls P g (zcX l::caps).toArray W fun e w'=>(∃ v,e=.returned v)/\Ext B W w'/\((∃ Z,J xs.length Z w')\/∃ Z,Jx Z w')

section
variable {P : Program} {T : TT}
def JR (W : World) (B : List Nat) (J : List Nat->World->Prop) (Z : List Nat) : Res:=⟨B++Z,fun w=>J Z w/\∀ k∈Z,W.heap.size<=k⟩
theorem JR.ok {W : World} {B : List Nat} {J : List Nat->World->Prop} (h : Own B J) (Z : List Nat) : (JR W B J Z).ok :=
 ⟨fun w w' hj hb=>⟨h.stable Z w w' hj.1 (fun k hk=>hb k (zyK.2 hk)),hj.2⟩,fun w hj b hb=>h.kept Z w hj.1 b (zyK.1 hb)⟩
theorem zdW.next {l N : Nat} {W : World} {B : List Nat} {xs : List (List Value)} {J : Nat->List Nat->World->Prop} {Jx : List Nat->World->Prop} {re : List Res} {st : SS} {K : SV->SS->Prop} {args : List SV} {i : Nat} {Z : List Nat}
  (hr : zne P l W B xs J Jx) (hJ : ∀ i,Own B (J i)) (hJx : Own B Jx) (hre : ∀ R∈re,R.ok) (hW : facts re W) (hd : ∀ R∈re,∀ b∈R.bs,b ∉ B)
  (hi : i<xs.length) (hst : st.re=JR W B (J i) Z::re) (ha : args=vsv (xs.getD i []))
  (hk1 : ∀ Z',K (.o (.v (.bool true))) { st with re:=JR W B (J (i+1)) Z'::re }) (hk2 : ∀ Z',K (.o (.v (.bool false))) { st with re:=JR W B Jx Z'::re }) : zdW P ⟨W,B,N⟩ l args st K:=by
 refine ⟨fun E w hm ro m=>?_⟩;have hj:=hm.res _ (by rw [hst]; exact zxA ..);obtain ⟨hj1,hj2⟩:=hj.2.1;have hnot : ∀ b,b∈B\/b∈Z->∀ k mm,lk k st.me=some mm->E.β k≠some b:=fun b hb=>(hj.2.2 b (zyK.2 hb)).2
 have hy:=hr i Z w hi hj1 hm.ext hj2 ro m;rw [ha,zbk];obtain ⟨fn,tmps,assign,body,h1,h2⟩:=hy;refine ⟨fn,tmps,assign,body,h1,h2.mono ?_⟩;have key : ∀ (J' : List Nat->World->Prop) (hO : Own B J') (Z' : List Nat) (w' : World),J' Z' w'->zlh B Z Z' w w'->zaV ⟨W,B,N⟩ E st.me (JR W B J' Z'::re) w'/\KD w w':=by
  intro J' hO Z' w' hj' hmv;have hblk : ∀ b,b<w.heap.size->(¬(b∈B\/b∈Z))->w'.heap[b]?=w.heap[b]?:=fun b hb hn=>hmv.block b hb (fun h=>hn (.inl h)) (fun h=>hn (.inr h))
  have hme : ∀ k mm b,lk k st.me=some mm->E.β k=some b->w'.heap[b]?=w.heap[b]?:=fun k mm b hk hb=>hblk b (hm.ge k mm b hk hb).2 (fun h=>hnot b h k mm hk hb)
  refine ⟨⟨fun k mm hk=>(hm.ent k mm hk).of_block (fun b hb=>hme k mm b hk hb),fun k mm b hk hb=>⟨(hm.ge k mm b hk hb).1,zxw (hm.ge k mm b hk hb).2 hmv.size⟩,hm.inj,fun R hR=>?_,?_,hm.rig⟩,fun b hb=>?_⟩
  ·rcases zy1.1 hR with rfl | hR
   ·have hge : ∀ k∈Z',W.heap.size<=k:=fun k hk=>by
     rcases hmv.grow k hk with h | h
     ·exact hj2 k h
     ·exact zxs hm.ext.size h
    refine ⟨(JR.ok hO Z').1,⟨hj',hge⟩,fun b hb=>⟨hO.kept Z' w' hj' b (zyK.1 hb),fun k mm hk hkb=>?_⟩⟩;rcases zyK.1 hb with hb | hb
    ·exact hnot b (.inl hb) k mm hk hkb
    ·rcases hmv.grow b hb with h | h
     ·exact hnot b (.inr h) k mm hk hkb
     ·have:=(hm.ge k mm b hk hkb).2; omega
   ·have hRm : R∈st.re:=by rw [hst]; exact zxB _ hR
    obtain ⟨r1,r2,r3⟩:=hm.res R hRm;have hne : ∀ b∈R.bs,w'.heap[b]?=w.heap[b]?:=fun b hb=>hblk b (r3 b hb).1.lt (fun h=>by
     rcases h with h | h
     ·exact hd R hR b hb h
     ·have h5:=((hre R hR).2 W (hW R hR) b hb).lt;have:=hj2 b h;omega)
    exact ⟨r1,r1 _ _ r2 hne,fun b hb=>⟨(r3 b hb).1.keep (hne b hb),(r3 b hb).2⟩⟩
  ·have hx:=hm.ext;refine ⟨hmv.os.trans hx.os,hmv.tape.trans hx.tape,hmv.output.trans hx.output,zxs hx.size hmv.size,fun k hk hn=>?_,zxs hx.drawn hmv.drawn⟩;refine (hblk k (zxw hk hx.size) (fun h=>?_)).trans (hx.block k hk hn);rcases h with h | h
   ·exact hn h
   ·have h6:=hj2 k h;have h7 : k<W.heap.size:=hk;omega
  ·refine (hblk b (zxv.1 hb).1 (fun h=>?_)).trans hb;obtain ⟨o,h3,h4⟩:=(hj.2.2 b (zyK.2 h)).1;rw [hb] at h3; cases h3; cases h4
 rintro e w' (⟨rfl,Z',hj',hmv⟩ | ⟨rfl,Z',hj',hmv⟩)
 ·obtain ⟨a1,a2⟩:=key _ (hJ (i+1)) Z' w' hj' hmv;exact ⟨E,{ st with re:=JR W B (J (i+1)) Z'::re },.o (.v (.bool true)),rfl,a1,a2,fun i sv hi=>⟨sv,hi,rfl⟩,hk1 Z'⟩
 ·obtain ⟨a1,a2⟩:=key _ hJx Z' w' hj' hmv;exact ⟨E,{ st with re:=JR W B Jx Z'::re },.o (.v (.bool false)),rfl,a1,a2,fun i sv hi=>⟨sv,hi,rfl⟩,hk2 Z'⟩
theorem SeqC.of (hT : zaY P T) (hmix : P.follows .mixedOrders=true) {f : FuncId} {fn : Func} {c : Code} {caps : List Value} {re : List Res} {xs : List (List Value)}
  (hf : P.funcs[f]? = some fn) (hb : fn.body = some c) (hnm : (fn.name == "runtime.NumGoroutine") = false) (hn : caps.length + 1 <= fn.ntmps) (hok : ∀ R ∈ re, R.ok)
  (hs : ∀ (l : Nat) (W : World) (B : List Nat) (R : Nat->List Nat->Res) (X : List Nat->Res),facts re W ->
   (∀ i Z st K args,i<xs.length->st.re=R i Z::re->args=vsv (xs.getD i [])->(∀ Z',K (.o (.v (.bool true))) { st with re:=R (i+1) Z'::re })->(∀ Z',K (.o (.v (.bool false))) { st with re:=X Z'::re })->zdW P ⟨W,B,fn.ntmps⟩ l args st K) ->
   WPS P ⟨W,B,fn.ntmps⟩ c ⟨zdx 0 (vsv (zcX l::caps)),[],R 0 []::re⟩ (retQ T fn (fun _ st=>(∃ Z,R xs.length Z∈st.re)\/∃ Z,X Z∈st.re))) : SeqC P f caps re xs:=by
 refine ⟨zda hf hnm (by rw [hb]; rfl),hok,fun l W B J Jx hW hd hB hJ hJx hr h0=>?_⟩;have E0 : Env:=⟨fun _=>none,fun _=>(0,0)⟩;have hlen : ∀ l : List Value,(vsv l).length=l.length:=fun l=>by induction l with | nil=>rfl | cons x r ih=>simp [vsv,ih]
 have hmem : zaV ⟨W,B,fn.ntmps⟩ E0 [] (JR W B (J 0) []::re) W:=by
  refine ⟨fun k m hk=>by simp [lk] at hk,fun k m b hk=>by simp [lk] at hk,fun k k' m m' b hk=>by simp [lk] at hk,fun R hR=>?_,Ext.refl _ _,fun j b m hX hj=>by simp [lk] at hj⟩;rcases zy1.1 hR with rfl | hR
  ·have hφ : (JR W B (J 0) []).φ W:=⟨h0,fun k hk=>by cases hk⟩;exact ⟨(JR.ok (hJ 0) []).1,hφ,fun b hb=>⟨(JR.ok (W:=W) (hJ 0) []).2 W hφ b hb,fun k m hk=>by simp [lk] at hk⟩⟩
  ·exact ⟨(hok R hR).1,hW R hR,fun b hb=>⟨(hok R hR).2 W (hW R hR) b hb,fun k m hk=>by simp [lk] at hk⟩⟩
 have:=zb5 (T:=T) hT hmix (E:=E0) (args:=vsv (zcX l::caps)) hf hb (by rw [hlen]; exact hn) hmem
  (hs l W B (fun i Z=>JR W B (J i) Z) (fun Z=>JR W B Jx Z) hW (fun i Z st K args hi hst ha hk1 hk2=>zdW.next hr hJ hJx hok hW hd hi hst ha hk1 hk2))
  (R:=fun e w'=>(∃ v,e=.returned v)/\Ext B W w'/\((∃ Z,J xs.length Z w')\/∃ Z,Jx Z w'))
  (fun l st E' w' hp hm=>⟨⟨_,rfl⟩,hm.ext,by
   rcases hp with ⟨Z,hZ⟩ | ⟨Z,hZ⟩
   ·exact .inl ⟨Z,(hm.res _ hZ).2.1.1⟩
   ·exact .inr ⟨Z,(hm.res _ hZ).2.1.1⟩⟩)
 rw [zbk] at this;exact this
end
abbrev zAp:=@List.getElem_mem
abbrev zAo:=@List.mem_filter
abbrev zAn:=@World.putObj_heap_same

def ME.boxy : ME->Bool
 | .own _ _ _ _=>false
 | _=>true
def zmH (N m : Nat) : SV->Bool
 | .o (.v _)=>true
 | .o (.p k _)=>Nat.ble N k&&Nat.blt k (N+m)
 | .o (.s k _ _ _)=>Nat.ble N k&&Nat.blt k (N+m)
 | _=>false
def zjv (N m : Nat) (l : List (Nat×ME)) : Bool:=((List.range m).all fun q=>match lk (N+q) l with
 | some mm=>mm.boxy
 | none=>false)&&l.all (fun e=>Nat.blt e.1 (N+m))
def zvN (N : Nat) (l : List (Nat×ME)) : Bool:=l.all fun e=>Nat.ble N e.1
def zgJ : List Tmp->List Value->List (Nat×SV)->List (Nat×SV)
 | t::ps,v::vs,tm=>zgJ ps vs ((t,.o (.v v))::tm)
 | _,_,tm=>tm
theorem zp4 {E : Env} : ∀ (ps : List Tmp) (vs : List Value) (tm : List (Nat×SV)) (tmps : Array Value),(∀ t∈ps,t<tmps.size)->(∀ i sv,lk i tm=some sv->tmps[i]?=some (sv.real E)) ->
  ∀ i sv,lk i (zgJ ps vs tm)=some sv->((ps.zip vs).foldl (fun a (e : Tmp×Value)=>a.setIfInBounds e.1 e.2) tmps)[i]?=some (sv.real E)
 | [],vs,tm,tmps,_,h=>by simpa [zgJ] using h
 | t::ps,[],tm,tmps,_,h=>by simpa [zgJ] using h
 | t::ps,v::vs,tm,tmps,hps,h=>by
  simp only [zgJ,List.zip_cons_cons,List.foldl_cons];refine zp4 ps vs _ _ (fun s hs=>by rw [Array.size_setIfInBounds]; exact hps s (zxB _ hs)) (fun i sv hi=>?_);rw [zaB] at hi;split at hi
  ·rename_i e; subst e; cases hi;rw [Array.getElem?_setIfInBounds_self_of_lt (hps _ (zxA ..))]; rfl
  ·rename_i e;rw [zyu (fun h2=>e h2.symm)]; exact h i sv hi
theorem zls : ∀ (l : List (Tmp×Value)) (tmps : Array Value),(l.foldl (fun a (e : Tmp×Value)=>a.setIfInBounds e.1 e.2) tmps).size=tmps.size
 | [],_=>rfl
 | e::l,tmps=>by rw [List.foldl_cons,zls l,Array.size_setIfInBounds]
theorem MEok.cells {E : Env} {w : World} {k b : Nat} {m : ME} (h : MEok E w k m) (hb : E.β k=some b) : ∃ cs t fr,w.heap[b]?=some (Obj.cells cs t fr):=by
 cases m with
 | box cs t=>obtain ⟨b',h1,h2⟩:=h; rw [hb] at h1; cases h1; exact ⟨_,_,_,h2⟩
 | sym cs t=>obtain ⟨b',h1,h2⟩:=h; rw [hb] at h1; cases h1; exact ⟨_,_,_,h2⟩
 | own t es n xs =>
  obtain ⟨_,_,⟨h1,_⟩ | ⟨b',cur,h1,h2,_⟩⟩:=zbH h
  ·rw [hb] at h1; cases h1
  ·rw [hb] at h1; cases h1; exact ⟨_,_,_,h2⟩
theorem MEok.block {E : Env} {w : World} {k : Nat} {m : ME} (h : MEok E w k m) (hm : m.boxy=true) : ∃ b,E.β k=some b:=by
 cases m with
 | box cs t=>obtain ⟨b,h1,_⟩:=h; exact ⟨b,h1⟩
 | sym cs t=>obtain ⟨b,h1,_⟩:=h; exact ⟨b,h1⟩
 | own _ _ _ _=>cases hm
theorem zhe {N m : Nat} {l : List (Nat×ME)} (h : zjv N m l=true) {q : Nat} (hq : q<m) : ∃ mm,lk (N+q) l=some mm/\mm.boxy=true:=by
 unfold zjv at h;rw [zxV,zx2] at h;have:=h.1 q (zy0.2 hq)
 cases hl : lk (N+q) l with
 | none=>rw [hl] at this; cases this
 | some mm=>rw [hl] at this; exact ⟨mm,rfl,this⟩
theorem zmU {N m : Nat} {l : List (Nat×ME)} (h : zjv N m l=true) {k : Nat} {mm : ME} (hk : lk k l=some mm) : k<N+m:=by
 unfold zjv at h;rw [zxV] at h;have:=(zx2.1 h.2) _ (ze5 hk);exact zxW this

section
variable {P : Program} {T : TT}
structure Inv (N m : Nat) (bs : List Nat) (base : Nat) (E : Env) (me : List (Nat×ME)) (Z : List Nat) (w : World) : Prop where
 keys : zjv N m me=true
 ent : ∀ k mm,lk k me=some mm->MEok E w k mm
 inj : ∀ k k' mm mm' b,lk k me=some mm->lk k' me=some mm'->E.β k=some b->E.β k'=some b->k=k'
 rig : ∀ q b,bs[q]?=some b->E.β (N+q)=some b
 foot : ∀ k mm b,lk k me=some mm->E.β k=some b->b∈bs\/b∈Z
 kept : ∀ k∈Z,IsC w k
 ge : ∀ k∈Z,base<=k
theorem Inv.of_block {N m base : Nat} {bs : List Nat} {E : Env} {me : List (Nat×ME)} {Z : List Nat} {w w' : World} (h : Inv N m bs base E me Z w) (hb : ∀ k,k∈bs\/k∈Z->w'.heap[k]?=w.heap[k]?) : Inv N m bs base E me Z w' :=
 ⟨h.keys,fun k mm hk=>(h.ent k mm hk).of_block (fun b hβ=>hb b (h.foot k mm b hk hβ)),h.inj,h.rig,h.foot,fun k hk=>(h.kept k hk).keep (hb k (.inr hk)),h.ge⟩
theorem Inv.bsC {N m base : Nat} {bs : List Nat} {E : Env} {me : List (Nat×ME)} {Z : List Nat} {w : World} (h : Inv N m bs base E me Z w) (hm : bs.length=m) {b : Nat} (hb : b∈bs) : IsC w b:=by
 obtain ⟨q,hq,hqb⟩:=List.getElem_of_mem hb;obtain ⟨mm,h1,h2⟩:=zhe h.keys (show q<m by omega);obtain ⟨cs,t,fr,h3⟩:=(h.ent _ _ h1).cells (h.rig q b (by rw [zyy hq,hqb]));exact IsC.cells h3
theorem zi2 {N m : Nat} {E E' : Env} (h : ∀ q,q<m->E.β (N+q)=E'.β (N+q)) {sv : SV} (hs : zmH N m sv=true) : sv.real E=sv.real E':=by
 have hk : ∀ k,(Nat.ble N k&&Nat.blt k (N+m))=true->E.β k=E'.β k:=by
  intro k hk;rw [zxV] at hk;have h1:=zxW hk.1;have h2 : k<N+m:=zxW hk.2;have:=h (k-N) (by omega);rwa [show N+(k-N)=k by omega] at this
 cases sv with
 | a _=>cases hs
 | o x =>
  cases x with
  | v _=>rfl
  | p k off=>simp only [SV.real,AV.real,hk k hs]
  | s k off n c=>simp only [SV.real,AV.real,hk k hs]
  | clo _ _=>cases hs
  | w _=>cases hs
  | tu _=>cases hs
theorem zaV.turn {C : Cx} {E : Env} {me : List (Nat×ME)} {re : List Res} {w : World} {l : Nat} {o o' : Obj} {Ra Rb : Res} (h : zaV C E me (Ra::re) w) (hRa : l∈Ra.bs) (hl : w.heap[l]?=some o) (hX : l∈C.X)
  (hre : ∀ R∈re,l ∉ R.bs) (hRb : Rb.bs=[l]) (hst : Rb.stable) (hφ : Rb.φ (w.putObj l o')) (ho : zpP o'=true) : zaV C E me (Rb::re) (w.putObj l o'):=by
 have hlt : l<w.heap.size:=(zxv.1 hl).1;have hnl : ∀ k mm,lk k me=some mm->E.β k≠some l:=((h.res _ (zxA ..)).2.2 l hRa).2;have hoth : ∀ b,b≠l->(w.putObj l o').heap[b]?=w.heap[b]?:=fun b hb=>zy5 hb
 refine ⟨fun k mm hk=>(h.ent k mm hk).of_block (fun b hb=>hoth b (fun e=>hnl k mm hk (by rw [<-e]; exact hb))),fun k mm b hk hb=>⟨(h.ge k mm b hk hb).1,by rw [zy6]; exact (h.ge k mm b hk hb).2⟩,h.inj,fun R hR=>?_,?_,h.rig⟩
 ·rcases zy1.1 hR with rfl | hR
  ·refine ⟨hst,hφ,fun b hb=>?_⟩;rw [hRb,zyZ] at hb;subst hb;exact ⟨⟨o',zAn hlt,ho⟩,hnl⟩
  ·obtain ⟨r1,r2,r3⟩:=h.res R (zxB _ hR);have hne : ∀ b∈R.bs,(w.putObj l o').heap[b]?=w.heap[b]?:=fun b hb=>hoth b (fun e=>hre R hR (by rw [<-e]; exact hb))
   exact ⟨r1,r1 _ _ r2 hne,fun b hb=>⟨(r3 b hb).1.keep (hne b hb),(r3 b hb).2⟩⟩
 ·have hx:=h.ext;exact ⟨hx.os,hx.tape,hx.output,by rw [zy6]; exact hx.size,fun k hk hn=>(hoth k (fun e=>hn (by rw [e]; exact hX))).trans (hx.block k hk hn),hx.drawn⟩
def imgs (E : Env) (bs : List Nat) (me : List (Nat×ME)) : List Nat:=(me.filterMap fun e=>E.β e.1).filter fun b=>!(bs.contains b)
theorem zmu {E : Env} {bs : List Nat} {me : List (Nat×ME)} {b : Nat} (h : b∈imgs E bs me) : b ∉ bs/\∃ k mm,(k,mm)∈me/\E.β k=some b:=by
 unfold imgs at h;obtain ⟨h1,h2⟩:=zAo.1 h;obtain ⟨e,he,hb⟩:=zyU.1 h1;exact ⟨by simpa using h2,e.1,e.2,he,hb⟩
theorem ztz {E : Env} {bs : List Nat} {me : List (Nat×ME)} {b k : Nat} {mm : ME} (hk : lk k me=some mm) (hb : E.β k=some b) : b∈bs\/b∈imgs E bs me:=by
 by_cases h : b∈bs
 ·exact .inl h
 ·exact .inr (zAo.2 ⟨zyU.2 ⟨_,ze5 hk,hb⟩,by simpa using h⟩)
def zlH : List (Nat×ME)->Bool
 | []=>true
 | e::r=>!(r.any fun f=>Nat.beq f.1 e.1)&&zlH r
theorem zjN : ∀ {me : List (Nat×ME)} {k : Nat} {mm : ME},zlH me=true->(k,mm)∈me->lk k me=some mm
 | [],k,mm,_,h=>by cases h
 | (j,x)::r,k,mm,ho,h=>by
  simp only [zlH,zxV] at ho;rw [zaB];rcases zy1.1 h with h | h
  ·cases h; rw [zxJ rfl]
  ·by_cases e : k=j
   ·exfalso;have h1:=ho.1;rw [zzh] at h1;have:=(zxk.1 h1) _ h;simp [e] at this
   ·rw [zxI e]; exact zjN ho.2 h

def zq1 (fn : FuncId) (tmps : Array Value) (ps : Array Tmp) (assign body : Code) (D : Nat) (s : LoopState) (p : Option Code) : Loop:={ state:=s,pending:=p,fn,tmps,params:=ps,assign,body,defers:=D }
def recR (l : Nat) (r : Loop) : Res:=⟨[l],fun w=>w.heap[l]?=some (.loop r)⟩
theorem zhP (l : Nat) (r : Loop) : (recR l r).stable:=fun w w' h hb=>(hb l (zyZ.2 rfl)).trans h
def zvx : Code->Option Exit
 | .ret=>some .ret
 | .exit id=>some (.exit id)
 | _=>none
theorem WPS.range (hT : zaY P T) (hmix : P.follows .mixedOrders=true) {C : Cx} (hX : C.X=[]) {g : Operand} {ps : Array Tmp} {assign body : Code} {st : SS} {Q : Exit->SS->Prop}
  {gf : FuncId} {caps : List Value} {re' : List Res} {xs : List (List Value)} (hg : ev st g=some (.o (.v (.func (.func gf) #[] ⟨caps⟩)))) (hseq : SeqC P gf caps re' xs) (hre : ∀ R∈re',R∈st.re)
  (m : Nat) (tm0 : List (Nat×SV)) {ι : Type} (M : Nat->ι->List (Nat×ME)) (Jv : Nat->ι->Prop) (j0 : ι) (hj0 : Jv 0 j0) (hle : SLe C st ⟨tm0,M 0 j0,st.re⟩)
  (hfirst : zvN C.N (M 0 j0)=true) (hkeys : ∀ i j,Jv i j->zjv C.N m (M i j)=true/\zlH (M i j)=true) (hrig : (tm0.all fun e=>zmH C.N m e.2)=true)
  (hps : ∀ x∈xs,x.length=ps.size) (hpN : (ps.toList.all fun t=>Nat.blt t C.N)=true)
  (hround : ∀ (W1 : World) (X : List Nat) (i : Nat) (j : ι) (Rx : Res),i<xs.length->Jv i j ->
   zcJ P T ⟨W1,X,C.N⟩ assign ⟨zgJ ps.toList (xs.getD i []) tm0,M i j,Rx::st.re⟩ (fun e s1=>match e with
    | .normal=>s1.re=Rx::st.re/\∀ Ry : Res,zcJ P T ⟨W1,X,C.N⟩ body { s1 with re:=Ry::st.re } (fun e s=>match e with
     | .normal=>∃ j',Jv (i+1) j'/\SLe ⟨W1,X,C.N⟩ s ⟨[],M (i+1) j',Ry::st.re⟩
     | .ret=>∃ mx,zjv C.N m mx=true/\zlH mx=true/\SLe ⟨W1,X,C.N⟩ s ⟨[],mx,Ry::st.re⟩/\Q .ret ⟨tm0,mx,st.re⟩
     | .exit id=>∃ mx,zjv C.N m mx=true/\zlH mx=true/\SLe ⟨W1,X,C.N⟩ s ⟨[],mx,Ry::st.re⟩/\Q (.exit id) ⟨tm0,mx,st.re⟩
     | _=>False)
    | _=>False))
  (hdone : ∀ j,Jv xs.length j->Q .normal ⟨tm0,M xs.length j,st.re⟩) : WPS P C (.rangeFunc g ps assign body) st Q:=by
 refine ⟨fun a w hr=>?_⟩;have hev : a.eval g=.func (.func gf) #[] ⟨caps⟩:=by obtain ⟨E,hE⟩:=hr; exact zaN hE hg
 obtain ⟨E,hE⟩:=hle a w hr;have hm:=hE.mem;obtain ⟨bs,hbsd⟩ : ∃ bs : List Nat,bs=(List.range m).map (fun q=>(E.β (C.N+q)).getD 0):=⟨_,rfl⟩;have hbl : bs.length=m:=by rw [hbsd]; simp
 have hbeta : ∀ q,q<m->∃ b,E.β (C.N+q)=some b/\bs[q]?=some b:=by
  intro q hq;obtain ⟨mm,h1,h2⟩:=zhe (hkeys 0 j0 hj0).1 hq;obtain ⟨b,hb⟩:=(hm.ent _ _ h1).block h2;exact ⟨b,hb,by rw [hbsd]; simp [hq,hb]⟩
 have hbs : ∀ q b,bs[q]?=some b->E.β (C.N+q)=some b:=by
  intro q b hb;have hq : q<m:=by rw [<-hbl]; exact (zyz.1 hb).1
  obtain ⟨b',h1,h2⟩:=hbeta q hq;rw [hb] at h2; cases h2; exact h1
 have hbsin : ∀ b∈bs,∃ q mm,q<m/\lk (C.N+q) (M 0 j0)=some mm/\E.β (C.N+q)=some b:=by
  intro b hb;obtain ⟨q,hq,hqb⟩:=List.getElem_of_mem hb;obtain ⟨mm,h1,_⟩:=zhe (hkeys 0 j0 hj0).1 (show q<m by omega);exact ⟨q,mm,by omega,h1,hbs q b (by rw [zyy hq,hqb])⟩
 have hbslt : ∀ b∈bs,C.W0.heap.size<=b/\b<w.heap.size:=by
  intro b hb;obtain ⟨q,mm,_,h1,h2⟩:=hbsin b hb;have:=hm.ge _ _ _ h1 h2;rw [hX] at this;refine ⟨?_,this.2⟩;rcases this.1 with h | h
  ·exact h
  ·cases h
 have hbsC : ∀ b∈bs,IsC w b:=by
  intro b hb;obtain ⟨q,mm,_,h1,h2⟩:=hbsin b hb;obtain ⟨cs,t,fr,h3⟩:=(hm.ent _ _ h1).cells h2;exact IsC.cells h3
 have hresbs : ∀ R∈st.re,∀ b∈R.bs,b ∉ bs:=by
  intro R hR b hb hbb;obtain ⟨q,mm,_,h1,h2⟩:=hbsin b hbb;exact ((hm.res R hR).2.2 b hb).2 _ _ h1 h2
 refine wpIn_rangeFunc ?_;intro fn hfn;obtain ⟨D,hD⟩ : ∃ D,D=w.heap.size:=⟨_,rfl⟩;obtain ⟨l,hl⟩ : ∃ l,l=w.heap.size+1:=⟨_,rfl⟩;obtain ⟨rc,hrc⟩ : ∃ rc,rc=zq1 fn a.tmps ps assign body D:=⟨_,rfl⟩;obtain ⟨W,hW⟩ : ∃ W,W=(w.alloc (.deferred (some []))).alloc (.loop (rc .ready none)):=⟨_,rfl⟩;have hWsize : W.heap.size=w.heap.size+2:=by rw [hW]; simp
 have hWl : W.heap[l]?=some (.loop (rc .ready none)):=by
  rw [hW,hl]; have:=World.alloc_heap_new (w.alloc (.deferred (some []))) (.loop (rc .ready none)); rwa [World.size_alloc] at this
 have hWD : W.heap[D]?=some (.deferred (some [])):=by
  rw [hW,hD]; exact (Below.heap_alloc _ _ _ (by simp)).trans (World.alloc_heap_new w _)
 have hWold : ∀ b,b<w.heap.size->W.heap[b]?=w.heap[b]?:=fun b hb=>by
  rw [hW]; exact (Below.heap_alloc _ _ _ (by simp; omega)).trans (Below.heap_alloc _ _ _ hb)
 have hWd : W.drawn=w.drawn:=by rw [hW]; rfl
 have hWx : W.os=w.os/\W.tape=w.tape/\W.output=w.output:=by rw [hW]; exact ⟨rfl,rfl,rfl⟩
 obtain ⟨B,hB⟩ : ∃ B,B=bs++[l]:=⟨_,rfl⟩;have hBin : ∀ b,b∈B↔b∈bs\/b=l:=fun b=>by rw [hB]; simp
 have hreW : facts st.re W:=fun R hR=>by
  obtain ⟨r1,r2,r3⟩:=hm.res R hR;exact r1 _ _ r2 (fun b hb=>hWold b (r3 b hb).1.lt)
 have hreB : ∀ R∈st.re,∀ b∈R.bs,b ∉ B/\b<w.heap.size:=fun R hR b hb=>by
  have h1:=((hm.res R hR).2.2 b hb).1.lt;refine ⟨fun h=>?_,h1⟩;rcases (hBin b).1 h with h | h
  ·exact hresbs R hR b hb h
  ·omega
 obtain ⟨J,hJ⟩ : ∃ J : Nat->List Nat->World->Prop,J=fun i Z w'=>∃ j E',Jv i j/\Inv C.N m bs W.heap.size E' (M i j) Z w'/\w'.heap[l]?=some (.loop (rc .ready none)):=⟨_,rfl⟩
 obtain ⟨Jx,hJx⟩ : ∃ Jx : List Nat->World->Prop,Jx=fun Z w'=>∃ c e mx E',zvx c=some e/\Q e ⟨tm0,mx,st.re⟩/\Inv C.N m bs W.heap.size E' mx Z w'/\w'.heap[l]?=some (.loop (rc .done (some c))):=⟨_,rfl⟩
 have hOJ : ∀ i,Own B (J i):=by
  intro i;rw [hJ];refine ⟨fun Z w1 w2 h hb=>?_,fun Z w1 h k hk=>?_⟩
  ·obtain ⟨j,E',h1,h2,h3⟩:=h;exact ⟨j,E',h1,h2.of_block (fun k hk=>hb k (hk.imp (fun h=>(hBin k).2 (.inl h)) id)),(hb l (.inl ((hBin l).2 (.inr rfl)))).trans h3⟩
  ·obtain ⟨j,E',h1,h2,h3⟩:=h;rcases hk with hk | hk
   ·rcases (hBin k).1 hk with hk | rfl
    ·exact h2.bsC hbl hk
    ·exact ⟨_,h3,rfl⟩
   ·exact h2.kept k hk
 have hOX : Own B Jx:=by
  rw [hJx];refine ⟨fun Z w1 w2 h hb=>?_,fun Z w1 h k hk=>?_⟩
  ·obtain ⟨c,e,mx,E',h0,h1,h2,h3⟩:=h;exact ⟨c,e,mx,E',h0,h1,h2.of_block (fun k hk=>hb k (hk.imp (fun h=>(hBin k).2 (.inl h)) id)),(hb l (.inl ((hBin l).2 (.inr rfl)))).trans h3⟩
  ·obtain ⟨c,e,mx,E',h0,h1,h2,h3⟩:=h;rcases hk with hk | hk
   ·rcases (hBin k).1 hk with hk | rfl
    ·exact h2.bsC hbl hk
    ·exact ⟨_,h3,rfl⟩
   ·exact h2.kept k hk
 have hJ0 : J 0 [] W:=by
  rw [hJ];refine ⟨j0,E,hj0,⟨(hkeys 0 j0 hj0).1,fun k mm hk=>(hm.ent k mm hk).of_block (fun b hb=>hWold b (hm.ge k mm b hk hb).2),hm.inj,hbs,fun k mm b hk hb=>.inl ?_,fun k hk=>(by cases hk),fun k hk=>(by cases hk)⟩,hWl⟩;have h1:=zmU (hkeys 0 j0 hj0).1 hk;have h2 : C.N<=k:=zxW ((zx2.1 hfirst) _ (ze5 hk));obtain ⟨b',h3,h4⟩:=hbeta (k-C.N) (by omega);rw [show C.N+(k-C.N)=k by omega,hb] at h3
  cases h3
  exact zyq h4
 have hinvnl : ∀ {E' : Env} {me : List (Nat×ME)} {Z : List Nat} {w1 : World} {r : Loop},Inv C.N m bs W.heap.size E' me Z w1->w1.heap[l]?=some (.loop r)->(∀ k mm,lk k me=some mm->E'.β k≠some l)/\l ∉ bs:=by
  intro E' me Z w1 r h1 h2;refine ⟨fun k mm hk hb=>?_,fun h=>by have:=(hbslt l h).2; omega⟩;obtain ⟨cs,t,fr,h3⟩:=(h1.ent k mm hk).cells hb;rw [h2] at h3; cases h3
 have hN : a.tmps.size=C.N:=hE.size;have hR : zne P l W B xs J Jx:=by
  intro i Z w1 hi hj hext hZ ro m';rw [hJ] at hj;obtain ⟨j,E',hjv,hinv,hrec⟩:=hj;obtain ⟨hnl,hlbs⟩:=hinvnl hinv hrec;have hxmem : xs.getD i []∈xs:=by
   rw [zzO,zyy hi]; exact zAp hi
  have hxl : (xs.getD i []).length=ps.size:=hps _ hxmem;have hy:=run_yield (P:=P) (w:=w1) (args:=(xs.getD i []).toArray) hrec (by rw [hrc]; simpa [zq1] using hxl);obtain ⟨bz,hbz⟩ : ∃ bz : Loop,bz={ rc .ready none with state:=.busy }:=⟨_,rfl⟩;obtain ⟨Xs,hXs⟩ : ∃ Xs,Xs=bs++(l::Z):=⟨_,rfl⟩;have hXin : ∀ b,b∈Xs↔b∈bs\/b=l\/b∈Z:=fun b=>by rw [hXs]; simp
  have hw1l : l<w1.heap.size:=(zxv.1 hrec).1;have hlZ : l ∉ Z:=fun h=>by have:=hZ l h; omega
  have hreal : ∀ q,q<m->E'.β (C.N+q)=E.β (C.N+q):=fun q hq=>by
   obtain ⟨b,h1,h2⟩:=hbeta q hq;rw [h1,hinv.rig q b h2]
  have leave : ∀ (mx : List (Nat×ME)) (a2 : Act) (w4 : World) (o : Loop),zjv C.N m mx=true->zlH mx=true->SR ⟨w1,Xs,C.N⟩ ⟨[],mx,recR l bz::st.re⟩ a2 w4 ->
    ∃ E2,Inv C.N m bs W.heap.size E2 mx (imgs E2 bs mx) (w4.putObj l (.loop o))/\zlh B Z (imgs E2 bs mx) w1 (w4.putObj l (.loop o))/\w4.heap[l]?=some (.loop bz)/\(w4.putObj l (.loop o)).heap[l]?=some (.loop o):=by
   intro mx a2 w4 o hk1 hk2 hsr;obtain ⟨E2,hE2⟩:=hsr;have hm2:=hE2.mem;have hr4:=hm2.res _ (zxA ..);have hl4 : w4.heap[l]?=some (.loop bz):=hr4.2.1;have hnl4 : ∀ k mm,lk k mx=some mm->E2.β k≠some l:=(hr4.2.2 l (zyZ.2 rfl)).2;have hoth : ∀ b,b≠l->(w4.putObj l (.loop o)).heap[b]?=w4.heap[b]?:=fun b hb=>zy5 hb
   have hlt4 : l<w4.heap.size:=(zxv.1 hl4).1;have hent : ∀ k mm,lk k mx=some mm->MEok E2 (w4.putObj l (.loop o)) k mm:=fun k mm hk=>(hm2.ent k mm hk).of_block (fun b hb=>hoth b (fun e=>hnl4 k mm hk (by rw [<-e]; exact hb)))
   have hgr : ∀ k∈imgs E2 bs mx,k∈Z\/w1.heap.size<=k:=by
    intro k hk;obtain ⟨h1,kk,mm,h2,h3⟩:=zmu hk;have hlk:=zjN hk2 h2;have:=(hm2.ge kk mm k hlk h3).1;rcases this with h4 | h4
    ·exact .inr h4
    ·rcases (hXin k).1 h4 with h5 | h5 | h5
     ·exact absurd h5 h1
     ·exact absurd (by rw [<-h5]; exact h3) (hnl4 kk mm hlk)
     ·exact .inl h5
   refine ⟨E2,⟨hk1,hent,hm2.inj,fun q b hq=>?_,fun k mm b hk hb=>ztz hk hb,fun k hk=>?_,fun k hk=>?_⟩,⟨hm2.ext.os,hm2.ext.tape,hm2.ext.output,by rw [zy6]; exact hm2.ext.size,fun k hk hkB hkZ=>?_,hgr,hm2.ext.drawn⟩,hl4,zAn hlt4⟩
   ·have hqm : q<m:=by rw [<-hbl]; exact (zyz.1 hq).1
    obtain ⟨mm,h1,_⟩:=zhe hk1 hqm;refine hm2.rig q b mm ?_ h1;show Xs[q]?=some b;rw [hXs,zyd (by omega)]; exact hq
   ·obtain ⟨h1,kk,mm,h2,h3⟩:=zmu hk;obtain ⟨cs,t,fr,h4⟩:=(hent kk mm (zjN hk2 h2)).cells h3;exact IsC.cells h4
   ·rcases hgr k hk with h | h
    ·exact hZ k h
    ·exact zxs hext.size h
   ·have hkl : k≠l:=fun e=>hkB ((hBin k).2 (.inr e))
    refine (hoth k hkl).trans (hm2.ext.block k hk (fun h=>?_));rcases (hXin k).1 h with h5 | h5 | h5
    ·exact hkB ((hBin k).2 (.inl h5))
    ·exact hkl h5
    ·exact hkZ h5
  obtain ⟨tz,htz⟩ : ∃ tz : Array Value,tz=(ps.zip (xs.getD i []).toArray).foldl (fun tmps (t,a)=>tmps.setIfInBounds t a) a.tmps:=⟨_,rfl⟩;have htz2 : tz=(ps.toList.zip (xs.getD i [])).foldl (fun tmps (e : Tmp×Value)=>tmps.setIfInBounds e.1 e.2) a.tmps:=by
   rw [htz,<-Array.foldl_toList];have : (ps.zip (xs.getD i []).toArray).toList=ps.toList.zip (xs.getD i []):=by simp
   rw [this]
  have hSR0 : SR ⟨w1,Xs,C.N⟩ ⟨zgJ ps.toList (xs.getD i []) tm0,M i j,recR l (rc .ready none)::st.re⟩ { tmps:=tz,defers:=[] } w1:=by
   refine ⟨E',by show tz.size=C.N; rw [htz2,zls,hN],⟨[],rfl,List.nodup_nil,by simp⟩,?_,?_⟩
   ·show ∀ i_1 sv,lk i_1 (zgJ ps.toList (xs.getD i []) tm0)=some sv->tz[i_1]?=some (sv.real E');rw [htz2];refine zp4 ps.toList _ tm0 a.tmps (fun t ht=>?_) (fun k sv hk=>?_)
    ·have:=(zx2.1 hpN) t ht;have h2 : t<C.N:=zxW this;rw [hN]; exact h2
    ·have e:=zi2 (E:=E') (E':=E) (N:=C.N) (m:=m) hreal (show zmH C.N m sv=true from (zx2.1 hrig) (k,sv) (ze5 hk));rw [e];exact hE.tm k sv hk
   ·refine ⟨hinv.ent,fun k mm b hk hb=>?_,hinv.inj,fun Rr hRr=>?_,Ext.refl _ _,fun q b mm hq hk=>?_⟩
    ·obtain ⟨cs,t,fr,h3⟩:=(hinv.ent k mm hk).cells hb;exact ⟨.inr ((hXin b).2 ((hinv.foot k mm b hk hb).imp id .inr)),(zxv.1 h3).1⟩
    ·rcases zy1.1 hRr with rfl | hRr
     ·exact ⟨zhP _ _,hrec,fun b hb=>by
       rw [show (recR l (rc .ready none)).bs=[l] from rfl,zyZ] at hb;subst hb;exact ⟨⟨_,hrec,rfl⟩,hnl⟩⟩
     ·obtain ⟨r1,r2,r3⟩:=hm.res Rr hRr;have hne : ∀ b∈Rr.bs,w1.heap[b]?=w.heap[b]?:=fun b hb=>by
       obtain ⟨h1,h2⟩:=hreB Rr hRr b hb;rw [hext.block b (by omega) h1,hWold b h2]
      refine ⟨r1,r1 _ _ r2 hne,fun b hb=>⟨(r3 b hb).1.keep (hne b hb),fun k mm hk hkb=>?_⟩⟩;rcases hinv.foot k mm b hk hkb with h | h
      ·exact hresbs Rr hRr b hb h
      ·have h3:=hZ b h;have h4:=(hreB Rr hRr b hb).2;omega
    ·have hqm : q<m:=by
      have:=zmU hinv.keys hk;have h2 : C.N+q<C.N+m:=this;omega
     refine hinv.rig q b ?_;have hq2 : Xs[q]?=some b:=hq;rw [hXs,zyd (by omega)] at hq2;exact hq2
  refine ⟨fn,tz,assign,body,by rw [hy,htz,hrc]; rfl,roundIn_of_wpIn (F:=FW ro) trivial ?_⟩;refine wpIn_mono (zbu (ro:=some l) (n:=m') hT hmix assign (hround w1 Xs i j (recR l (rc .ready none)) hi hjv) hSR0) ?_;rintro e a1 w2 ⟨s1,hs1,hq⟩
  cases e with
  | normal =>
   obtain ⟨hre1,hbody⟩:=hq;obtain ⟨E1,hE1⟩:=hs1;have hm1:=hE1.mem;rw [hre1] at hm1;have hrec2 : w2.heap[l]?=some (.loop (rc .ready none)):=(hm1.res _ (zxA ..)).2.1;have hlt2 : l<w2.heap.size:=(zxv.1 hrec2).1;refine ⟨_,run_beginRound hrec2 (by rw [hrc]; rfl),?_⟩;have hbz2 : ({ rc .ready none with state:=.busy } : Loop)=bz:=hbz.symm;rw [hbz2];have hSR1 : SR ⟨w1,Xs,C.N⟩ { s1 with re:=recR l bz::st.re } a1 (w2.putObj l (.loop bz)):=by
    refine ⟨E1,hE1.size,hE1.defers.keep (fun b hb=>?_),hE1.tm,zaV.turn hm1 (zyZ.2 rfl) hrec2 ((hXin l).2 (.inr (.inl rfl))) (fun R hR h=>?_) rfl (zhP _ _) (zAn hlt2) rfl⟩
    ·exact (zy5 (fun e=>by rw [e,hrec2] at hb; cases hb)).trans hb
    ·have:=(hreB R hR l h).2; omega
   refine wpIn_mono (zbu (ro:=some l) (n:=m') hT hmix body (hbody (recR l bz)) hSR1) ?_;rintro e a2 w4 ⟨s2,hs2,hq2⟩
   cases e with
   | normal =>
    obtain ⟨j',hj',hsle⟩:=hq2;obtain ⟨E2,h1,h2,h3,h4⟩:=leave _ a2 w4 (rc .ready none) (hkeys (i+1) j' hj').1 (hkeys (i+1) j' hj').2 (hsle a2 w4 hs2);refine ⟨_,_,run_endRound none h3,.inl ⟨rfl,imgs E2 bs (M (i+1) j'),?_,?_⟩⟩
    ·rw [hJ];refine ⟨j',E2,hj',?_,?_⟩
     ·have : ({ bz with state:=.ready,pending:=none } : Loop)=rc .ready none:=by rw [hbz,hrc]; rfl
      show Inv C.N m bs W.heap.size E2 (M (i+1) j') _ (w4.putObj l (.loop { bz with state:=.ready,pending:=none }));rw [this]; exact h1
     ·have : ({ bz with state:=.ready,pending:=none } : Loop)=rc .ready none:=by rw [hbz,hrc]; rfl
      show (w4.putObj l (.loop { bz with state:=.ready,pending:=none })).heap[l]?=_;rw [this]; exact h4
    ·have : ({ bz with state:=.ready,pending:=none } : Loop)=rc .ready none:=by rw [hbz,hrc]; rfl
     show zlh B Z _ w1 (w4.putObj l (.loop { bz with state:=.ready,pending:=none }));rw [this]; exact h2
   | ret =>
    obtain ⟨mx,hk1,hk2,hsle,hQ⟩:=hq2;obtain ⟨E2,h1,h2,h3,h4⟩:=leave mx a2 w4 (rc .done (some .ret)) hk1 hk2 (hsle a2 w4 hs2);have hee : ({ bz with state:=.done,pending:=some .ret } : Loop)=rc .done (some .ret):=by rw [hbz,hrc]; rfl
    refine ⟨_,_,run_endRound (some .ret) h3,.inr ⟨rfl,imgs E2 bs mx,?_,?_⟩⟩
    ·rw [hJx];refine ⟨.ret,.ret,mx,E2,rfl,hQ,?_,?_⟩
     ·show Inv C.N m bs W.heap.size E2 mx _ (w4.putObj l (.loop { bz with state:=.done,pending:=some .ret }));rw [hee]; exact h1
     ·show (w4.putObj l (.loop { bz with state:=.done,pending:=some .ret })).heap[l]?=_;rw [hee]; exact h4
    ·show zlh B Z _ w1 (w4.putObj l (.loop { bz with state:=.done,pending:=some .ret }));rw [hee]; exact h2
   | exit id =>
    obtain ⟨mx,hk1,hk2,hsle,hQ⟩:=hq2;obtain ⟨E2,h1,h2,h3,h4⟩:=leave mx a2 w4 (rc .done (some (.exit id))) hk1 hk2 (hsle a2 w4 hs2);have hee : ({ bz with state:=.done,pending:=some (.exit id) } : Loop)=rc .done (some (.exit id)):=by rw [hbz,hrc]; rfl
    refine ⟨_,_,run_endRound (some (.exit id)) h3,.inr ⟨rfl,imgs E2 bs mx,?_,?_⟩⟩
    ·rw [hJx];refine ⟨.exit id,.exit id,mx,E2,rfl,hQ,?_,?_⟩
     ·show Inv C.N m bs W.heap.size E2 mx _ (w4.putObj l (.loop { bz with state:=.done,pending:=some (.exit id) }));rw [hee]; exact h1
     ·show (w4.putObj l (.loop { bz with state:=.done,pending:=some (.exit id) })).heap[l]?=_;rw [hee]; exact h4
    ·show zlh B Z _ w1 (w4.putObj l (.loop { bz with state:=.done,pending:=some (.exit id) }));rw [hee]; exact h2
   | goto _=>exact hq2.elim
   | panic _=>exact hq2.elim
   | outgrown=>exact hq2.elim
  | ret=>exact hq.elim
  | exit _=>exact hq.elim
  | goto _=>exact hq.elim
  | panic _=>exact hq.elim
  | outgrown=>exact hq.elim
 have hcalls:=hseq.calls l W B J Jx (fun R hR=>hreW R (hre R hR)) (fun R hR b hb=>(hreB R (hre R hR) b hb).1) (fun b hb=>by
  rcases (hBin b).1 hb with h | h
  ·have:=(hbslt b h).2; omega
  ·omega) hOJ hOX hR hJ0
 refine ⟨l,[{ target:=.collected D,args:=#[] }],W,{ target:=.fn (.func gf) ⟨caps⟩,args:=#[zcX l] },W,gf,#[zcX l]++⟨caps⟩,W,?_,?_,?_,?_,fun h=>(by cases h),?_⟩
 ·rw [hl,hW,hrc,hD]; exact run_enterLoop_outer fn a.tmps ps assign body
 ·simp only [resolve,hev];simp [go_sem]
 ·intro f' _; trivial
 ·have eg:=fun args w=>hseq.enters args w
  simp [invoke,go_sem,eg]
 ·have hargs : #[zcX l]++(⟨caps⟩ : Array Value)=(zcX l::caps).toArray:=by apply zyh; simp
  rw [hargs];refine (callsIn_wide (n:=0-1)).2 (hcalls.mono ?_);rintro e w3 ⟨⟨v,rfl⟩,hext,hfin⟩;have fin : ∀ (mx : List (Nat×ME)) (E' : Env) (Z : List Nat) (r : Loop) (o : Loop),Inv C.N m bs W.heap.size E' mx Z w3->w3.heap[l]?=some (.loop r) ->
    SR C ⟨tm0,mx,st.re⟩ { a with defers:=[{ target:=.collected D,args:=#[] }]++a.defers } (w3.putObj l (.loop o)):=by
   intro mx E' Z r o hinv hrec;obtain ⟨hnl,hlbs⟩:=hinvnl hinv hrec;have hoth : ∀ b,b≠l->(w3.putObj l (.loop o)).heap[b]?=w3.heap[b]?:=fun b hb=>zy5 hb
   have hreal : ∀ q,q<m->E'.β (C.N+q)=E.β (C.N+q):=fun q hq=>by
    obtain ⟨b,h1,h2⟩:=hbeta q hq;rw [h1,hinv.rig q b h2]
   have hold : ∀ b,b<w.heap.size->b ∉ bs->(w3.putObj l (.loop o)).heap[b]?=w.heap[b]?:=fun b hb hbb=>by
    have hbl2 : b≠l:=by omega
    have hbB : b ∉ B:=fun h=>by rcases (hBin b).1 h with h | h; exact hbb h; exact hbl2 h
    rw [hoth b hbl2,hext.block b (by omega) hbB,hWold b hb]
   refine ⟨E',hN,?_,fun i sv hi=>?_,⟨fun k mm hk=>(hinv.ent k mm hk).of_block (fun b hb=>hoth b (fun e=>hnl k mm hk (by rw [<-e]; exact hb))),fun k mm b hk hb=>?_,hinv.inj,fun R hR=>?_,?_,fun q b mm hq=>by rw [hX] at hq; simp at hq⟩⟩
   ·obtain ⟨ds,h1,h2,h3⟩:=hE.defers;refine ⟨D::ds,by simp [h1],List.nodup_cons.2 ⟨fun h=>?_,h2⟩,fun b hb=>?_⟩
    ·have:=(zxv.1 (h3 D h).2).1; omega
    ·rcases zy1.1 hb with rfl | hb
     ·refine ⟨by rw [hD]; exact hm.ext.size,?_⟩;have hbl2 : b≠l:=by omega
      have hbB : b ∉ B:=fun h=>by
       rcases (hBin b).1 h with h | h
       ·have:=(hbslt b h).2; omega
       ·exact hbl2 h
      rw [hoth b hbl2,hext.block b (by omega) hbB]; exact hWD
     ·have h4:=h3 b hb;have h5:=(zxv.1 h4.2).1;refine ⟨h4.1,?_⟩;rw [hold b h5 (fun h=>by
       obtain ⟨o2,h6,h7⟩:=hbsC b h;rw [h4.2] at h6; cases h6; cases h7)]
      exact h4.2
   ·rw [zi2 (E:=E') (E':=E) (N:=C.N) (m:=m) hreal (show zmH C.N m sv=true from (zx2.1 hrig) (i,sv) (ze5 hi))];exact hE.tm i sv hi
   ·obtain ⟨cs,t,fr,h3⟩:=(hinv.ent k mm hk).cells hb;refine ⟨.inl ?_,by rw [zy6]; exact (zxv.1 h3).1⟩;rcases hinv.foot k mm b hk hb with h | h
    ·exact (hbslt b h).1
    ·have h5:=hinv.ge b h;have h6 : C.W0.heap.size<=w.heap.size:=hm.ext.size;omega
   ·obtain ⟨r1,r2,r3⟩:=hm.res R hR;have hne : ∀ b∈R.bs,(w3.putObj l (.loop o)).heap[b]?=w.heap[b]?:=fun b hb=>hold b (hreB R hR b hb).2 (hresbs R hR b hb)
    refine ⟨r1,r1 _ _ r2 hne,fun b hb=>⟨(r3 b hb).1.keep (hne b hb),fun k mm hk hkb=>?_⟩⟩;rcases hinv.foot k mm b hk hkb with h | h
    ·exact hresbs R hR b hb h
    ·have h3:=hinv.ge b h;have h4:=(hreB R hR b hb).2;omega
   ·have hx:=hm.ext;refine ⟨(hext.os.trans hWx.1).trans hx.os,(hext.tape.trans hWx.2.1).trans hx.tape,(hext.output.trans hWx.2.2).trans hx.output,?_,fun k hk hn=>?_,?_⟩
    ·rw [zy6];have h1:=hx.size;have h2:=hext.size;omega
    ·have h1 : k<w.heap.size:=zxw hk hx.size;rw [hold k h1 (fun h=>by have:=(hbslt k h).1; omega)];exact hx.block k hk hn
    ·exact zxs hx.drawn (by rw [<-hWd]; exact hext.drawn)
  rcases hfin with ⟨Z,hj⟩ | ⟨Z,hj⟩
  ·rw [hJ] at hj;obtain ⟨j,E',hjv,hinv,hrec⟩:=hj;have he:=run_endLoop (P:=P) hrec (by rw [hrc]; simp [zq1]);refine ⟨_,_,he,?_⟩;have : (rc .ready none).pending=none:=by rw [hrc]; rfl
   rw [this];exact ⟨_,fin _ E' Z _ _ hinv hrec,hdone j hjv⟩
  ·rw [hJx] at hj;obtain ⟨c,e,mx,E',hce,hQ,hinv,hrec⟩:=hj;have he:=run_endLoop (P:=P) hrec (by rw [hrc]; simp [zq1]);refine ⟨_,_,he,?_⟩;have : (rc .done (some c)).pending=some c:=by rw [hrc]; rfl
   rw [this]
   cases c with
   | ret=>cases hce; exact wpIn_ret ⟨_,fin mx E' Z _ _ hinv hrec,hQ⟩
   | exit id=>cases hce; exact wpIn_exit ⟨_,fin mx E' Z _ _ hinv hrec,hQ⟩
   | _=>cases hce
end

section
variable {P : Program} {T : TT} {C : Cx} {E : Env} {st st' : SS}
def ptrV (a : Addr) : Value:=.pointer (some a)
def zld (g : FuncId) (cs : List (List Value)) (w : World) (e : Ending) (w' : World) : Prop :=
 ∃ aq : List Addr,aq.length=cs.length/\e=.returned (.func (.func g) #[] (aq.map ptrV).toArray)/\(∀ (i : Nat) a c,aq[i]?=some a->cs[i]?=some c->SlF (some a) c w'/\w.heap.size<=a.block)/\Bel w.heap.size w w'
def zuc (g : FuncId) (cs : List (List Value)) (l : List SV) (st : SS) : Prop:=∃ ks : List Nat,l=[.o (.clo g (ks.map CP.l))]/\ks.length=cs.length/\∀ (i : Nat) k c,ks[i]?=some k->cs[i]?=some c->boxV st k=some c
theorem zq9 {g : FuncId} {cs : List (List Value)} {w : World} {N : Nat} {l : List SV} {w' : World} (h : zuc g cs l st) (hm : zaV ⟨w,[],N⟩ E st.me st.re w') : zld g cs w (.returned (retV (l.map (SV.real E)))) w':=by
 obtain ⟨ks,rfl,hlen,hk⟩:=h;have hb : ∀ (i : Nat) k c,ks[i]?=some k->cs[i]?=some c->∃ b t,E.β k=some b/\w'.heap[b]?=some (.cells c.toArray t (0,0))/\w.heap.size<=b:=by
  intro i k c h1 h2;have:=hk i k c h1 h2;unfold boxV at this
  cases hl : lk k st.me with
  | none=>rw [hl] at this; cases this
  | some mm =>
   rw [hl] at this;have hent:=hm.ent k mm hl;have hge : ∀ b,E.β k=some b->w.heap.size<=b:=fun b hb=>by
    rcases (hm.ge k mm b hl hb).1 with h | h
    ·exact h
    ·cases h
   cases mm with
   | box cells t =>
    obtain ⟨b,h3,h4⟩:=hent;simp only at this;rw [zbq E this] at h4;exact ⟨b,t,h3,h4,hge b h3⟩
   | sym cells t =>
    obtain ⟨b,h3,h4⟩:=hent;simp only [zxq] at this;subst this;exact ⟨b,t,h3,h4,hge b h3⟩
   | own t es n xs=>simp only at this; cases this
 refine ⟨ks.map (fun k=>⟨(E.β k).getD 0,0,none⟩),by simp [hlen],?_,fun i a c ha hc=>?_,hm.ext.below⟩
 ·show Ending.returned (Value.func (.func g) #[] ((ks.map CP.l).map (CP.real E)).toArray)=_
  congr 2
  rw [zx0,zx0]
  congr 1
  apply zxl;intro k hkm;obtain ⟨i,hi,hik⟩:=List.getElem_of_mem hkm;obtain ⟨b,t,h1,_⟩:=hb i k cs[i] (by rw [zyy hi,hik]) (zyy (by omega));simp [CP.real,ptrV,h1]
 ·rw [zx4] at ha
  cases hki : ks[i]? with
  | none=>rw [hki] at ha; cases ha
  | some k =>
   rw [hki] at ha;simp only [zxp,zxq] at ha;obtain ⟨b,t,h1,h2,h3⟩:=hb i k c hki hc;rw [h1] at ha;subst ha;exact ⟨.inr ⟨b,0,rfl,fun j v hj=>by rw [zcg h2,zyo]; simpa using hj⟩,h3⟩
theorem FnF.of (hT : zaY P T) (hmix : P.follows .mixedOrders=true) {f : FuncId} {fn : Func} {c : Code} {vs : List Value} {re : List Res} {g : FuncId} {cs : List (List Value)}
  (hf : P.funcs[f]? = some fn) (hb : fn.body = some c) (hnm : (fn.name == "runtime.NumGoroutine") = false) (hn : vs.length <= fn.ntmps) (hok : ∀ R ∈ re, R.ok)
  (hs : ∀ w,facts re w->zcJ P T ⟨w,[],fn.ntmps⟩ c ⟨zdx 0 (vsv vs),[],re⟩ (retQ T fn (zuc g cs))) : FnM P f vs (facts re) (zld g cs) :=
 zzm hT hmix hf hb hnm hn hok (fun w l st E w' hp hm=>zq9 hp hm) hs
theorem zaV.more {C : Cx} {me : List (Nat×ME)} {re : List Res} {w : World} (h : zaV C E me re w) {R : Res} (hR : R.ok) (hφ : R.φ w) (hb : ∀ b∈R.bs,∀ k m,lk k me=some m->E.β k≠some b) : zaV C E me (R::re) w :=
 ⟨h.ent,h.ge,h.inj,fun R' hR'=>by
  rcases zy1.1 hR' with rfl | hR'
  ·exact ⟨hR.1,hφ,fun b hb'=>⟨hR.2 w hφ b hb',hb b hb'⟩⟩
  ·exact h.res R' hR',h.ext,h.rig⟩
theorem zkN {a : Addr} {xs : List Value} {b : Nat} (h : b∈(zai (some a) xs).bs) : b=a.block:=by
 have h2 : b∈SlB (some a) xs:=h
 cases xs with
 | nil=>simp [SlB] at h2
 | cons x r=>simpa [SlB] using h2
end
section
variable {P : Program}
theorem ziE {d : Nat} {e : TypeId} {ks : List LK} (he : EqIn P d e ks) {xs ys : Array Value} {w : World} : ∀ (k i : Nat) (r : Bool),eqL (List.replicate k ks).flatten (xs.toList.drop (i*ks.length)) (ys.toList.drop (i*ks.length))=some r ->
  (Op.eqItems d e ks.length xs ys (List.range' i k)).run P w=.ok r w
 | 0,i,r,h=>by
  have : r=true:=by
   revert h
   rcases xs.toList.drop (i*ks.length) with _ | ⟨x,xs⟩ <;> rcases ys.toList.drop (i*ks.length) with _ | ⟨y,ys⟩ <;> intro h <;> simp [eqL] at h;exact h
  subst this;simp [Op.eqItems]
 | k+1,i,r,h=>by
  rw [zzI,List.flatten_cons] at h;obtain ⟨r1,r2,h1,h2,rfl,h4,h5⟩:=zen ks _ _ _ _ h;obtain ⟨g,hg,hg1,heq⟩:=he.agg;have hx:=zdX he hg hg1 h4 w;have hy:=zdX he hg hg1 h5 w;rw [List.range'_succ,Op.eqItems];rw [zxy,hx];simp only [Result.andThen];rw [zxy,hy];simp only [Result.andThen];rw [zxy,heq _ _ _ _ h1];simp only [Result.andThen];rw [zze,zze,<-zyb] at h2;have ih:=ziE (w:=w) he k (i+1) r2 h2
  cases r1
  ·simp
  ·simpa using ih
theorem EqIn.array {t e : TypeId} {d n : Nat} {ks : List LK} (hu : P.underlying t=some (.array n e)) (hi : (P.info? t).map (·.size)=some (List.replicate n ks).flatten.length) (he : EqIn P d e ks) : EqIn P (d+1) t (List.replicate n ks).flatten:=by
 obtain ⟨i,h1,h2⟩ : ∃ i,P.info? t=some i/\i.size=(List.replicate n ks).flatten.length:=by cases hx : P.info? t with | none=>rw [hx] at hi; cases hi | some i=>rw [hx] at hi; exact ⟨i,rfl,by simpa using hi⟩
 refine ⟨by simp [Program.cellsOf,h1,h2],by rw [h1]; rfl,true,zb6 hu,fun h=>(by cases h),fun xs ys r w hq=>?_⟩;obtain ⟨ie,hie⟩:=zx5.1 he.info;simp only [zhY,if_true];rw [run_equalIn_array w d _ _ hu hie,he.size,List.range_eq_range'];exact ziE he n 0 r (by simpa using hq)
theorem zcy.ofArr {t e : TypeId} {n : Nat} {ks : List LK} (hu : P.underlying t=some (.array n e)) (hg : P.eqGuardType P.depth t=false) (h : EqIn P 10000 t ks) : zcy P t ks:=by
 intro xs ys r x y w he;obtain ⟨g,hag,_,heq⟩:=h.agg;have hgt : g=true:=by
  have:=zb6 hu w;rw [hag w] at this;simpa [zbn] using this
 subst hgt;have h1:=heq xs.toList ys.toList r w he;simp only [zhY,if_true,Array.toArray_toList] at h1;constructor
 ·rw [zxy,run_eqGuard_agg w .eql t x y xs ys hg];simp only [Result.andThen,binOp,Op.equal];rw [zxy];show ((Op.equalIn 10000 t (.agg xs) (.agg ys)).run P w).andThen _=_;rw [h1];rfl
 ·rw [zxy,run_eqGuard_agg w .neq t x y xs ys hg];simp only [Result.andThen,binOp,Op.equal];rw [zxy];show ((Op.equalIn 10000 t (.agg xs) (.agg ys)).run P w).andThen _=_;rw [h1];rfl
end
end Go.Sx
end
section
namespace Go.Sx
open Go Go.Proofs
noncomputable abbrev PP : Program:=Tryz.prog
abbrev fl (n : String) (t o : Nat) (p : String) (b : Nat) : Field := { name := n, type := t, offset := o, embedded := false, tag := "", pkgPath := p, byteOffset := b }
abbrev e0 : Value:=.string (⟨#[]⟩ : ByteArray)
abbrev zbw : TypeId:=3
def ty3 : TyE:={ size:=1,bytes:=8,desc:=.int .i64,zero:=.int .i64 0,eqv:=none }
theorem ok3 : TyOk PP 3 ty3:=⟨by kernel_rfl,Tryz.underlying3⟩
abbrev zk8 : TypeId:=4
def ty4 : TyE:={ size:=1,bytes:=1,desc:=.bool,zero:=.bool false,eqv:=none }
theorem ok4 : TyOk PP 4 ty4:=⟨by kernel_rfl,Tryz.underlying4⟩
abbrev zaO : TypeId:=5
def ty5 : TyE:={ size:=1,bytes:=1,desc:=.int .u8,zero:=.int .u8 0,eqv:=none }
theorem ok5 : TyOk PP 5 ty5:=⟨by kernel_rfl,Tryz.underlying5⟩
abbrev zd1 : TypeId:=9
def ty9 : TyE:={ size:=1,bytes:=16,desc:=.string,zero:=e0,eqv:=none }
theorem ok9 : TyOk PP 9 ty9:=⟨by kernel_rfl,Tryz.underlying9⟩
abbrev zat : TypeId:=23
def ty23 : TyE := { size := 3, bytes := 40, desc := .struct #[fl "Neg" 4 0 "" 0, fl "Num" 9 1 "" 8, fl "Den" 9 2 "" 24], zero := .agg #[.bool false, e0, e0], eqv := some [.b, .s, .s] }
theorem ok23 : TyOk PP 23 ty23:=⟨by kernel_rfl,Tryz.underlying23⟩
abbrev zaw : TypeId:=25
def ty25 : TyE := { size := 6, bytes := 80, desc := .struct #[fl "X" 23 0 "" 0, fl "Y" 23 3 "" 40], zero := .agg #[.bool false, e0, e0, .bool false, e0, e0], eqv := some [.b, .s, .s, .b, .s, .s] }
theorem ok25 : TyOk PP 25 ty25:=⟨by kernel_rfl,Tryz.underlying25⟩
abbrev zaM : TypeId:=27
def ty27 : TyE := { size := 12, bytes := 160, desc := .struct #[fl "Min" 25 0 "" 0, fl "Max" 25 6 "" 80], zero := .agg #[.bool false, e0, e0, .bool false, e0, e0, .bool false, e0, e0, .bool false, e0, e0], eqv := some [.b, .s, .s, .b, .s, .s, .b, .s, .s, .b, .s, .s] }
theorem ok27 : TyOk PP 27 ty27:=⟨by kernel_rfl,Tryz.underlying27⟩
abbrev zbU : TypeId:=28
def ty28 : TyE:={ size:=1,bytes:=24,desc:=.slice 57,zero:=.slice none 0 0,eqv:=none }
theorem ok28 : TyOk PP 28 ty28:=⟨by kernel_rfl,Tryz.underlying28⟩
abbrev zcx : TypeId:=31
def ty31 : TyE:={ size:=1,bytes:=24,desc:=.slice 23,zero:=.slice none 0 0,eqv:=none }
theorem ok31 : TyOk PP 31 ty31:=⟨by kernel_rfl,Tryz.underlying31⟩
def ty32 : TyE:={ size:=1,bytes:=24,desc:=.slice 31,zero:=.slice none 0 0,eqv:=none }
theorem ok32 : TyOk PP 32 ty32:=⟨by kernel_rfl,Tryz.underlying32⟩
def ty33 : TyE:={ size:=1,bytes:=24,desc:=.slice 53,zero:=.slice none 0 0,eqv:=none }
theorem ok33 : TyOk PP 33 ty33:=⟨by kernel_rfl,Tryz.underlying33⟩
abbrev zaL : TypeId:=35
def ty35 : TyE := { size := 16, bytes := 256, desc := .struct #[fl "Box" 27 0 "" 0, fl "Segments" 28 12 "" 160, fl "Xs" 31 13 "" 184, fl "Lines" 32 14 "" 208, fl "Strips" 33 15 "" 232], zero := .agg #[.bool false, e0, e0, .bool false, e0, e0, .bool false, e0, e0, .bool false, e0, e0, .slice none 0 0, .slice none 0 0, .slice none 0 0, .slice none 0 0], eqv := none }
theorem ok35 : TyOk PP 35 ty35:=⟨by kernel_rfl,Tryz.underlying35⟩
def ty36 : TyE:={ size:=1,bytes:=8,desc:=.int .i64,zero:=.int .i64 0,eqv:=none }
theorem ok36 : TyOk PP 36 ty36:=⟨by kernel_rfl,Tryz.underlying36⟩
abbrev zbl : TypeId:=41
def ty41 : TyE:={ size:=1,bytes:=24,desc:=.slice 47,zero:=.slice none 0 0,eqv:=none }
theorem ok41 : TyOk PP 41 ty41:=⟨by kernel_rfl,Tryz.underlying41⟩
abbrev zao : TypeId:=47
def ty47 : TyE := { size := 3, bytes := 24, desc := .struct #[fl "Kind" 3 0 "" 0, fl "Column" 3 1 "" 8, fl "Row" 3 2 "" 16], zero := .agg #[.int .i64 0, .int .i64 0, .int .i64 0], eqv := some [.i .i64, .i .i64, .i .i64] }
theorem ok47 : TyOk PP 47 ty47:=⟨by kernel_rfl,Tryz.underlying47⟩
def ty48 : TyE:={ size:=1,bytes:=24,desc:=.slice 25,zero:=.slice none 0 0,eqv:=none }
theorem ok48 : TyOk PP 48 ty48:=⟨by kernel_rfl,Tryz.underlying48⟩
abbrev zeP : TypeId:=53
def ty53 : TyE:={ size:=1,bytes:=24,desc:=.slice 3,zero:=.slice none 0 0,eqv:=none }
theorem ok53 : TyOk PP 53 ty53:=⟨by kernel_rfl,Tryz.underlying53⟩
abbrev za8 : TypeId:=57
def ty57 : TyE := { size := 12, bytes := 160, desc := .struct #[fl "A" 25 0 "" 0, fl "B" 25 6 "" 80], zero := .agg #[.bool false, e0, e0, .bool false, e0, e0, .bool false, e0, e0, .bool false, e0, e0], eqv := some [.b, .s, .s, .b, .s, .s, .b, .s, .s, .b, .s, .s] }
theorem ok57 : TyOk PP 57 ty57:=⟨by kernel_rfl,Tryz.underlying57⟩
abbrev zpg : TypeId:=73
def ty73 : TyE:={ size:=4,bytes:=32,desc:=.array 4 3,zero:=.agg #[.int .i64 0,.int .i64 0,.int .i64 0,.int .i64 0],eqv:=some [.i .i64,.i .i64,.i .i64,.i .i64] }
theorem ok73 : TyOk PP 73 ty73:=⟨by kernel_rfl,Tryz.underlying73⟩
def ty76 : TyE:={ size:=1,bytes:=24,desc:=.slice 106,zero:=.slice none 0 0,eqv:=none }
theorem ok76 : TyOk PP 76 ty76:=⟨by kernel_rfl,Tryz.underlying76⟩
abbrev ziq : TypeId:=79
def ty79 : TyE := { size := 13, bytes := 184, desc := .struct #[fl "box" 27 0 "narrows/slab" 0, fl "pieces" 76 12 "narrows/slab" 160], zero := .agg #[.bool false, e0, e0, .bool false, e0, e0, .bool false, e0, e0, .bool false, e0, e0, .slice none 0 0], eqv := none }
theorem ok79 : TyOk PP 79 ty79:=⟨by kernel_rfl,Tryz.underlying79⟩
def ty94 : TyE:={ size:=1,bytes:=8,desc:=.func #[35,3] #[3] false,zero:=.nilFunc,eqv:=none }
theorem ok94 : TyOk PP 94 ty94:=⟨by kernel_rfl,Tryz.underlying94⟩
def ty95 : TyE:={ size:=1,bytes:=8,desc:=.func #[35,47] #[41] false,zero:=.nilFunc,eqv:=none }
theorem ok95 : TyOk PP 95 ty95:=⟨by kernel_rfl,Tryz.underlying95⟩
def ty96 : TyE:={ size:=1,bytes:=8,desc:=.func #[35,47] #[48] false,zero:=.nilFunc,eqv:=none }
theorem ok96 : TyOk PP 96 ty96:=⟨by kernel_rfl,Tryz.underlying96⟩
def ty98 : TyE := { size := 3, bytes := 24, desc := .struct #[fl "count" 94 0 "narrows/slab" 0, fl "faces" 95 1 "narrows/slab" 8, fl "corners" 96 2 "narrows/slab" 16], zero := .agg #[.nilFunc, .nilFunc, .nilFunc], eqv := none }
theorem ok98 : TyOk PP 98 ty98:=⟨by kernel_rfl,Tryz.underlying98⟩
abbrev zaP : TypeId:=99
def ty99 : TyE:={ size:=12,bytes:=96,desc:=.array 4 98,zero:=.agg #[.nilFunc,.nilFunc,.nilFunc,.nilFunc,.nilFunc,.nilFunc,.nilFunc,.nilFunc,.nilFunc,.nilFunc,.nilFunc,.nilFunc],eqv:=none }
theorem ok99 : TyOk PP 99 ty99:=⟨by kernel_rfl,Tryz.underlying99⟩
abbrev zcO : TypeId:=106
def ztq : TyE := { size := 13, bytes := 168, desc := .struct #[{ name := "Segment", type := 57, offset := 0, embedded := true, tag := "", pkgPath := "", byteOffset := 0 }, fl "index" 3 12 "narrows/slab" 160], zero := .agg #[.bool false, e0, e0, .bool false, e0, e0, .bool false, e0, e0, .bool false, e0, e0, .int .i64 0], eqv := some [.b, .s, .s, .b, .s, .s, .b, .s, .s, .b, .s, .s, .i .i64] }
theorem zwP : TyOk PP 106 ztq:=⟨by kernel_rfl,Tryz.underlying106⟩
def zq7 : TyE:={ size:=1,bytes:=8,desc:=.func #[25] #[23] false,zero:=.nilFunc,eqv:=none }
theorem zwO : TyOk PP 111 zq7:=⟨by kernel_rfl,Tryz.underlying111⟩
def zsJ : TyE:={ size:=4,bytes:=32,desc:=.array 4 111,zero:=.agg #[.nilFunc,.nilFunc,.nilFunc,.nilFunc],eqv:=none }
theorem zwW : TyOk PP 112 zsJ:=⟨by kernel_rfl,Tryz.underlying112⟩
def zrz : TyE:={ size:=1,bytes:=24,desc:=.slice 133,zero:=.slice none 0 0,eqv:=none }
theorem zwF : TyOk PP 131 zrz:=⟨by kernel_rfl,Tryz.underlying131⟩
abbrev za0 : TypeId:=133
def zuG : TyE := { size := 4, bytes := 48, desc := .struct #[fl "y" 23 0 "narrows/slab" 0, fl "index" 3 3 "narrows/slab" 40], zero := .agg #[.bool false, e0, e0, .int .i64 0], eqv := some [.b, .s, .s, .i .i64] }
theorem zwv : TyOk PP 133 zuG:=⟨by kernel_rfl,Tryz.underlying133⟩
abbrev zbG : TypeId:=152
def ztT : TyE := { size := 2, bytes := 24, desc := .struct #[fl "Neg" 4 0 "" 0, fl "Mag" 9 1 "" 8], zero := .agg #[.bool false, e0], eqv := some [.b, .s] }
theorem zwU : TyOk PP 152 ztT:=⟨by kernel_rfl,Tryz.underlying152⟩
def ztY : TyE := { size := 4, bytes := 48, desc := .struct #[fl "n" 152 0 "narrows/rational" 0, fl "d" 152 2 "narrows/rational" 24], zero := .agg #[.bool false, e0, .bool false, e0], eqv := some [.b, .s, .b, .s] }
theorem zw5 : TyOk PP 154 ztY:=⟨by kernel_rfl,Tryz.underlying154⟩
def ztN : TyE:={ size:=1,bytes:=8,desc:=.int .u64,zero:=.int .u64 0,eqv:=none }
theorem zwu : TyOk PP 182 ztN:=⟨by kernel_rfl,Tryz.underlying182⟩
def zsl : TyE:={ size:=1,bytes:=24,desc:=.slice 199,zero:=.slice none 0 0,eqv:=none }
theorem zw4 : TyOk PP 193 zsl:=⟨by kernel_rfl,Tryz.underlying193⟩
def zsq : TyE:={ size:=1,bytes:=8,desc:=.int .u64,zero:=.int .u64 0,eqv:=none }
theorem zwE : TyOk PP 198 zsq:=⟨by kernel_rfl,Tryz.underlying198⟩
abbrev zax : TypeId:=199
def zrt : TyE:={ size:=1,bytes:=4,desc:=.int .u32,zero:=.int .u32 0,eqv:=none }
theorem zwX : TyOk PP 199 zrt:=⟨by kernel_rfl,Tryz.underlying199⟩
def zuq : TyE:={ size:=1,bytes:=8,desc:=.int .i64,zero:=.int .i64 0,eqv:=none }
theorem zw6 : TyOk PP 213 zuq:=⟨by kernel_rfl,Tryz.underlying213⟩
abbrev zih : TypeId:=230
def zso : TyE:={ size:=8,bytes:=8,desc:=.array 8 5,zero:=.agg #[.int .u8 0,.int .u8 0,.int .u8 0,.int .u8 0,.int .u8 0,.int .u8 0,.int .u8 0,.int .u8 0],eqv:=some [.i .u8,.i .u8,.i .u8,.i .u8,.i .u8,.i .u8,.i .u8,.i .u8] }
theorem zwA : TyOk PP 230 zso:=⟨by kernel_rfl,Tryz.underlying230⟩
def zr3 : TyE:={ size:=1,bytes:=24,desc:=.slice 5,zero:=.slice none 0 0,eqv:=none }
theorem zxa : TyOk PP 231 zr3:=⟨by kernel_rfl,Tryz.underlying231⟩
def ztB : TyE:={ size:=1,bytes:=8,desc:=.int .u64,zero:=.int .u64 0,eqv:=none }
theorem zwH : TyOk PP 239 ztB:=⟨by kernel_rfl,Tryz.underlying239⟩
abbrev zel : TypeId:=256
def zsK : TyE:={ size:=8,bytes:=128,desc:=.array 8 9,zero:=.agg #[e0,e0,e0,e0,e0,e0,e0,e0],eqv:=some [.s,.s,.s,.s,.s,.s,.s,.s] }
theorem zwM : TyOk PP 256 zsK:=⟨by kernel_rfl,Tryz.underlying256⟩
theorem eq4 (d : Nat) : EqIn PP (d+1) 4 [.b]:=EqIn.bool d Tryz.underlying4 (by kernel_rfl)
theorem eq9 (d : Nat) : EqIn PP (d+1) 9 [.s]:=EqIn.str d Tryz.underlying9 (by kernel_rfl)
theorem eq23 (d : Nat) : EqIn PP (d+2) 23 [.b,.s,.s]:=zzf (ks:=[.b,.s,.s]) Tryz.underlying23 (by kernel_rfl) (by kernel_rfl) (.cons (k1:=[.b]) (k2:=[.s,.s]) (by rfl) rfl (eq4 (d+0)) (.cons (k1:=[.s]) (k2:=[.s]) (by rfl) rfl (eq9 (d+0)) (.cons (k1:=[.s]) (k2:=[]) (by rfl) rfl (eq9 (d+0)) (.nil _))))
theorem zwx : zcy PP 23 [.b,.s,.s]:=zzg Tryz.underlying23 (by kernel_rfl) (eq23 9998)
theorem eq25 (d : Nat) : EqIn PP (d+3) 25 [.b,.s,.s,.b,.s,.s]:=zzf (ks:=[.b,.s,.s,.b,.s,.s]) Tryz.underlying25 (by kernel_rfl) (by kernel_rfl) (.cons (k1:=[.b,.s,.s]) (k2:=[.b,.s,.s]) (by rfl) rfl (eq23 (d+0)) (.cons (k1:=[.b,.s,.s]) (k2:=[]) (by rfl) rfl (eq23 (d+0)) (.nil _)))
theorem zws : zcy PP 25 [.b,.s,.s,.b,.s,.s]:=zzg Tryz.underlying25 (by kernel_rfl) (eq25 9997)
theorem eq27 (d : Nat) : EqIn PP (d+4) 27 [.b,.s,.s,.b,.s,.s,.b,.s,.s,.b,.s,.s]:=zzf (ks:=[.b,.s,.s,.b,.s,.s,.b,.s,.s,.b,.s,.s]) Tryz.underlying27 (by kernel_rfl) (by kernel_rfl) (.cons (k1:=[.b,.s,.s,.b,.s,.s]) (k2:=[.b,.s,.s,.b,.s,.s]) (by rfl) rfl (eq25 (d+0)) (.cons (k1:=[.b,.s,.s,.b,.s,.s]) (k2:=[]) (by rfl) rfl (eq25 (d+0)) (.nil _)))
theorem zw8 : zcy PP 27 [.b,.s,.s,.b,.s,.s,.b,.s,.s,.b,.s,.s]:=zzg Tryz.underlying27 (by kernel_rfl) (eq27 9996)
theorem eq3 (d : Nat) : EqIn PP (d+1) 3 [.i .i64]:=EqIn.int d Tryz.underlying3 (by kernel_rfl)
theorem eq47 (d : Nat) : EqIn PP (d+2) 47 [.i .i64,.i .i64,.i .i64]:=zzf (ks:=[.i .i64,.i .i64,.i .i64]) Tryz.underlying47 (by kernel_rfl) (by kernel_rfl) (.cons (k1:=[.i .i64]) (k2:=[.i .i64,.i .i64]) (by rfl) rfl (eq3 (d+0)) (.cons (k1:=[.i .i64]) (k2:=[.i .i64]) (by rfl) rfl (eq3 (d+0)) (.cons (k1:=[.i .i64]) (k2:=[]) (by rfl) rfl (eq3 (d+0)) (.nil _))))
theorem zwG : zcy PP 47 [.i .i64,.i .i64,.i .i64]:=zzg Tryz.underlying47 (by kernel_rfl) (eq47 9998)
theorem eq57 (d : Nat) : EqIn PP (d+4) 57 [.b,.s,.s,.b,.s,.s,.b,.s,.s,.b,.s,.s]:=zzf (ks:=[.b,.s,.s,.b,.s,.s,.b,.s,.s,.b,.s,.s]) Tryz.underlying57 (by kernel_rfl) (by kernel_rfl) (.cons (k1:=[.b,.s,.s,.b,.s,.s]) (k2:=[.b,.s,.s,.b,.s,.s]) (by rfl) rfl (eq25 (d+0)) (.cons (k1:=[.b,.s,.s,.b,.s,.s]) (k2:=[]) (by rfl) rfl (eq25 (d+0)) (.nil _)))
theorem zw7 : zcy PP 57 [.b,.s,.s,.b,.s,.s,.b,.s,.s,.b,.s,.s]:=zzg Tryz.underlying57 (by kernel_rfl) (eq57 9996)
theorem eq73 (d : Nat) : EqIn PP (d+2) 73 [.i .i64,.i .i64,.i .i64,.i .i64]:=EqIn.array (n:=4) (ks:=[.i .i64]) Tryz.underlying73 (by kernel_rfl) (eq3 d)
theorem zxf : zcy PP 73 [.i .i64,.i .i64,.i .i64,.i .i64]:=zcy.ofArr Tryz.underlying73 (by kernel_rfl) (eq73 9998)
theorem zwT (d : Nat) : EqIn PP (d+5) 106 [.b,.s,.s,.b,.s,.s,.b,.s,.s,.b,.s,.s,.i .i64]:=zzf (ks:=[.b,.s,.s,.b,.s,.s,.b,.s,.s,.b,.s,.s,.i .i64]) Tryz.underlying106 (by kernel_rfl) (by kernel_rfl) (.cons (k1:=[.b,.s,.s,.b,.s,.s,.b,.s,.s,.b,.s,.s]) (k2:=[.i .i64]) (by rfl) rfl (eq57 (d+0)) (.cons (k1:=[.i .i64]) (k2:=[]) (by rfl) rfl (eq3 (d+3)) (.nil _)))
theorem zvF : zcy PP 106 [.b,.s,.s,.b,.s,.s,.b,.s,.s,.b,.s,.s,.i .i64]:=zzg Tryz.underlying106 (by kernel_rfl) (zwT 9995)
theorem zw9 (d : Nat) : EqIn PP (d+3) 133 [.b,.s,.s,.i .i64]:=zzf (ks:=[.b,.s,.s,.i .i64]) Tryz.underlying133 (by kernel_rfl) (by kernel_rfl) (.cons (k1:=[.b,.s,.s]) (k2:=[.i .i64]) (by rfl) rfl (eq23 (d+0)) (.cons (k1:=[.i .i64]) (k2:=[]) (by rfl) rfl (eq3 (d+1)) (.nil _)))
theorem zvz : zcy PP 133 [.b,.s,.s,.i .i64]:=zzg Tryz.underlying133 (by kernel_rfl) (zw9 9997)
theorem zuY (d : Nat) : EqIn PP (d+2) 152 [.b,.s]:=zzf (ks:=[.b,.s]) Tryz.underlying152 (by kernel_rfl) (by kernel_rfl) (.cons (k1:=[.b]) (k2:=[.s]) (by rfl) rfl (eq4 (d+0)) (.cons (k1:=[.s]) (k2:=[]) (by rfl) rfl (eq9 (d+0)) (.nil _)))
theorem zvC : zcy PP 152 [.b,.s]:=zzg Tryz.underlying152 (by kernel_rfl) (zuY 9998)
theorem zwC (d : Nat) : EqIn PP (d+3) 154 [.b,.s,.b,.s]:=zzf (ks:=[.b,.s,.b,.s]) Tryz.underlying154 (by kernel_rfl) (by kernel_rfl) (.cons (k1:=[.b,.s]) (k2:=[.b,.s]) (by rfl) rfl (zuY (d+0)) (.cons (k1:=[.b,.s]) (k2:=[]) (by rfl) rfl (zuY (d+0)) (.nil _)))
theorem zvS : zcy PP 154 [.b,.s,.b,.s]:=zzg Tryz.underlying154 (by kernel_rfl) (zwC 9997)
theorem eq5 (d : Nat) : EqIn PP (d+1) 5 [.i .u8]:=EqIn.int d Tryz.underlying5 (by kernel_rfl)
theorem zwJ (d : Nat) : EqIn PP (d+2) 230 [.i .u8,.i .u8,.i .u8,.i .u8,.i .u8,.i .u8,.i .u8,.i .u8]:=EqIn.array (n:=8) (ks:=[.i .u8]) Tryz.underlying230 (by kernel_rfl) (eq5 d)
theorem zwm : zcy PP 230 [.i .u8,.i .u8,.i .u8,.i .u8,.i .u8,.i .u8,.i .u8,.i .u8]:=zcy.ofArr Tryz.underlying230 (by kernel_rfl) (zwJ 9998)
theorem zwt (d : Nat) : EqIn PP (d+2) 256 [.s,.s,.s,.s,.s,.s,.s,.s]:=EqIn.array (n:=8) (ks:=[.s]) Tryz.underlying256 (by kernel_rfl) (eq9 d)
theorem zwg : zcy PP 256 [.s,.s,.s,.s,.s,.s,.s,.s]:=zcy.ofArr Tryz.underlying256 (by kernel_rfl) (zwt 9998)
def TB : TT:=[(23,ty23),(25,ty25),(27,ty27),(35,ty35),(47,ty47),(57,ty57),(79,ty79),(98,ty98),(106,ztq),(133,zuG),(152,ztT),(154,ztY),(36,ty36),(213,zuq),(239,ztB),(3,ty3),(4,ty4),(5,ty5),(9,ty9),(182,ztN),(198,zsq),(199,zrt),(193,zsl),(28,ty28),(31,ty31),(32,ty32),(33,ty33),(41,ty41),(48,ty48),(53,ty53),(76,ty76),(131,zrz),(231,zr3),(73,ty73),(99,ty99),(112,zsJ),(230,zso),(256,zsK),(111,zq7),(94,ty94),(95,ty95),(96,ty96)]
theorem zaA {t : TypeId} {e : TyE} {r : TT} (h : TyOk PP t e/\(∀ ks,e.eqv=some ks->zcy PP t ks)) (hr : zaY PP r) : zaY PP ((t,e)::r):=fun t' e' he=>by
 rw [zaB] at he;split at he
 ·rename_i e2; subst e2; cases he; exact h
 ·exact hr t' e' he
theorem zq4 : zaY PP []:=fun _ _ h=>by cases h
theorem zw2 : zaY PP [(95,ty95),(96,ty96)]:=zaA ⟨ok95,fun _ h=>by cases h⟩ (zaA ⟨ok96,fun _ h=>by cases h⟩ (zq4))
theorem zwY : zaY PP [(198,zsq),(199,zrt),(193,zsl),(28,ty28),(31,ty31),(32,ty32),(33,ty33),(41,ty41),(48,ty48),(53,ty53),(76,ty76),(131,zrz),(231,zr3),(73,ty73),(99,ty99),(112,zsJ),(230,zso),(256,zsK),(111,zq7),(94,ty94),(95,ty95),(96,ty96)]:=zaA ⟨zwE,fun _ h=>by cases h⟩ (zaA ⟨zwX,fun _ h=>by cases h⟩ (zaA ⟨zw4,fun _ h=>by cases h⟩ (zaA ⟨ok28,fun _ h=>by cases h⟩ (zaA ⟨ok31,fun _ h=>by cases h⟩ (zaA ⟨ok32,fun _ h=>by cases h⟩ (zaA ⟨ok33,fun _ h=>by cases h⟩ (zaA ⟨ok41,fun _ h=>by cases h⟩ (zaA ⟨ok48,fun _ h=>by cases h⟩ (zaA ⟨ok53,fun _ h=>by cases h⟩ (zaA ⟨ok76,fun _ h=>by cases h⟩ (zaA ⟨zwF,fun _ h=>by cases h⟩ (zaA ⟨zxa,fun _ h=>by cases h⟩ (zaA ⟨ok73,fun _ h=>by cases h; exact zxf⟩ (zaA ⟨ok99,fun _ h=>by cases h⟩ (zaA ⟨zwW,fun _ h=>by cases h⟩ (zaA ⟨zwA,fun _ h=>by cases h; exact zwm⟩ (zaA ⟨zwM,fun _ h=>by cases h; exact zwg⟩ (zaA ⟨zwO,fun _ h=>by cases h⟩ (zaA ⟨ok94,fun _ h=>by cases h⟩ (zw2))))))))))))))))))))
theorem zwN : zaY PP [(23,ty23),(25,ty25),(27,ty27),(35,ty35),(47,ty47),(57,ty57),(79,ty79),(98,ty98),(106,ztq),(133,zuG),(152,ztT),(154,ztY),(36,ty36),(213,zuq),(239,ztB),(3,ty3),(4,ty4),(5,ty5),(9,ty9),(182,ztN),(198,zsq),(199,zrt),(193,zsl),(28,ty28),(31,ty31),(32,ty32),(33,ty33),(41,ty41),(48,ty48),(53,ty53),(76,ty76),(131,zrz),(231,zr3),(73,ty73),(99,ty99),(112,zsJ),(230,zso),(256,zsK),(111,zq7),(94,ty94),(95,ty95),(96,ty96)]:=zaA ⟨ok23,fun _ h=>by cases h; exact zwx⟩ (zaA ⟨ok25,fun _ h=>by cases h; exact zws⟩ (zaA ⟨ok27,fun _ h=>by cases h; exact zw8⟩ (zaA ⟨ok35,fun _ h=>by cases h⟩ (zaA ⟨ok47,fun _ h=>by cases h; exact zwG⟩ (zaA ⟨ok57,fun _ h=>by cases h; exact zw7⟩ (zaA ⟨ok79,fun _ h=>by cases h⟩ (zaA ⟨ok98,fun _ h=>by cases h⟩ (zaA ⟨zwP,fun _ h=>by cases h; exact zvF⟩ (zaA ⟨zwv,fun _ h=>by cases h; exact zvz⟩ (zaA ⟨zwU,fun _ h=>by cases h; exact zvC⟩ (zaA ⟨zw5,fun _ h=>by cases h; exact zvS⟩ (zaA ⟨ok36,fun _ h=>by cases h⟩ (zaA ⟨zw6,fun _ h=>by cases h⟩ (zaA ⟨zwH,fun _ h=>by cases h⟩ (zaA ⟨ok3,fun _ h=>by cases h⟩ (zaA ⟨ok4,fun _ h=>by cases h⟩ (zaA ⟨ok5,fun _ h=>by cases h⟩ (zaA ⟨ok9,fun _ h=>by cases h⟩ (zaA ⟨zwu,fun _ h=>by cases h⟩ (zwY))))))))))))))))))))
theorem zab : zaY PP TB:=zwN
theorem mixed : PP.follows .mixedOrders=true:=by kernel_rfl
theorem zqq (l : List UInt8) : Fn PP 232 [.string (bs l)] (.string (bs (zcf l))):=by
 refine zzn zab mixed Tryz.func232 rfl rfl (zxW rfl) ?_;intro w;conv=>whnf
 refine zal (ι:=List UInt8) (fun k=>⟨[(0,.o (.v (.string (bs k))))],[],[]⟩) (fun k=>zcf k=zcf l) (fun k=>k.length) l rfl (zzj ⟨rfl,trivial⟩ trivial (by simp)) ?_;intro k hk;conv=>whnf
 refine zaj ?_ ?_
 ·intro h;conv=>whnf
  rcases k with _ | ⟨x,r⟩
  ·simp [bs] at h
  refine ⟨by simp [zdw],?_⟩;conv=>whnf
  refine zaj ?_ ?_
  ·intro h2;conv=>whnf
   refine ⟨by simp [zdw]; omega,?_⟩;conv=>whnf
   refine ⟨r,?_,by simp,?_⟩
   ·rw [<-hk,zcf,zxJ];have h3 : x.toNat=0:=by simpa [zgP] using h2
    exact zzN.1 h3
   ·refine zzj ⟨?_,trivial⟩ trivial (by simp);show some _=some _;simp [SV.ren,AV.ren,zgn,zdw]
  ·intro h2;conv=>whnf
   refine zaa ?_;show Value.string (bs (x::r))=_;rw [<-hk,zcf,zxI];intro h3;subst h3;simp [zgP] at h2
 ·intro h;conv=>whnf
  refine zaa ?_;have : k=[]:=by
   have h2 : (bs k).data=#[]:=by simpa [ByteArray.toList_eq] using h
   exact zyr Array.toList h2
  subst this;show Value.string (bs [])=_;rw [<-hk]; rfl
abbrev zAs:=@Nat.min_eq_left
abbrev zAr:=@List.take_add_one
abbrev zAq:=@List.take_length
def u32c (x : Nat) : List Value:=[.int .u32 (x : Int)]
abbrev u32V (l : List Nat) : List Value:=rowV u32c l
theorem zay (x : Nat) : (u32c x).length=1:=rfl
theorem zav (l : List Nat) : (u32V l).length=l.length:=by rw [zad zay]; omega
theorem zqa (l : List Nat) (x : Nat) : tr (l++[x])=if x=0 then tr l else l++[x]:=by
 induction l with
 | nil=>simp only [zzJ,tr]
 | cons y r ih =>
  by_cases hx : x=0
  ·subst hx;rw [zxJ rfl] at ih ⊢;simp only [zyw,tr,ih]
  ·rw [zxI hx] at ih ⊢;simp only [zyw,tr,ih]
   cases r <;> rfl
theorem zez (A : Option Addr) (c : Nat) (l : List Nat) (hc : l.length<=c) (hl : l.length<=1000000000000) : FnM PP 233 [.slice A l.length c] (facts [zai A (u32V l)]) (zaR (.slice A (tr l).length c)):=by
 refine zzo zab mixed Tryz.func233 rfl rfl (zxW rfl) (by simp [zzk]) ?_;intro w hw;conv=>whnf
 refine zal (ι:=Nat) (fun k=>⟨[(0,.o (.v (.slice A k c)))],[],[zai A (u32V l)]⟩) (fun k=>tr (l.take k)=tr l/\k<=l.length) (fun k=>k) l.length ⟨by rw [zAq],zxr _⟩ (zzj ⟨rfl,trivial⟩ trivial (fun R hR=>hR)) ?_;rintro k ⟨hk,hkl⟩;conv=>whnf
 refine zaj ?_ ?_
 ·intro h;have hk0 : 0<k:=by simpa using h
  have hwr : IntKind.i64.wrap ((k : Int)-1)=((k-1 : Nat) : Int):=by rw [wrap_i64 (by omega) (by omega)]; omega
  have hsome : A.isSome=true:=zam (zaK hw) (by rw [zav]; omega);conv=>whnf
  refine ⟨⟨by rw [hwr]; omega,by rw [hwr]; omega,hsome⟩,?_⟩;conv=>whnf
  refine zzR u32c zay (zyZ.2 rfl) rfl (by rw [hwr]; omega) (by decide) (fun _=>rfl) ?_;rw [hwr];intro x hx;simp only [zzS] at hx;have htk : l.take k=l.take (k-1)++[x]:=by
   have:=zAr (l:=l) (i:=k-1);rw [show k-1+1=k by omega,hx] at this;exact this
  conv=>whnf
  refine zaj ?_ ?_
  ·intro h2;conv=>whnf
   refine ⟨⟨by omega,by rw [hwr]; omega,by rw [hwr]; omega⟩,?_⟩;conv=>whnf
   refine ⟨k-1,⟨?_,by omega⟩,by omega,?_⟩
   ·rw [htk,zqa,zxJ (by simpa using h2)] at hk;exact hk
   ·refine zzj ⟨?_,trivial⟩ trivial (fun R hR=>hR);show some _=some _;rw [hwr];simp only [SV.ren,AV.ren,zxq,SV.o.injEq,AV.v.injEq,Value.slice.injEq];refine ⟨?_,by omega,by simp⟩;split
    ·rfl
    ·cases A <;> simp [Addr.add]
  ·intro h2;conv=>whnf
   refine zaa ?_;rw [htk,zqa,zxI (by simpa using h2)] at hk;rw [<-hk,<-htk];simp [zAs hkl]
 ·intro h;conv=>whnf
  refine zaa ?_;have hk0 : k=0:=by simpa using h
  subst hk0;rw [<-hk]; rfl
abbrev zAJ:=@List.drop_zero
abbrev zAI:=@Nat.sub_self
abbrev zAH:=@Int.natCast_pow
abbrev zAG:=@Int.natCast_mul
abbrev zAF:=@Int.tmod_eq_emod_of_nonneg
abbrev zAE:=@List.drop_length
abbrev zAD:=@Int.tdiv_eq_ediv_of_nonneg
abbrev zAC:=@Nat.two_pow_add_eq_or_of_lt
abbrev zAB:=@BitVec.toNat_or
abbrev zAA:=@BitVec.toNat_ofInt
abbrev zAz:=@IntKind.wrap_u32
abbrev zAy:=@Nat.add_mul_mod_self_left
abbrev zAx:=@Nat.mul_left_comm
abbrev zAw:=@Nat.div_add_mod
abbrev zAv:=@Nat.pow_pos
abbrev zAu:=@List.getLast?_eq_getElem?
abbrev zAt:=@Nat.div_div_eq_div_mul
def pad (B K v : Nat) : List Nat:=(List.range K).map fun j=>v/B ^ j%B
theorem zaF (B K v : Nat) : (pad B K v).length=K:=by simp [pad]
theorem zh6 (B K v j : Nat) (hj : j<K) : (pad B K v)[j]?=some (v/B ^ j%B):=by simp [pad,hj]
theorem zhr {B : Nat} (hB : 0<B) (K v : Nat) : ∀ x∈pad B K v,x<B:=by
 intro x hx;obtain ⟨j,_,rfl⟩:=zx1.1 hx;exact zyl _ hB
theorem zrS (B K : Nat) : pad B K 0=List.replicate K 0:=by
 apply zyj;intro j;by_cases hj : j<K
 ·rw [zh6 _ _ _ _ hj]; simp [hj]
 ·rw [zym (by rw [zaF]; omega),zym (by simp; omega)]
theorem zjR (B K v : Nat) : pad B (K+1) v=v%B::pad B K (v/B):=by
 simp only [pad,List.range_succ_eq_map,zxT,zx0]
 congr 1
 ·simp
 ·apply zxl;intro j _;simp only [Function.comp,Nat.succ_eq_add_one,zzD];rw [zzG,zAt]
theorem zgK {B : Nat} (hB : 0<B) : ∀ (K v : Nat),lv B (pad B K v)=v%B ^ K
 | 0,v=>by simp [pad,lv,Nat.mod_one]
 | K+1,v=>by
  rw [zjR,lv,zgK hB K,zzD,zzG (B ^ K),Nat.mod_mul]
theorem zmG {B K v : Nat} (hB : 2<=B) (h1 : v<B ^ K) (h2 : K=0\/B ^ (K-1)<=v) : pad B K v=digs B v:=by
 have hlv : lv B (pad B K v)=v:=by rw [zgK (by omega),zye h1]
 have:=zhQ hB (pad B K v) (zhr (by omega) K v) (by
   rcases zyf K with rfl | hK
   · simp [pad]
   · rw [zAu,zaF,zh6 _ _ _ _ (by omega)];have h3 : 0<v/B ^ (K-1):=zzC (by rcases h2 with h | h; omega; exact h) (zAv (by omega));have h4 : v/B ^ (K-1)<B:=by
       apply zzK;rw [<-zzD,show (K-1).succ=K by omega]; exact h1
     rw [zye h4];simp; omega)
 rw [hlv] at this;exact this.symm
theorem zrq (K i v b : Nat) (hv : v<256 ^ i) (hb : b<256) (hK : i/4<K) :
  pad (2 ^ 32) K (v+b*256 ^ i)=(pad (2 ^ 32) K v).set (i/4) (v/(2 ^ 32) ^ (i/4)%2 ^ 32+b*2 ^ (8*(i%4)))/\v/(2 ^ 32) ^ (i/4)%2 ^ 32<2 ^ (8*(i%4)):=by
 have hi : 4*(i/4)+i%4=i:=zAw i 4;have hr : i%4<4:=zyl _ (by omega);have h256 : (256 : Nat) ^ i=(2 ^ 32) ^ (i/4)*2 ^ (8*(i%4)):=by
  rw [show (256 : Nat)=2 ^ 8 by rfl,<-Nat.pow_mul,<-Nat.pow_mul,<-zAg]
  congr 1; omega
 have hP : 0<(2 ^ 32 : Nat) ^ (i/4):=zAv (by decide);have hlow : v/(2 ^ 32) ^ (i/4)<2 ^ (8*(i%4)):=by
  apply zzK;rw [<-h256]; exact hv
 have hle : 2 ^ (8*(i%4))<=(2 ^ 32 : Nat):=zAa (by decide) (by omega);have hdiv : (v+b*256 ^ i)/(2 ^ 32) ^ (i/4)=v/(2 ^ 32) ^ (i/4)+b*2 ^ (8*(i%4)):=by
  rw [h256,show b*((2 ^ 32) ^ (i/4)*2 ^ (8*(i%4)))=(2 ^ 32) ^ (i/4)*(b*2 ^ (8*(i%4))) by rw [zAx],zzA _ _ hP]
 have hb2 : b*2 ^ (8*(i%4))+2 ^ (8*(i%4))<=2 ^ 32:=by
  have h1 : (b+1)*2 ^ (8*(i%4))<=256*2 ^ (8*(i%4)):=zyL _ hb;have h2 : 256*2 ^ (8*(i%4))=2 ^ (8+8*(i%4)):=by rw [zAg]
  have h3 : (2 : Nat) ^ (8+8*(i%4))<=2 ^ 32:=zAa (by decide) (by omega);rw [zzP,zz4] at h1;omega
 rw [zye (zxw hlow hle)];refine ⟨?_,hlow⟩;apply zyj;intro j;by_cases hj : j<K
 ·rw [zh6 _ _ _ _ hj,List.getElem?_set];by_cases he : i/4=j
  ·subst he;rw [zxJ rfl,zxJ (by rw [zaF]; exact hK),hdiv,zye (by omega)]
  ·rw [zxI he,zh6 _ _ _ _ hj]
   congr 1
   rcases zyW j (i/4) with hlt | hge
   ·-- below: a multiple is added
    have : (2 ^ 32 : Nat) ^ (i/4)=(2 ^ 32) ^ j*((2 ^ 32) ^ (i/4-j-1)*2 ^ 32):=by
     rw [<-zzD,<-zAg]; congr 1; omega
    rw [h256,this];have h5 : b*((2 ^ 32) ^ j*((2 ^ 32) ^ (i/4-j-1)*2 ^ 32)*2 ^ (8*(i%4)))=(2 ^ 32) ^ j*(2 ^ 32*(b*(2 ^ 32) ^ (i/4-j-1)*2 ^ (8*(i%4)))):=by
     simp only [zzF,zAx,zzG]
    rw [h5,zzA _ _ (zAv (by decide)),zAy]
   ·-- above: nothing is there
    have hz : ∀ u,u<(2 ^ 32 : Nat) ^ (i/4+1)->u/(2 ^ 32) ^ j=0:=fun u hu=>by
     apply zzB;exact zxw hu (zAa (by decide) (by omega))
    have hcap : v+b*256 ^ i<(2 ^ 32 : Nat) ^ (i/4+1):=by
     have h6 : v+b*256 ^ i<(b+1)*256 ^ i:=by rw [zzP,zz4]; omega
     have h7 : (b+1)*256 ^ i<=(2 ^ 32) ^ (i/4)*2 ^ 32:=by
      rw [h256,zAx];apply zzH;rw [zzP,zz4]; omega
     rw [zzD]; omega
    rw [hz _ hcap,hz v (by omega)]
 ·rw [zym (by rw [zaF]; omega),zym (by rw [List.length_set,zaF]; omega)]

theorem zta {a x s : Nat} (ha : a<2 ^ s) (h : a+x*2 ^ s<2 ^ 32) :
  IntKind.u32.wrap ((BitVec.ofInt IntKind.u32.bits (a : Int) ||| BitVec.ofInt IntKind.u32.bits ((x*2 ^ s : Nat) : Int)).toNat : Int)=((a+x*2 ^ s : Nat) : Int):=by
 rw [zAz];have h1 : (BitVec.ofInt IntKind.u32.bits (a : Int)).toNat=a:=by
  rw [zAA]; simp [IntKind.bits]; omega
 have h2 : (BitVec.ofInt IntKind.u32.bits ((x*2 ^ s : Nat) : Int)).toNat=x*2 ^ s:=by
  rw [zAA]; show ((((x*2 ^ s : Nat) : Int))%((2 ^ 32 : Nat) : Int)).toNat=_; omega
 rw [zAB,h1,h2,Nat.or_comm,zzG x,<-zAC ha];rw [zzG x] at h;omega

theorem zs4 (l : List UInt8) (hl : l.length<=1000000000000) : FnM PP 189 [.string (bs l)] (facts []) (zbD zax 1 (digs (2 ^ 32) (nat l)).length (u32V (digs (2 ^ 32) (nat l)))):=by
 refine zzp zab mixed Tryz.func189 rfl rfl (zxW rfl) (by simp) ?_;intro w hw;conv=>whnf
 refine zzt (zqq l) rfl ?_;obtain ⟨m,hm⟩ : ∃ m,m=zcf l:=⟨_,rfl⟩;rw [<-hm];have hml : m.length<=1000000000000:=by rw [hm]; have:=zfI l; omega
 obtain ⟨n,hn⟩ : ∃ n,n=m.length:=⟨_,rfl⟩;have hK : IntKind.i64.wrap ((IntKind.i64.wrap (IntKind.i64.wrap (((bs m).size : Int)+4)-1)).tdiv 4)=(((n+3)/4 : Nat) : Int):=by
  rw [zdw,<-hn,wrap_i64 (n:=(n : Int)+4) (by omega) (by omega),wrap_i64 (n:=(n : Int)+4-1) (by omega) (by omega),zAD (by omega),wrap_i64 (by omega) (by omega)];omega
 conv=>whnf
 refine ⟨by decide,?_⟩;conv=>whnf
 refine ⟨by rw [hK]; refine ⟨by omega,by omega,?_,by omega⟩; show (4 : Int)*_<=_; omega,?_⟩;conv=>whnf
 refine zal (ι:=Nat) (fun i=>⟨[(0,.o (.v (.string (bs m)))),(3,.o (.w 13)),(15,.o (.v (.int .i64 n))),(16,.o (.v (.int .i64 i)))],[(13,.own zax 1 ((n+3)/4) (u32V (pad (2 ^ 32) ((n+3)/4) (nat (m.drop (n-i))))))],[]⟩)
  (fun i=>i<=n) (fun i=>n-i) 0 (zyD _) (zzj ⟨rfl,rfl,by rw [hn]; rfl,rfl,trivial⟩ ⟨⟨_,rfl,?_⟩,trivial⟩ (fun R hR=>hR)) ?_
 ·rw [hK];simp only [ME.ren,zzS];rw [zza,hn,zAE,zdS,zrS];simp only [u32V,zb4];exact .refl _
 intro i hi;conv=>whnf
 refine zaj ?_ ?_
 ·intro h;have hi' : i<n:=by simpa using h
  have hk1 : IntKind.i64.wrap (IntKind.i64.wrap (((bs m).size : Int)-1)-(i : Int))=((n-1-i : Nat) : Int):=by
   rw [zdw,<-hn,wrap_i64 (n:=(n : Int)-1) (by omega) (by omega),wrap_i64 (by omega) (by omega)]; omega
  have hq : IntKind.i64.wrap ((i : Int).tdiv 4)=((i/4 : Nat) : Int):=by
   rw [zAD (by omega),wrap_i64 (by omega) (by omega)]; omega
  have hr : IntKind.i64.wrap (8*(i : Int).tmod 4)=((8*(i%4) : Nat) : Int):=by
   rw [zAF (by omega),wrap_i64 (by omega) (by omega)]; omega
  conv=>whnf
  refine zak.qk ?_;conv=>whnf
  refine ⟨by decide,?_⟩;conv=>whnf
  refine ⟨by rw [hq]; omega,?_⟩;conv=>whnf
  refine zzT u32c zay (k:=i/4) (by rw [hq]; rfl) (by rw [zaF]; omega) (by decide) (fun _=>rfl) ?_;intro x hx;rw [zh6 _ _ _ _ (by omega),zxq] at hx;conv=>whnf
  refine ⟨by rw [hk1,zdw]; omega,?_⟩;conv=>whnf
  refine ⟨by decide,?_⟩;conv=>whnf
  refine ⟨by rw [hr]; omega,?_⟩;conv=>whnf
  refine ⟨by rw [hq]; omega,?_⟩;conv=>whnf
  refine ⟨by rw [hq,zav,zaF]; exact ⟨by show (i/4)*1+1<=_; omega,by decide⟩,?_⟩;conv=>whnf
  refine ⟨i+1,hi',by omega,?_⟩;refine zzj ⟨rfl,rfl,rfl,?_,trivial⟩ ⟨⟨_,rfl,?_⟩,trivial⟩ (fun R hR=>hR)
  ·show some (SV.o (.v (.int _ (IntKind.i64.wrap ((i : Int)+1)))))=_;rw [wrap_i64 (by omega) (by omega)]; rfl
  ·have hlt : n-1-i<m.length:=by omega
   obtain ⟨b,hb⟩ : ∃ b,b=m[n-1-i].toNat:=⟨_,rfl⟩;have hb256 : b<256:=by rw [hb]; exact UInt8.toNat_lt _
   have hdrop : m.drop (n-(i+1))=m[n-1-i]::m.drop (n-i):=by
    rw [show n-(i+1)=n-1-i by omega,zzd hlt,show n-1-i+1=n-i by omega]
   have hlen : (m.drop (n-i)).length=i:=by rw [zzw]; omega
   have hv : nat (m.drop (n-i))<256 ^ i:=by have:=zcT (m.drop (n-i)); rwa [hlen] at this
   have hnat : nat (m.drop (n-(i+1)))=nat (m.drop (n-i))+b*256 ^ i:=by rw [hdrop,zcs,hlen,hb,zyc]
   obtain ⟨h1,h2⟩:=zrq ((n+3)/4) i _ b hv hb256 (by omega);rw [hx] at h1 h2;have hle : (2 : Nat) ^ (8*(i%4))*256<=2 ^ 32:=by
    rw [show (256 : Nat)=2 ^ 8 by rfl,<-zAg];exact zAa (by decide) (by omega)
   have hsum : x+b*2 ^ (8*(i%4))<2 ^ 32:=by
    have h3 : (b+1)*2 ^ (8*(i%4))<=256*2 ^ (8*(i%4)):=zyL _ hb256;rw [zzP,zz4] at h3;rw [zzG] at hle;omega
   have hval : sb (bs m) (IntKind.i64.wrap (IntKind.i64.wrap (((bs m).size : Int)-1)-(i : Int)))=(b : Int):=by
    rw [hk1,zgP,zzS,zzO,zyy hlt,hb]; rfl
   have hsh : IntKind.u32.wrap (IntKind.u32.wrap (b : Int)*2 ^ min (IntKind.i64.wrap (8*(i : Int).tmod 4)).toNat IntKind.u32.bits)=((b*2 ^ (8*(i%4)) : Nat) : Int):=by
    rw [hr,zzS,zAz (b : Int),Int.emod_eq_of_lt (by omega) (by omega),show min (8*(i%4)) IntKind.u32.bits=8*(i%4) from zAs (by show _<=32; omega),zAz];have : ((b : Int)*2 ^ (8*(i%4)))=((b*2 ^ (8*(i%4)) : Nat) : Int):=by rw [zAG,zAH]; rfl
    rw [this];omega
   rw [hval,hsh,zta h2 hsum,hq,hnat];simp only [ME.ren];rw [h1];have:=zcc (f:=u32c) zay (k:=i/4) (l:=pad (2 ^ 32) ((n+3)/4) (nat (m.drop (n-i)))) (x+b*2 ^ (8*(i%4))) (by rw [zaF]; omega);show MEle (ME.own _ _ _ (putN (i/4*1) (u32c _) (rowV u32c _))) (ME.own _ _ _ (rowV u32c _));rw [this];exact .refl _
 ·intro h
  have hi' : i=n:=by have : ¬i<n:=by simpa using h
                     omega
  conv=>whnf
  refine ⟨13,rfl,?_⟩;show some (ME.own zax 1 ((n+3)/4) (u32V (pad (2 ^ 32) ((n+3)/4) (nat (m.drop (n-i))))))=_;have hnm : nat m=nat l:=by rw [hm,zgs]
  have hdig : pad (2 ^ 32) ((n+3)/4) (nat m)=digs (2 ^ 32) (nat m):=by
   have hpw : ∀ k : Nat,((2 : Nat) ^ 32) ^ k=256 ^ (4*k):=fun k=>by rw [show (256 : Nat)=2 ^ 8 by rfl,<-Nat.pow_mul,<-Nat.pow_mul]; congr 1; omega
   refine zmG (by decide) ?_ ?_
   ·rw [hpw];exact zxw (zcT m) (zAa (by decide) (by omega))
   ·rcases zyf n with h0 | h0
    ·left; omega
    ·right
     rw [hpw];have hh : m.head?≠some 0:=by rw [hm]; exact ze8 l
     rcases m with _ | ⟨y,r⟩
     ·simp at hn; omega
     ·have hy : 0<y.toNat:=by
       rcases zyf y.toNat with h1 | h1
       ·exact absurd (by rw [zzN.1 (show y.toNat=(0 : UInt8).toNat from h1)]; rfl) hh
       ·exact h1
      rw [zcs];simp only [zxR] at hn;have h2 : 256 ^ (4*((n+3)/4-1))<=256 ^ r.length:=zAa (by decide) (by omega);have h3 : 1*256 ^ r.length<=y.toNat*256 ^ r.length:=zyL _ hy;omega
  have hlen : (n+3)/4=(digs (2 ^ 32) (nat m)).length:=by rw [<-hdig,zaF]
  rw [hi',zAI,zAJ,hdig,<-hnm,<-hlen]
def cmpN (x y : Nat) : Int:=if x<y then -1 else if y<x then 1 else 0
theorem ziJ {B : Nat} (hB : 0<B) {a b : List Nat} {k x y : Nat} (ha : ∀ z∈a,z<B) (hlen : a.length=b.length) (hx : a[k]?=some x) (hy : b[k]?=some y) (hd : a.drop (k+1)=b.drop (k+1)) (hxy : x<y) : lv B a<lv B b:=by
 obtain ⟨hka,rfl⟩:=zyz.1 hx;obtain ⟨hkb,rfl⟩:=zyz.1 hy;have h1 : lv B a=lv B (a.take k)+B ^ k*(a[k]+B*lv B (a.drop (k+1))):=by
  conv=>lhs; rw [<-zz0 k a,zzd hka]
  rw [zbL,zyI,zAs (by omega)]; rfl
 have h2 : lv B b=lv B (b.take k)+B ^ k*(b[k]+B*lv B (b.drop (k+1))):=by
  conv=>lhs; rw [<-zz0 k b,zzd hkb]
  rw [zbL,zyI,zAs (by omega)]; rfl
 have h3 : lv B (a.take k)<B ^ k:=by
  have:=zfQ hB (a.take k) (fun z hz=>ha z (zxP hz));rwa [zyI,zAs (by omega)] at this
 rw [h1,h2,hd];have h4 : B ^ k*(a[k]+B*lv B (b.drop (k+1))+1)<=B ^ k*(b[k]+B*lv B (b.drop (k+1))):=zzH _ (by omega);rw [zzE,zyR] at h4;omega
theorem zh9 (x y : Nat) (A B : Option Addr) (c d : Nat) (hx : (digs (2 ^ 32) x).length<=1000000000000) (hy : (digs (2 ^ 32) y).length<=1000000000000) :
  FnM PP 190 [.slice A (digs (2 ^ 32) x).length c,.slice B (digs (2 ^ 32) y).length d] (facts [zai A (u32V (digs (2 ^ 32) x)),zai B (u32V (digs (2 ^ 32) y))]) (zaR (.int .i64 (cmpN x y))):=by
 obtain ⟨a,ha⟩ : ∃ a,a=digs (2 ^ 32) x:=⟨_,rfl⟩;obtain ⟨b,hb⟩ : ∃ b,b=digs (2 ^ 32) y:=⟨_,rfl⟩;rw [<-ha,<-hb];rw [<-ha] at hx;rw [<-hb] at hy;have hlva : lv (2 ^ 32) a=x:=by rw [ha,zbN (by decide)]
 have hlvb : lv (2 ^ 32) b=y:=by rw [hb,zbN (by decide)]
 have hal : ∀ z∈a,z<2 ^ 32:=by rw [ha]; exact zb1 (by decide) x
 have hbl : ∀ z∈b,z<2 ^ 32:=by rw [hb]; exact zb1 (by decide) y
 have hshort : ∀ {u v : Nat},(digs (2 ^ 32) u).length<(digs (2 ^ 32) v).length->u<v:=by
  intro u v h;rcases zyW u v with h1 | h1
  ·exact h1
  ·have h2 : v<(2 ^ 32) ^ (digs (2 ^ 32) u).length:=zAc h1 (zbF (by decide));have:=zbc (by decide) h2;omega
 refine zzo zab mixed Tryz.func190 rfl rfl (zxW rfl) (by simp [zzk]) ?_;intro w hw;conv=>whnf
 refine zaj ?_ ?_
 ·intro h;have hne : a.length≠b.length:=by
   have : ¬((a.length : Int)=(b.length : Int)):=by simpa using h
   omega
  conv=>whnf
  refine zaj ?_ ?_
  ·intro h2;have hlt : a.length<b.length:=by simpa using h2
   conv=>whnf
   refine zaa ?_;rw [ha,hb] at hlt;rw [cmpN,zxJ (hshort hlt)]
  ·intro h2;have hlt : ¬a.length<b.length:=by simpa using h2
   conv=>whnf
   refine zaa ?_;have : b.length<a.length:=by omega
   rw [ha,hb] at this;have:=hshort this;rw [cmpN,zxI (by omega),zxJ this]
 ·intro h;have hlen : a.length=b.length:=by
   have : (a.length : Int)=(b.length : Int):=by simpa using h
   omega
  have hwr : IntKind.i64.wrap ((a.length : Int)-1)=(a.length : Int)-1:=wrap_i64 (by omega) (by omega);conv=>whnf
  refine zal (ι:=Nat) (fun k=>⟨[(0,.o (.v (.slice A a.length c))),(1,.o (.v (.slice B b.length d))),(5,.o (.v (.int .i64 ((k : Int)-1))))],[],[zai A (u32V a),zai B (u32V b)]⟩) (fun k=>k<=a.length/\a.drop k=b.drop k) (fun k=>k) a.length
   ⟨zxr _,by rw [zAE,hlen,zAE]⟩ (zzj ⟨rfl,rfl,zyr (fun z=>some (SV.o (.v (.int .i64 z)))) hwr,trivial⟩ trivial (fun R hR=>hR)) ?_
  rintro k ⟨hk,hdr⟩;conv=>whnf
  refine zaj ?_ ?_
  ·intro h2
   have hk0 : 0<k:=by have : (0 : Int)<=(k : Int)-1:=by simpa using h2
                      omega
   have hA : A.isSome=true:=zam (zbz hw).1 (by rw [zav]; omega);have hB : B.isSome=true:=zam (zbz hw).2 (by rw [zav]; omega);have hkn : ((k : Int)-1).toNat=k-1:=by omega
   conv=>whnf
   refine zak.qk ?_;conv=>whnf
   refine ⟨⟨by omega,by omega,hA⟩,?_⟩;conv=>whnf
   refine zzR u32c zay (zxA ..) rfl (by omega) (by decide) (fun _=>rfl) ?_;intro u hu;conv=>whnf
   refine ⟨⟨by omega,by omega,hB⟩,?_⟩;conv=>whnf
   refine zzR u32c zay (zxB _ (zyZ.2 rfl)) rfl (by omega) (by decide) (fun _=>rfl) ?_;intro v hv;rw [hkn] at hu hv;have hdr' : a.drop (k-1+1)=b.drop (k-1+1):=by rw [show k-1+1=k by omega]; exact hdr
   conv=>whnf
   refine zaj ?_ ?_
   ·intro h3;have huv : u<v:=by simpa using h3
    conv=>whnf
    refine zaa ?_;have:=ziJ (by decide) hal hlen hu hv hdr' huv;rw [hlva,hlvb] at this;rw [cmpN,zxJ this]
   ·intro h3;have huv : ¬u<v:=by simpa using h3
    conv=>whnf
    refine zak.qk ?_;conv=>whnf
    refine ⟨⟨by omega,by omega,hA⟩,?_⟩;conv=>whnf
    refine zzR u32c zay (zxA ..) rfl (by omega) (by decide) (fun _=>rfl) ?_;intro u' hu';rw [hkn] at hu';have hu2 : u'=u:=by rw [hu] at hu'; exact (zz1 hu').symm
    subst hu2;conv=>whnf
    refine ⟨⟨by omega,by omega,hB⟩,?_⟩;conv=>whnf
    refine zzR u32c zay (zxB _ (zyZ.2 rfl)) rfl (by omega) (by decide) (fun _=>rfl) ?_;intro v' hv';rw [hkn] at hv';have hv2 : v'=v:=by rw [hv] at hv'; exact (zz1 hv').symm
    subst hv2;conv=>whnf
    refine zaj ?_ ?_
    ·intro h4;have huv2 : v' < u':=by simpa using h4
     conv=>whnf
     refine zaa ?_;have:=ziJ (by decide) hbl hlen.symm hv hu hdr'.symm huv2;rw [hlva,hlvb] at this;rw [cmpN,zxI (by omega),zxJ this]
    ·intro h4;have huv2 : ¬v' < u':=by simpa using h4
     have e : u'=v':=by omega
     conv=>whnf
     refine ⟨k-1,⟨by omega,?_⟩,by omega,?_⟩
     ·obtain ⟨h5,h6⟩:=zyz.1 hu;obtain ⟨h7,h8⟩:=zyz.1 hv;rw [zzd h5,zzd h7,h6,h8,hdr',e]
     ·refine zzj ⟨rfl,rfl,?_,trivial⟩ trivial (fun R hR=>hR);show some (SV.o (.v (.int _ (IntKind.i64.wrap ((k : Int)-1-1)))))=_;rw [wrap_i64 (by omega) (by omega)];simp only [SV.ren,AV.ren]
      congr 4; omega
  ·intro h2
   have hk0 : k=0:=by have : ¬(0 : Int)<=(k : Int)-1:=by simpa using h2
                      omega
   subst hk0;conv=>whnf
   refine zaa ?_;simp only [zAJ] at hdr;have : x=y:=by rw [<-hlva,<-hlvb,hdr]
   rw [cmpN,zxI (by omega),zxI (by omega)]
abbrev zAP:=@Int.natCast_nonneg
abbrev zAO:=@Int.fdiv_eq_ediv_of_nonneg
abbrev zAN:=@IntKind.wrap_u8
abbrev zAM:=@List.flatMap_cons
abbrev zAL:=@UInt8.toNat_ofNat'
abbrev zAK:=@List.length_nil
def u8c (b : UInt8) : List Value:=[.int .u8 (b.toNat : Int)]
theorem zbK (b : UInt8) : (u8c b).length=1:=rfl
theorem zdZ : ∀ l : List UInt8,rowV u8c l=bytV l
 | []=>rfl
 | x::l=>by rw [rowV,zdZ l]; rfl
theorem zgc (a b : List UInt8) : nat (a++b)=nat a*256 ^ b.length+nat b:=by
 induction a with
 | nil=>simp [zdS]
 | cons x a ih =>
  rw [zyw,zcs,zcs,ih,zz2,zAg];rw [zzP,zzF]; omega
def be4 (x : Nat) : List UInt8:=[UInt8.ofNat (x/2 ^ 24),UInt8.ofNat (x/2 ^ 16),UInt8.ofNat (x/2 ^ 8),UInt8.ofNat x]
theorem ztA {x : Nat} (hx : x<2 ^ 32) : nat (be4 x)=x:=by
 simp only [be4,zcs,zxR,zAK,zdS,zAL];omega
def be (l : List Nat) : List UInt8:=l.reverse.flatMap be4
theorem zth : ∀ l : List Nat,(∀ x∈l,x<2 ^ 32)->nat (be l)=lv (2 ^ 32) l
 | [],_=>rfl
 | x::l,h=>by
  have ih:=zth l (fun y hy=>h y (zxB _ hy));rw [be] at ih ⊢;rw [List.reverse_cons,List.flatMap_append,zgc,ih,zAM,List.flatMap_nil,zyP,ztA (h x (by simp)),lv];simp only [be4,zxR,zAK];omega
theorem zlm (l : List Nat) : (be l).length=4*l.length:=by
 rw [be];have : ∀ r : List Nat,(r.flatMap be4).length=4*r.length:=by
  intro r
  induction r with
  | nil=>rfl
  | cons x r ih=>rw [zAM,zz2,ih]; simp [be4]; omega
 rw [this,List.length_reverse]
theorem ztu (x : Nat) (l : List Nat) : be (x::l)=be l++be4 x:=by simp [be]
theorem zj6 (x k : Nat) (hx : x<2 ^ 32) : IntKind.u8.wrap ((x : Int).fdiv (2 ^ k))=((UInt8.ofNat (x/2 ^ k)).toNat : Int):=by
 have h2 : ((2 : Int) ^ k)=((2 ^ k : Nat) : Int):=by rw [zAH]; rfl
 rw [zAN,zAL,h2,zAO _ (zAP _)];have : ((x : Int)/((2 ^ k : Nat) : Int))=((x/2 ^ k : Nat) : Int):=rfl;rw [this]; omega
theorem zvr (x : Nat) : IntKind.u8.wrap (x : Int)=((UInt8.ofNat x).toNat : Int):=by
 rw [zAN,zAL]; omega

theorem zuE (A : Option Addr) (c : Nat) (l : List Nat) (hl : ∀ x∈l,x<2 ^ 32) (hlen : l.length<=1000000000000) : FnM PP 234 [.slice A l.length c] (facts [zai A (u32V l)]) (zaR (.string (bs (bytes (lv (2 ^ 32) l))))):=by
 refine zzo zab mixed Tryz.func234 rfl rfl (zxW rfl) (by simp [zzk]) ?_;intro w hw;have hwr : IntKind.i64.wrap ((l.length : Int)-1)=(l.length : Int)-1:=wrap_i64 (by omega) (by omega);conv=>whnf
 refine zal (ι:=Nat) (fun k=>⟨[(0,.o (.v (.slice A l.length c))),(3,.o (.w 100)),(4,.o (.v (.int .i64 ((k : Int)-1))))],[(100,.own zaO 1 (4*(l.length-k)) (rowV u8c (be (l.drop k))))],[zai A (u32V l)]⟩) (fun k=>k<=l.length) (fun k=>k) l.length (zxr _)
  ((SLe.nil 3 100 zaO 1 rfl rfl).trans (zzj ⟨rfl,rfl,zyr (fun z=>some (SV.o (.v (.int .i64 z)))) hwr,trivial⟩ ⟨⟨_,rfl,?_⟩,trivial⟩ (fun R hR=>hR))) ?_
 ·rw [zAI,zAE]; exact .refl _
 intro k hk;conv=>whnf
 refine zaj ?_ ?_
 ·intro h
  have hk0 : 0<k:=by have : (0 : Int)<=(k : Int)-1:=by simpa using h
                     omega
  have hA : A.isSome=true:=zam (zaK hw) (by rw [zav]; omega);have hkn : ((k : Int)-1).toNat=k-1:=by omega
  have hget : l[k-1]?=some l[k-1]:=zyy (by omega);conv=>whnf
  refine zak.qk ?_;conv=>whnf
  refine ⟨⟨by omega,by omega,hA⟩,?_⟩;conv=>whnf
  refine zzR u32c zay (zyZ.2 rfl) rfl (by omega) (by decide) (fun _=>rfl) ?_;rw [hkn];intro x hx;conv=>whnf
  refine ⟨by decide,?_⟩;conv=>whnf
  refine ⟨⟨by omega,by omega,hA⟩,?_⟩;conv=>whnf
  refine zzR u32c zay (zyZ.2 rfl) rfl (by omega) (by decide) (fun _=>rfl) ?_;rw [hkn];intro x2 hx2;obtain rfl : x2=x:=by rw [hx] at hx2; exact (zz1 hx2).symm
  conv=>whnf
  refine ⟨by decide,?_⟩;conv=>whnf
  refine ⟨⟨by omega,by omega,hA⟩,?_⟩;conv=>whnf
  refine zzR u32c zay (zyZ.2 rfl) rfl (by omega) (by decide) (fun _=>rfl) ?_;rw [hkn];intro x3 hx3;obtain rfl : x3=x2:=by rw [hx] at hx3; exact (zz1 hx3).symm
  conv=>whnf
  refine ⟨by decide,?_⟩;conv=>whnf
  refine ⟨⟨by omega,by omega,hA⟩,?_⟩;conv=>whnf
  refine zzR u32c zay (zyZ.2 rfl) rfl (by omega) (by decide) (fun _=>rfl) ?_;rw [hkn];intro x4 hx4;obtain rfl : x4=x3:=by rw [hx] at hx4; exact (zz1 hx4).symm
  have hxb : x4<2 ^ 32:=hl x4 (zyq hx);conv=>whnf
  refine ⟨⟨by omega,by show _*1<=_; omega⟩,?_⟩;conv=>whnf
  refine ⟨k-1,by omega,by omega,?_⟩;refine zzi (fun _=>37) ⟨rfl,rfl,?_,trivial⟩ ⟨⟨_,rfl,?_⟩,trivial⟩ rfl (fun R hR=>hR)
  ·show some (SV.o (.v (.int _ (IntKind.i64.wrap ((k : Int)-1-1)))))=_;rw [wrap_i64 (by omega) (by omega)];simp only [SV.ren,AV.ren]
   congr 4; omega
  ·have hle : be (l.drop (k-1))=be (l.drop k)++be4 x4:=by
    rw [zzd (show k-1<l.length by omega),ztu,show k-1+1=k by omega]
    congr 2
    rw [hget] at hx; exact zz1 hx
   show MEle (ME.own _ _ (4*(l.length-k)+4) (app (rowV u8c (be (l.drop k))) [Value.int _ (IntKind.u8.wrap ((x4 : Int).fdiv (2 ^ 24))),Value.int _ (IntKind.u8.wrap ((x4 : Int).fdiv (2 ^ 16))),Value.int _ (IntKind.u8.wrap ((x4 : Int).fdiv (2 ^ 8))),Value.int _ (IntKind.u8.wrap (x4 : Int))])) (ME.own _ _ (4*(l.length-(k-1))) (rowV u8c (be (l.drop (k-1)))));rw [zj6 x4 24 hxb,zj6 x4 16 hxb,zj6 x4 8 hxb,zvr,za4,hle,zaE,show 4*(l.length-k)+4=4*(l.length-(k-1)) by omega];exact .refl _
 ·intro h
  have hk0 : k=0:=by have : ¬(0 : Int)<=(k : Int)-1:=by simpa using h
                     omega
  subst hk0;conv=>whnf
  refine ⟨be l,?_,?_,?_⟩
  ·rw [zlm]; omega
  ·rw [zAJ,<-zdZ,zyJ];rw [zad zbK,zlm]; omega
  ·conv=>whnf
   refine zzt (zqq (be l)) rfl ?_;conv=>whnf
   refine zaa ?_;rw [zcP,zth l hl]
abbrev zAQ:=@IntKind.wrap_u64
abbrev intV (neg : Bool) (mag : ByteArray) : Value:=.agg ⟨[.bool neg,.string mag]⟩
abbrev zV (z : Int) : Value:=intV (decide (z<0)) (bs (bytes z.natAbs))
theorem zhq (n : Nat) : ((bs (bytes n)).toList==(⟨#[]⟩ : ByteArray).toList)=decide (n=0):=by
 rw [zbs,ByteArray.toList_eq];rcases zyf n with rfl | h
 ·rw [zaS]; rfl
 ·have : bytes n≠[]:=fun e=>by have:=zde.1 e; omega
  have h2 : (bytes n==[])=false:=by
   cases hb : bytes n with
   | nil=>exact absurd hb this
   | cons x r=>rfl
  rw [show (⟨#[]⟩ : ByteArray).data.toList=[] from rfl,h2];simp; omega
theorem zo9 (neg : Bool) (A : Option Addr) (c : Nat) (l : List Nat) (hl : ∀ x∈l,x<2 ^ 32) (hc : l.length<=c) (hlen : l.length<=1000000000000) : FnM PP 191 [.bool neg,.slice A l.length c] (facts [zai A (u32V l)]) (zaR (zV (if neg then -(lv (2 ^ 32) l : Int) else lv (2 ^ 32) l))):=by
 refine zzo zab mixed Tryz.func191 rfl rfl (zxW rfl) (by simp [zzk]) ?_;intro w hw;have htl : (u32V l).take (tr l).length=u32V (tr l):=by
  have:=zbh (f:=u32c) zay (tr l).length l;rw [zyR,zc7] at this;exact this
 have htr : lv (2 ^ 32) (tr l)=lv (2 ^ 32) l:=by rw [zgM (by decide) hl,zbN (by decide)]
 have htb : ∀ x∈tr l,x<2 ^ 32:=by rw [zgM (by decide) hl]; exact zb1 (by decide) _
 conv=>whnf
 refine zae.cutR (k:=(tr l).length) (zez A c l hc hlen) (zyZ.2 rfl) ?_ rfl;rw [htl];conv=>whnf
 have hcs:=zuE A c (tr l) htb (zxs (zck l) hlen);refine zzr hcs.enters (zzq hcs rfl (by intro R hR; rw [zyZ] at hR; subst hR; exact zxA ..)) ?_;rw [htr]
 cases neg
 ·conv=>whnf
  refine zaa ?_;rw [zxI (by decide)];have h1 : decide ((lv (2 ^ 32) l : Int)<0)=false:=by simp
  simp only [zV,intV];rw [h1,zAi]
 ·conv=>whnf
  refine zaa ?_;rw [zxJ rfl,zhq];simp only [zV,intV];rw [zAf,zAi];have h1 : decide (-(lv (2 ^ 32) l : Int)<0)=(!decide (lv (2 ^ 32) l=0)):=by
   by_cases h : lv (2 ^ 32) l=0
   ·simp [h]
   ·rw [zz8 (show -(lv (2 ^ 32) l : Int)<0 by omega),zz9 h]; rfl
  rw [h1]
theorem c_Of (n : Int) (h1 : -9223372036854775808<=n) (h2 : n<=9223372036854775807) : Fn PP 127 [.int .i64 n] (zV n):=by
 refine zzn zab mixed Tryz.func127 rfl rfl (zxW rfl) ?_;intro w;have key : ∀ (u : Nat) (neg : Bool),u<2 ^ 64->∀ (A : Option Addr) (c : Nat),2<=c->FnM PP 191 [.bool neg,.slice A 2 c] (facts [zai A [.int .u32 ((u%2 ^ 32 : Nat) : Int),.int .u32 ((u/2 ^ 32 : Nat) : Int)]]) (zaR (zV (if neg then -(u : Int) else u))):=by
  intro u neg hu A c hc;have:=zo9 neg A c [u%2 ^ 32,u/2 ^ 32] (by intro x hx; simp at hx; omega) hc (by simp);have he : lv (2 ^ 32) [u%2 ^ 32,u/2 ^ 32]=u:=by simp only [lv]; omega
  rw [he] at this;exact this
 have hlo : ∀ u : Nat,u<2 ^ 64->IntKind.u32.wrap (u : Int)=((u%2 ^ 32 : Nat) : Int):=fun u hu=>by rw [zAz]; omega
 have hhi : ∀ u : Nat,u<2 ^ 64->IntKind.u32.wrap ((u : Int).fdiv (2 ^ min (32 : Int).toNat IntKind.u64.bits))=((u/2 ^ 32 : Nat) : Int):=fun u hu=>by
  rw [zAz,show min (32 : Int).toNat IntKind.u64.bits=32 from rfl,zAO _ (by decide)]; omega
 conv=>whnf
 refine zaj ?_ ?_
 ·intro h;have hn : n<0:=by simpa using h
  obtain ⟨u,hu⟩ : ∃ u : Nat,(u : Int)=-n:=⟨(-n).toNat,by omega⟩;have hu2 : u<2 ^ 64:=by omega
  have hwu : IntKind.u64.wrap (0-IntKind.u64.wrap n)=(u : Int):=by rw [zAQ,zAQ]; omega
  conv=>whnf
  refine ⟨by decide,?_⟩;conv=>whnf
  have hk:=key u true hu2;rw [zxJ rfl,show -(u : Int)=n by omega] at hk;refine zzr (r:=zV n) (hk none 2 (zxr _)).enters (zzW (x:=.o (.s 17 0 2 2)) (fun v=>[.bool true,v]) (RdA.box rfl (zxr _)) (zxB _ (zxA ..)) ?_ ?_) ?_
  ·intro E;show [Value.bool (decide (n<0)),_]=_;rw [zz8 hn]; rfl
  ·rw [hwu,hlo u hu2,hhi u hu2];exact hk
  ·conv=>whnf
   exact zaa rfl
 ·intro h;have hn : ¬n<0:=by simpa using h
  obtain ⟨u,hu⟩ : ∃ u : Nat,(u : Int)=n:=⟨n.toNat,by omega⟩;have hu2 : u<2 ^ 64:=by omega
  have hwu : IntKind.u64.wrap n=(u : Int):=by rw [zAQ]; omega
  conv=>whnf
  refine ⟨by decide,?_⟩;conv=>whnf
  have hk:=key u false hu2;rw [zxI (by decide),hu] at hk;refine zzr (r:=zV n) (hk none 2 (zxr _)).enters (zzW (x:=.o (.s 17 0 2 2)) (fun v=>[.bool false,v]) (RdA.box rfl (zxr _)) (zxB _ (zxA ..)) ?_ ?_) ?_
  ·intro E;show [Value.bool (decide (n<0)),_]=_;rw [zz9 hn]; rfl
  ·rw [hwu,hlo u hu2,hhi u hu2];exact hk
  ·conv=>whnf
   exact zaa rfl
theorem zcv (B : Nat) (l : List Nat) (x : Nat) : lv B (l++[x])=lv B l+B ^ l.length*x:=by rw [zbL]; simp [lv]
theorem za5 {B i x : Nat} {l : List Nat} (h : l[i]?=some x) : lv B (l.take (i+1))=lv B (l.take i)+B ^ i*x:=by
 obtain ⟨hi,rfl⟩:=zyz.1 h;rw [zAr,zyy hi];simp only [Option.toList_some];rw [zcv,zyI,zAs (by omega)]
theorem zlb {α : Type} {i : Nat} {l : List α} (h : l.length<=i) : l.take (i+1)=l.take i:=by rw [zyJ (by omega),zyJ h]
theorem zfT {B i cy x y : Nat} {a b o : List Nat} (hB : 0<B) (ho : o.length=i) (hv : lv B o+B ^ i*cy=lv B (a.take i)+lv B (b.take i)) (hx : a[i]?=some x) (hy : b[i]?=some y\/(b.length<=i/\y=0)) :
  lv B (o++[(cy+x+y)%B])+B ^ (i+1)*((cy+x+y)/B)=lv B (a.take (i+1))+lv B (b.take (i+1)):=by
 have h1:=za5 (B:=B) hx;have h2 : lv B (b.take (i+1))=lv B (b.take i)+B ^ i*y:=by
  rcases hy with h | ⟨h,rfl⟩
  ·exact za5 h
  ·rw [zlb h]; omega
 rw [h1,h2,zcv,ho,zzD,zzF];have h3 : B ^ i*((cy+x+y)%B)+B ^ i*(B*((cy+x+y)/B))=B ^ i*(cy+x+y):=by
  rw [<-zzE,zzy]
 rw [zzE,zzE] at h3;omega

theorem zsT (A B : Option Addr) (c d : Nat) (a b : List Nat) (ha : ∀ x∈a,x<2 ^ 32) (hb : ∀ x∈b,x<2 ^ 32) (hla : a.length<=100000000000) (hlb : b.length<=100000000000) :
  FnM PP 229 [.slice A a.length c,.slice B b.length d] (facts [zai A (u32V a),zai B (u32V b)]) (zbD zax 1 (digs (2 ^ 32) (lv (2 ^ 32) a+lv (2 ^ 32) b)).length (u32V (digs (2 ^ 32) (lv (2 ^ 32) a+lv (2 ^ 32) b)))):=by
 refine zzp zab mixed Tryz.func229 rfl rfl (zxW rfl) (by simp [zzk]) ?_;intro w hw;obtain ⟨re,hre⟩ : ∃ re,re=[zai A (u32V a),zai B (u32V b)]:=⟨_,rfl⟩;have hmA : zai A (u32V a)∈re:=by rw [hre]; simp
 have hmB : zai B (u32V b)∈re:=by rw [hre]; simp
 have hfA : SlF A (u32V a) w:=(zbz hw).1;have hfB : SlF B (u32V b) w:=(zbz hw).2;obtain ⟨s,hs⟩ : ∃ s,s=lv (2 ^ 32) a+lv (2 ^ 32) b:=⟨_,rfl⟩;rw [<-hre,<-hs];clear hre hw;conv=>whnf
 refine zaj ?_ ?_
 ·intro h;obtain ⟨A1,a1,c1,B1,b1,d1,eA,ea,ec,eB,eb,ed⟩ : ∃ A1 a1 c1 B1 b1 d1,A1=B/\a1=b/\c1=d/\B1=A/\b1=a/\d1=c:=⟨_,_,_,_,_,_,rfl,rfl,rfl,rfl,rfl,rfl⟩;have hlen : b1.length<=a1.length:=by
   have : (a.length : Int)<b.length:=by simpa using h
   rw [ea,eb]; omega
  have hs1 : s=lv (2 ^ 32) a1+lv (2 ^ 32) b1:=by rw [hs,ea,eb,zyc]
  have ha1 : ∀ x∈a1,x<2 ^ 32:=ea▸hb;have hb1 : ∀ x∈b1,x<2 ^ 32:=eb▸ha;have hla1 : a1.length<=100000000000:=ea▸hlb;have hmA1 : zai A1 (u32V a1)∈re:=by rw [eA,ea]; exact hmB
  have hmB1 : zai B1 (u32V b1)∈re:=by rw [eB,eb]; exact hmA
  have hfA1 : SlF A1 (u32V a1) w:=by rw [eA,ea]; exact hfB
  have hfB1 : SlF B1 (u32V b1) w:=by rw [eB,eb]; exact hfA
  conv=>whnf
  rw [<-eA,<-ea,<-ec,<-eB,<-eb,<-ed];clear hs hmA hmB hfA hfB ha hb hla hlb;have hcap : IntKind.i64.wrap ((a1.length : Int)+1)=((a1.length+1 : Nat) : Int):=by rw [wrap_i64 (by omega) (by omega)]; omega
  refine ⟨by rw [hcap]; refine ⟨by decide,by omega,?_,by omega⟩; show (4 : Int)*_<=_; omega,?_⟩;conv=>whnf
  refine zal (ι:=List Nat×Nat) (fun ⟨o,cy⟩=>⟨[(0,.o (.v (.slice A1 a1.length c1))),(1,.o (.v (.slice B1 b1.length d1))),(5,.o (.w 100)),(6,.o (.v (.int .u64 cy))),(20,.o (.v (.slice A1 a1.length c1))),(21,.o (.v (.int .i64 a1.length))),(22,.o (.v (.int .i64 o.length)))],[(100,.own zax 1 o.length (u32V o))],re⟩)
   (fun ⟨o,cy⟩=>o.length<=a1.length/\cy<=1/\(∀ x∈o,x<2 ^ 32)/\lv (2 ^ 32) o+(2 ^ 32) ^ o.length*cy=lv (2 ^ 32) (a1.take o.length)+lv (2 ^ 32) (b1.take o.length)) (fun ⟨o,cy⟩=>a1.length-o.length) ([],0)
   ⟨zyD _,zyD _,(fun _ h=>by cases h),rfl⟩ (zzi (fun _=>19) ⟨rfl,rfl,rfl,rfl,rfl,rfl,rfl,trivial⟩ ⟨mrf rfl,trivial⟩ rfl (fun R hR=>hR)) ?_
  rintro ⟨o,cy⟩ ⟨ho,hcy,hob,hinv⟩;conv=>whnf
  refine zaj ?_ ?_
  ·intro h
   have hi : o.length<a1.length:=by have : (o.length : Int)<a1.length:=by simpa using h
                                    omega
   have hA : A1.isSome=true:=zam hfA1 (by rw [zav]; omega);conv=>whnf
   refine ⟨⟨by omega,by omega,hA⟩,?_⟩;conv=>whnf
   refine zzR u32c zay hmA1 rfl (by rw [zzS]; exact hi) (by decide) (fun _=>rfl) ?_;rw [zzS];intro x hx;have hxb : x<2 ^ 32:=ha1 x (zyq hx);have hc1 : IntKind.u64.wrap ((cy : Int)+IntKind.u64.wrap (x : Int))=((cy+x : Nat) : Int):=by rw [zAQ,zAQ]; omega
   conv=>whnf
   refine zaj ?_ ?_
   ·intro h2
    have hi2 : o.length<b1.length:=by have : (o.length : Int)<b1.length:=by simpa using h2
                                      omega
    have hB : B1.isSome=true:=zam hfB1 (by rw [zav]; omega);conv=>whnf
    refine ⟨⟨by omega,by omega,hB⟩,?_⟩;conv=>whnf
    refine zzR u32c zay hmB1 rfl (by rw [zzS]; exact hi2) (by decide) (fun _=>rfl) ?_;rw [zzS];intro y hy;have hyb : y<2 ^ 32:=hb1 y (zyq hy);have hc2 : IntKind.u64.wrap (IntKind.u64.wrap ((cy : Int)+IntKind.u64.wrap (x : Int))+IntKind.u64.wrap (y : Int))=((cy+x+y : Nat) : Int):=by rw [hc1,zAQ,zAQ]; omega
    conv=>whnf
    refine ⟨⟨by omega,by show _*4<=_; omega⟩,?_⟩;conv=>whnf
    refine ⟨by decide,?_⟩;conv=>whnf
    refine ⟨(o++[(cy+x+y)%2 ^ 32],(cy+x+y)/2 ^ 32),⟨?_,?_,?_,?_⟩,?_,?_⟩
    ·simp; omega
    ·show (cy+x+y)/2 ^ 32<=1;omega
    ·intro z hz;rcases zyK.1 hz with hz | hz
     ·exact hob z hz
     ·rw [zyZ.1 hz]; exact zyl _ (by decide)
    ·show lv (2 ^ 32) (o++[(cy+x+y)%2 ^ 32])+(2 ^ 32) ^ (o++[(cy+x+y)%2 ^ 32]).length*((cy+x+y)/2 ^ 32)=lv (2 ^ 32) (a1.take (o++[(cy+x+y)%2 ^ 32]).length)+lv (2 ^ 32) (b1.take (o++[(cy+x+y)%2 ^ 32]).length);rw [zz2];exact zfT (by decide) rfl hinv hx (.inl hy)
    ·simp; omega
    ·refine zzi (fun _=>46) ⟨rfl,rfl,rfl,?_,rfl,rfl,?_,trivial⟩ ⟨⟨_,rfl,?_⟩,trivial⟩ rfl (fun R hR=>hR)
     ·show some (SV.o (.v (.int _ (Int.fdiv _ _))))=some (SV.o (.v (.int _ _)));rw [hc2,show min (32 : Int).toNat IntKind.u64.bits=32 from rfl,zAO _ (by decide)];rfl
     ·show some (SV.o (.v (.int _ (IntKind.i64.wrap ((o.length : Int)+1)))))=some (SV.o (.v (.int _ (((o++[(cy+x+y)%2 ^ 32]).length : Nat) : Int))));rw [wrap_i64 (by omega) (by omega),zz2]; rfl
     ·show MEle (ME.own _ _ (o.length+1) (app (rowV u32c o) [Value.int _ (IntKind.u32.wrap _)])) (ME.own _ _ (o++[(cy+x+y)%2 ^ 32]).length (rowV u32c (o++[(cy+x+y)%2 ^ 32])));rw [hc2,za4,zaE,zz2,zAz,show ((cy+x+y : Nat) : Int)%4294967296=(((cy+x+y)%2 ^ 32 : Nat) : Int) by omega];exact .refl _
   ·intro h2
    have hi2 : b1.length<=o.length:=by have : ¬(o.length : Int)<b1.length:=by simpa using h2
                                       omega
    conv=>whnf
    refine ⟨⟨by omega,by show _*4<=_; omega⟩,?_⟩;conv=>whnf
    refine ⟨by decide,?_⟩;conv=>whnf
    refine ⟨(o++[(cy+x)%2 ^ 32],(cy+x)/2 ^ 32),⟨?_,?_,?_,?_⟩,?_,?_⟩
    ·simp; omega
    ·show (cy+x)/2 ^ 32<=1;omega
    ·intro z hz;rcases zyK.1 hz with hz | hz
     ·exact hob z hz
     ·rw [zyZ.1 hz]; exact zyl _ (by decide)
    ·show lv (2 ^ 32) (o++[(cy+x)%2 ^ 32])+(2 ^ 32) ^ (o++[(cy+x)%2 ^ 32]).length*((cy+x)/2 ^ 32)=lv (2 ^ 32) (a1.take (o++[(cy+x)%2 ^ 32]).length)+lv (2 ^ 32) (b1.take (o++[(cy+x)%2 ^ 32]).length);rw [zz2];exact zfT (y:=0) (by decide) rfl hinv hx (.inr ⟨hi2,rfl⟩)
    ·simp; omega
    ·refine zzi (fun _=>46) ⟨rfl,rfl,rfl,?_,rfl,rfl,?_,trivial⟩ ⟨⟨_,rfl,?_⟩,trivial⟩ rfl (fun R hR=>hR)
     ·show some (SV.o (.v (.int _ (Int.fdiv _ _))))=some (SV.o (.v (.int _ _)));rw [hc1,show min (32 : Int).toNat IntKind.u64.bits=32 from rfl,zAO _ (by decide)];rfl
     ·show some (SV.o (.v (.int _ (IntKind.i64.wrap ((o.length : Int)+1)))))=some (SV.o (.v (.int _ (((o++[(cy+x)%2 ^ 32]).length : Nat) : Int))));rw [wrap_i64 (by omega) (by omega),zz2]; rfl
     ·show MEle (ME.own _ _ (o.length+1) (app (rowV u32c o) [Value.int _ (IntKind.u32.wrap _)])) (ME.own _ _ (o++[(cy+x)%2 ^ 32]).length (rowV u32c (o++[(cy+x)%2 ^ 32])));rw [hc1,za4,zaE,zz2,zAz,show ((cy+x : Nat) : Int)%4294967296=(((cy+x)%2 ^ 32 : Nat) : Int) by omega];exact .refl _
  ·intro h
   have hi : o.length=a1.length:=by have : ¬(o.length : Int)<a1.length:=by simpa using h
                                    omega
   conv=>whnf
   refine ⟨⟨by omega,by show _*4<=_; omega⟩,?_⟩;conv=>whnf
   have hrow : app (rowV u32c o) [Value.int .u32 (IntKind.u32.wrap (cy : Int))]=rowV u32c (o++[cy]):=by
    rw [za4,zaE,zAz,show (cy : Int)%4294967296=(cy : Int) by omega]; rfl
   have hob2 : ∀ x∈o++[cy],x<2 ^ 32:=fun z hz=>by
    rcases zyK.1 hz with hz | hz
    ·exact hob z hz
    ·rw [zyZ.1 hz]; omega
   have hval : lv (2 ^ 32) (o++[cy])=s:=by
    rw [zcv,hinv,hi,zAq,zyJ hlen,hs1]
   have hdig : tr (o++[cy])=digs (2 ^ 32) s:=by rw [zgM (by decide) hob2,hval]
   refine zzY (n':=(tr (o++[cy])).length) 55 (fun A c hc=>?_) rfl ?_ rfl rfl ?_ rfl
   ·have:=zez A c (o++[cy]) (by rw [zz2]; exact hc) (by rw [zz2]; simp; omega);rw [zz2] at this;rw [hrow];exact this
   ·have:=zck (o++[cy]); rw [zz2] at this; exact this
   ·conv=>whnf
    refine ⟨55,rfl,?_⟩;show some (ME.own zax 1 (tr (o++[cy])).length ((app (rowV u32c o) [Value.int .u32 (IntKind.u32.wrap (cy : Int))]).take ((tr (o++[cy])).length*1)))=_;rw [hrow,zbh zay,zc7,hdig]
 ·intro h;obtain ⟨A1,a1,c1,B1,b1,d1,eA,ea,ec,eB,eb,ed⟩ : ∃ A1 a1 c1 B1 b1 d1,A1=A/\a1=a/\c1=c/\B1=B/\b1=b/\d1=d:=⟨_,_,_,_,_,_,rfl,rfl,rfl,rfl,rfl,rfl⟩;have hlen : b1.length<=a1.length:=by
   have : ¬(a.length : Int)<b.length:=by simpa using h
   rw [ea,eb]; omega
  have hs1 : s=lv (2 ^ 32) a1+lv (2 ^ 32) b1:=by rw [hs,ea,eb]
  have ha1 : ∀ x∈a1,x<2 ^ 32:=ea▸ha;have hb1 : ∀ x∈b1,x<2 ^ 32:=eb▸hb;have hla1 : a1.length<=100000000000:=ea▸hla;have hmA1 : zai A1 (u32V a1)∈re:=by rw [eA,ea]; exact hmA
  have hmB1 : zai B1 (u32V b1)∈re:=by rw [eB,eb]; exact hmB
  have hfA1 : SlF A1 (u32V a1) w:=by rw [eA,ea]; exact hfA
  have hfB1 : SlF B1 (u32V b1) w:=by rw [eB,eb]; exact hfB
  conv=>whnf
  rw [<-eA,<-ea,<-ec,<-eB,<-eb,<-ed];clear hs hmA hmB hfA hfB ha hb hla hlb;have hcap : IntKind.i64.wrap ((a1.length : Int)+1)=((a1.length+1 : Nat) : Int):=by rw [wrap_i64 (by omega) (by omega)]; omega
  refine ⟨by rw [hcap]; refine ⟨by decide,by omega,?_,by omega⟩; show (4 : Int)*_<=_; omega,?_⟩;conv=>whnf
  refine zal (ι:=List Nat×Nat) (fun ⟨o,cy⟩=>⟨[(0,.o (.v (.slice A1 a1.length c1))),(1,.o (.v (.slice B1 b1.length d1))),(5,.o (.w 100)),(6,.o (.v (.int .u64 cy))),(20,.o (.v (.slice A1 a1.length c1))),(21,.o (.v (.int .i64 a1.length))),(22,.o (.v (.int .i64 o.length)))],[(100,.own zax 1 o.length (u32V o))],re⟩)
   (fun ⟨o,cy⟩=>o.length<=a1.length/\cy<=1/\(∀ x∈o,x<2 ^ 32)/\lv (2 ^ 32) o+(2 ^ 32) ^ o.length*cy=lv (2 ^ 32) (a1.take o.length)+lv (2 ^ 32) (b1.take o.length)) (fun ⟨o,cy⟩=>a1.length-o.length) ([],0)
   ⟨zyD _,zyD _,(fun _ h=>by cases h),rfl⟩ (zzi (fun _=>19) ⟨rfl,rfl,rfl,rfl,rfl,rfl,rfl,trivial⟩ ⟨mrf rfl,trivial⟩ rfl (fun R hR=>hR)) ?_
  rintro ⟨o,cy⟩ ⟨ho,hcy,hob,hinv⟩;conv=>whnf
  refine zaj ?_ ?_
  ·intro h
   have hi : o.length<a1.length:=by have : (o.length : Int)<a1.length:=by simpa using h
                                    omega
   have hA : A1.isSome=true:=zam hfA1 (by rw [zav]; omega);conv=>whnf
   refine ⟨⟨by omega,by omega,hA⟩,?_⟩;conv=>whnf
   refine zzR u32c zay hmA1 rfl (by rw [zzS]; exact hi) (by decide) (fun _=>rfl) ?_;rw [zzS];intro x hx;have hxb : x<2 ^ 32:=ha1 x (zyq hx);have hc1 : IntKind.u64.wrap ((cy : Int)+IntKind.u64.wrap (x : Int))=((cy+x : Nat) : Int):=by rw [zAQ,zAQ]; omega
   conv=>whnf
   refine zaj ?_ ?_
   ·intro h2
    have hi2 : o.length<b1.length:=by have : (o.length : Int)<b1.length:=by simpa using h2
                                      omega
    have hB : B1.isSome=true:=zam hfB1 (by rw [zav]; omega);conv=>whnf
    refine ⟨⟨by omega,by omega,hB⟩,?_⟩;conv=>whnf
    refine zzR u32c zay hmB1 rfl (by rw [zzS]; exact hi2) (by decide) (fun _=>rfl) ?_;rw [zzS];intro y hy;have hyb : y<2 ^ 32:=hb1 y (zyq hy);have hc2 : IntKind.u64.wrap (IntKind.u64.wrap ((cy : Int)+IntKind.u64.wrap (x : Int))+IntKind.u64.wrap (y : Int))=((cy+x+y : Nat) : Int):=by rw [hc1,zAQ,zAQ]; omega
    conv=>whnf
    refine ⟨⟨by omega,by show _*4<=_; omega⟩,?_⟩;conv=>whnf
    refine ⟨by decide,?_⟩;conv=>whnf
    refine ⟨(o++[(cy+x+y)%2 ^ 32],(cy+x+y)/2 ^ 32),⟨?_,?_,?_,?_⟩,?_,?_⟩
    ·simp; omega
    ·show (cy+x+y)/2 ^ 32<=1;omega
    ·intro z hz;rcases zyK.1 hz with hz | hz
     ·exact hob z hz
     ·rw [zyZ.1 hz]; exact zyl _ (by decide)
    ·show lv (2 ^ 32) (o++[(cy+x+y)%2 ^ 32])+(2 ^ 32) ^ (o++[(cy+x+y)%2 ^ 32]).length*((cy+x+y)/2 ^ 32)=lv (2 ^ 32) (a1.take (o++[(cy+x+y)%2 ^ 32]).length)+lv (2 ^ 32) (b1.take (o++[(cy+x+y)%2 ^ 32]).length);rw [zz2];exact zfT (by decide) rfl hinv hx (.inl hy)
    ·simp; omega
    ·refine zzi (fun _=>46) ⟨rfl,rfl,rfl,?_,rfl,rfl,?_,trivial⟩ ⟨⟨_,rfl,?_⟩,trivial⟩ rfl (fun R hR=>hR)
     ·show some (SV.o (.v (.int _ (Int.fdiv _ _))))=some (SV.o (.v (.int _ _)));rw [hc2,show min (32 : Int).toNat IntKind.u64.bits=32 from rfl,zAO _ (by decide)];rfl
     ·show some (SV.o (.v (.int _ (IntKind.i64.wrap ((o.length : Int)+1)))))=some (SV.o (.v (.int _ (((o++[(cy+x+y)%2 ^ 32]).length : Nat) : Int))));rw [wrap_i64 (by omega) (by omega),zz2]; rfl
     ·show MEle (ME.own _ _ (o.length+1) (app (rowV u32c o) [Value.int _ (IntKind.u32.wrap _)])) (ME.own _ _ (o++[(cy+x+y)%2 ^ 32]).length (rowV u32c (o++[(cy+x+y)%2 ^ 32])));rw [hc2,za4,zaE,zz2,zAz,show ((cy+x+y : Nat) : Int)%4294967296=(((cy+x+y)%2 ^ 32 : Nat) : Int) by omega];exact .refl _
   ·intro h2
    have hi2 : b1.length<=o.length:=by have : ¬(o.length : Int)<b1.length:=by simpa using h2
                                       omega
    conv=>whnf
    refine ⟨⟨by omega,by show _*4<=_; omega⟩,?_⟩;conv=>whnf
    refine ⟨by decide,?_⟩;conv=>whnf
    refine ⟨(o++[(cy+x)%2 ^ 32],(cy+x)/2 ^ 32),⟨?_,?_,?_,?_⟩,?_,?_⟩
    ·simp; omega
    ·show (cy+x)/2 ^ 32<=1;omega
    ·intro z hz;rcases zyK.1 hz with hz | hz
     ·exact hob z hz
     ·rw [zyZ.1 hz]; exact zyl _ (by decide)
    ·show lv (2 ^ 32) (o++[(cy+x)%2 ^ 32])+(2 ^ 32) ^ (o++[(cy+x)%2 ^ 32]).length*((cy+x)/2 ^ 32)=lv (2 ^ 32) (a1.take (o++[(cy+x)%2 ^ 32]).length)+lv (2 ^ 32) (b1.take (o++[(cy+x)%2 ^ 32]).length);rw [zz2];exact zfT (y:=0) (by decide) rfl hinv hx (.inr ⟨hi2,rfl⟩)
    ·simp; omega
    ·refine zzi (fun _=>46) ⟨rfl,rfl,rfl,?_,rfl,rfl,?_,trivial⟩ ⟨⟨_,rfl,?_⟩,trivial⟩ rfl (fun R hR=>hR)
     ·show some (SV.o (.v (.int _ (Int.fdiv _ _))))=some (SV.o (.v (.int _ _)));rw [hc1,show min (32 : Int).toNat IntKind.u64.bits=32 from rfl,zAO _ (by decide)];rfl
     ·show some (SV.o (.v (.int _ (IntKind.i64.wrap ((o.length : Int)+1)))))=some (SV.o (.v (.int _ (((o++[(cy+x)%2 ^ 32]).length : Nat) : Int))));rw [wrap_i64 (by omega) (by omega),zz2]; rfl
     ·show MEle (ME.own _ _ (o.length+1) (app (rowV u32c o) [Value.int _ (IntKind.u32.wrap _)])) (ME.own _ _ (o++[(cy+x)%2 ^ 32]).length (rowV u32c (o++[(cy+x)%2 ^ 32])));rw [hc1,za4,zaE,zz2,zAz,show ((cy+x : Nat) : Int)%4294967296=(((cy+x)%2 ^ 32 : Nat) : Int) by omega];exact .refl _
  ·intro h
   have hi : o.length=a1.length:=by have : ¬(o.length : Int)<a1.length:=by simpa using h
                                    omega
   conv=>whnf
   refine ⟨⟨by omega,by show _*4<=_; omega⟩,?_⟩;conv=>whnf
   have hrow : app (rowV u32c o) [Value.int .u32 (IntKind.u32.wrap (cy : Int))]=rowV u32c (o++[cy]):=by
    rw [za4,zaE,zAz,show (cy : Int)%4294967296=(cy : Int) by omega]; rfl
   have hob2 : ∀ x∈o++[cy],x<2 ^ 32:=fun z hz=>by
    rcases zyK.1 hz with hz | hz
    ·exact hob z hz
    ·rw [zyZ.1 hz]; omega
   have hval : lv (2 ^ 32) (o++[cy])=s:=by
    rw [zcv,hinv,hi,zAq,zyJ hlen,hs1]
   have hdig : tr (o++[cy])=digs (2 ^ 32) s:=by rw [zgM (by decide) hob2,hval]
   refine zzY (n':=(tr (o++[cy])).length) 55 (fun A c hc=>?_) rfl ?_ rfl rfl ?_ rfl
   ·have:=zez A c (o++[cy]) (by rw [zz2]; exact hc) (by rw [zz2]; simp; omega);rw [zz2] at this;rw [hrow];exact this
   ·have:=zck (o++[cy]); rw [zz2] at this; exact this
   ·conv=>whnf
    refine ⟨55,rfl,?_⟩;show some (ME.own zax 1 (tr (o++[cy])).length ((app (rowV u32c o) [Value.int .u32 (IntKind.u32.wrap (cy : Int))]).take ((tr (o++[cy])).length*1)))=_;rw [hrow,zbh zay,zc7,hdig]
theorem zwl (v : BitVec 32) : IntKind.u32.wrap (v.toNat : Int)=(v.toNat : Int):=by rw [zAz]; have:=v.isLt; omega
theorem zr9 (v : BitVec 32) : BitVec.ofInt 32 (v.toNat : Int)=v:=by
 apply BitVec.eq_of_toNat_eq;rw [zAA]; have:=v.isLt; omega
theorem zl6 {x : Nat} (hx : x<2 ^ 32) : (BitVec.ofInt 32 (x : Int)).toNat=x:=by rw [zAA]; omega
theorem znh (v : BitVec 64) : IntKind.u64.wrap (v.toNat : Int)=(v.toNat : Int):=by rw [zAQ]; have:=v.isLt; omega
theorem zaU {x : Nat} (hx : x<2 ^ 64) : (BitVec.ofInt 64 (x : Int)).toNat=x:=by rw [zAA]; omega
theorem zut (v : BitVec 32) : v.toNat/2 ^ 31=v.msb.toNat:=by
 rw [BitVec.msb_eq_decide];have:=v.isLt;by_cases h : 2 ^ (32-1)<=v.toNat
 ·rw [zz8 h]; simp at h ⊢; omega
 ·rw [zz9 h]; simp at h ⊢; omega
theorem tup2 {a b c d : Value} (h : a=c) (k : b=d) : Value.tuple #[a,b]=.tuple #[c,d]:=by rw [h,k]
abbrev u32 (x : Nat) : Value:=.int .u32 (x : Int)
theorem zjG (x y b : Nat) (hx : x<2 ^ 32) (hy : y<2 ^ 32) (hb : b<=1) : Fn PP 265 [u32 x,u32 y,u32 b] (.tuple #[u32 ((2 ^ 32+x-y-b)%2 ^ 32),u32 (if x<y+b then 1 else 0)]):=by
 refine zzn zab mixed Tryz.func265 rfl rfl (zxW rfl) ?_;intro w;have hd : IntKind.u32.wrap (IntKind.u32.wrap ((x : Int)-y)-b)=(((2 ^ 32+x-y-b)%2 ^ 32 : Nat) : Int):=by
  rw [zAz,zAz]; omega
 conv=>whnf
 refine ⟨by decide,?_⟩;conv=>whnf
 refine zau ?_;rw [hd];obtain ⟨d,hdd⟩ : ∃ d,d=(2 ^ 32+x-y-b)%2 ^ 32:=⟨_,rfl⟩;rw [<-hdd];have hdl : d<2 ^ 32:=by omega
 refine zyr (fun z=>Value.tuple #[u32 d,.int .u32 z]) ?_;show (IntKind.u32.wrap (BitVec.toNat (w:=32) (BitVec.ofInt 32 (IntKind.u32.wrap (BitVec.toNat (w:=32) (BitVec.ofInt 32 (IntKind.u32.wrap (BitVec.toNat (w:=32) (BitVec.ofInt 32 4294967295 ^^^ BitVec.ofInt 32 (x : Int))))
  &&& BitVec.ofInt 32 (y : Int)))) ||| BitVec.ofInt 32 (IntKind.u32.wrap (BitVec.toNat (w:=32) (BitVec.ofInt 32 (IntKind.u32.wrap (BitVec.toNat (w:=32) (BitVec.ofInt 32 4294967295 ^^^ BitVec.ofInt 32 (IntKind.u32.wrap (BitVec.toNat (w:=32) (BitVec.ofInt 32 (x : Int) ^^^ BitVec.ofInt 32 (y : Int)))))))
  &&& BitVec.ofInt 32 (d : Int))))))).fdiv (2 ^ 31)=_
 simp only [zwl,zr9];rw [zAO _ (by decide)];obtain ⟨v,hv⟩ : ∃ v : BitVec 32,v=((BitVec.ofInt 32 4294967295 ^^^ BitVec.ofInt 32 (x : Int)) &&& BitVec.ofInt 32 (y : Int) ||| (BitVec.ofInt 32 4294967295 ^^^ (BitVec.ofInt 32 (x : Int) ^^^ BitVec.ofInt 32 (y : Int))) &&& BitVec.ofInt 32 (d : Int)):=⟨_,rfl⟩;rw [<-hv];have h5 : (v.toNat : Int)/2 ^ 31=((v.toNat/2 ^ 31 : Nat) : Int):=rfl;rw [h5,zut,hv];have hm : (BitVec.ofInt 32 4294967295).msb=true:=by decide
 have hmsb : ∀ z : Nat,z<2 ^ 32->(BitVec.ofInt 32 (z : Int)).msb=decide (2 ^ 31<=z):=fun z hz=>by rw [BitVec.msb_eq_decide,zl6 hz]
 simp only [BitVec.msb_or,BitVec.msb_and,BitVec.msb_xor,hm,hmsb x hx,hmsb y hy,hmsb d hdl];by_cases h1 : 2 ^ 31<=x <;> by_cases h2 : 2 ^ 31<=y <;> by_cases h3 : 2 ^ 31<=d <;> by_cases h4 : x<y+b <;> simp only [h1,h2,h3,h4,decide_true,decide_false,if_true,if_false] <;> first | rfl | (exfalso; omega)
theorem zuD (hi lo y : Nat) (h1 : hi<y) (h2 : lo<2 ^ 32) (h3 : y<2 ^ 32) : Fn PP 278 [u32 hi,u32 lo,u32 y] (.tuple #[u32 ((hi*2 ^ 32+lo)/y),u32 ((hi*2 ^ 32+lo)%y)]):=by
 refine zzn zab mixed Tryz.func278 rfl rfl (zxW rfl) ?_;intro w;conv=>whnf
 refine zag (by simp; omega) ?_;conv=>whnf
 refine zac (by simp; omega) ?_;conv=>whnf
 refine ⟨by decide,?_⟩;conv=>whnf
 refine zak.qk ?_;conv=>whnf
 have hor : IntKind.u64.wrap (BitVec.toNat (w:=64) (BitVec.ofInt 64 (IntKind.u64.wrap (IntKind.u64.wrap (hi : Int)*2 ^ min (32 : Int).toNat IntKind.u64.bits)) ||| BitVec.ofInt 64 (IntKind.u64.wrap (lo : Int))) : Int)=((hi*2 ^ 32+lo : Nat) : Int):=by
  have e1 : IntKind.u64.wrap (IntKind.u64.wrap (hi : Int)*2 ^ min (32 : Int).toNat IntKind.u64.bits)=((hi*2 ^ 32 : Nat) : Int):=by
   rw [show min (32 : Int).toNat IntKind.u64.bits=32 from rfl,zAQ,zAQ]; omega
  have e2 : IntKind.u64.wrap (lo : Int)=(lo : Int):=by rw [zAQ]; omega
  rw [e1,e2,znh,zAB,zaU (by omega),zaU (by omega),zzG,<-zAC h2]
 have hy64 : IntKind.u64.wrap (y : Int)=(y : Int):=by rw [zAQ]; omega
 have hy0 : 0<y:=by omega
 have hq : (hi*2 ^ 32+lo)/y<2 ^ 32:=by
  apply zzK;have : (hi+1)*2 ^ 32<=y*2 ^ 32:=zyL _ h1;omega
 have hr : (hi*2 ^ 32+lo)%y<y:=zyl _ hy0;refine ⟨by rw [hy64]; omega,?_⟩;conv=>whnf
 refine ⟨by rw [hy64]; omega,?_⟩;conv=>whnf
 refine zau ?_;refine tup2 (zyr (Value.int .u32) ?_) (zyr (Value.int .u32) ?_)
 ·show IntKind.u32.wrap (IntKind.u64.wrap (Int.tdiv (IntKind.u64.wrap (BitVec.toNat (w:=64) (BitVec.ofInt 64 _ ||| BitVec.ofInt 64 _) : Int)) _))=_;rw [hor,hy64,zAD (by omega)];have e3 : ((hi*2 ^ 32+lo : Nat) : Int)/(y : Int)=(((hi*2 ^ 32+lo)/y : Nat) : Int):=rfl;rw [e3];generalize (hi*2 ^ 32+lo)/y=q at hq ⊢;rw [zAQ,zAz]; omega
 ·show IntKind.u32.wrap (Int.tmod (IntKind.u64.wrap (BitVec.toNat (w:=64) (BitVec.ofInt 64 _ ||| BitVec.ofInt 64 _) : Int)) _)=_;rw [hor,hy64,zAF (by omega)];have e3 : ((hi*2 ^ 32+lo : Nat) : Int)%(y : Int)=(((hi*2 ^ 32+lo)%y : Nat) : Int):=rfl;rw [e3];generalize (hi*2 ^ 32+lo)%y=q at hr ⊢;rw [zAz]; omega
theorem zuX (x y c : Nat) (hx : x<2 ^ 32) (hy : y<2 ^ 32) (hc : c<=1) : Fn PP 279 [u32 x,u32 y,u32 c] (.tuple #[u32 ((x+y+c)%2 ^ 32),u32 ((x+y+c)/2 ^ 32)]):=by
 refine zzn zab mixed Tryz.func279 rfl rfl (zxW rfl) ?_;intro w;conv=>whnf
 refine ⟨by decide,?_⟩;conv=>whnf
 refine zau ?_;have hs : IntKind.u64.wrap (IntKind.u64.wrap (IntKind.u64.wrap (x : Int)+IntKind.u64.wrap (y : Int))+IntKind.u64.wrap (c : Int))=((x+y+c : Nat) : Int):=by
  simp only [zAQ]; omega
 refine tup2 (zyr (Value.int .u32) ?_) (zyr (Value.int .u32) ?_)
 ·show IntKind.u32.wrap (IntKind.u64.wrap (IntKind.u64.wrap (IntKind.u64.wrap (x : Int)+IntKind.u64.wrap (y : Int))+IntKind.u64.wrap (c : Int)))=_;rw [hs,zAz]; omega
 ·show IntKind.u32.wrap (Int.fdiv (IntKind.u64.wrap (IntKind.u64.wrap (IntKind.u64.wrap (x : Int)+IntKind.u64.wrap (y : Int))+IntKind.u64.wrap (c : Int))) (2 ^ 32))=_;rw [hs,zAz,zAO _ (by decide)]; omega
abbrev zAR:=@List.set_append_right
theorem ztF (o : List Nat) (d k : Nat) : (o++List.replicate (k+1) 0).set o.length d=(o++[d])++List.replicate k 0:=by
 rw [zzI,zAR _ _ (zxr _),zAI];simp
theorem zmz (o : List Nat) (d k : Nat) {n i : Nat} (hn : n=o.length+(k+1)) (hi : i=o.length) : putN i [Value.int .u32 (d : Int)] (rowV u32c (o++List.replicate (k+1) 0))=rowV u32c ((o++[d])++List.replicate k 0):=by
 subst hi;have:=zcc (f:=u32c) zay (k:=o.length) (l:=o++List.replicate (k+1) 0) d (by simp);rw [zyR] at this;rw [<-ztF];exact this
theorem znX {B i bo x y : Nat} {a b o : List Nat} (hB : 0<B) (hyB : y<B) (hxB : x<B) (hbo : bo<=1) (ho : o.length=i) (hv : lv B (a.take i)+B ^ i*bo=lv B o+lv B (b.take i)) (hx : a[i]?=some x) (hy : b[i]?=some y\/(b.length<=i/\y=0)) :
  lv B (a.take (i+1))+B ^ (i+1)*(if x<y+bo then 1 else 0)=lv B (o++[(B+x-y-bo)%B])+lv B (b.take (i+1)):=by
 have h1:=za5 (B:=B) hx;have h2 : lv B (b.take (i+1))=lv B (b.take i)+B ^ i*y:=by
  rcases hy with h | ⟨h,rfl⟩
  ·exact za5 h
  ·rw [zlb h]; omega
 rw [h1,h2,zcv,ho,zzD,zzF];have h3 : x+B*(if x<y+bo then 1 else 0)=(B+x-y-bo)%B+y+bo:=by
  split
  ·rw [zyR,zye (by omega)]; omega
  ·rw [zzM,show B+x-y-bo=(x-y-bo)+B by omega,Nat.add_mod_right,zye (by omega)]; omega
 have h4 : B ^ i*x+B ^ i*(B*(if x<y+bo then 1 else 0))=B ^ i*((B+x-y-bo)%B)+B ^ i*y+B ^ i*bo:=by
  rw [<-zzE,h3,zzE,zzE]
 omega

theorem zqv (A B : Option Addr) (c d : Nat) (p q : Nat) (hqp : q<=p) (hl : (digs (2 ^ 32) p).length<=100000000000) :
  FnM PP 230 [.slice A (digs (2 ^ 32) p).length c,.slice B (digs (2 ^ 32) q).length d] (facts [zai A (u32V (digs (2 ^ 32) p)),zai B (u32V (digs (2 ^ 32) q))]) (zbD zax 1 (digs (2 ^ 32) (p-q)).length (u32V (digs (2 ^ 32) (p-q)))):=by
 obtain ⟨a,ea⟩ : ∃ a,a=digs (2 ^ 32) p:=⟨_,rfl⟩;obtain ⟨b,eb⟩ : ∃ b,b=digs (2 ^ 32) q:=⟨_,rfl⟩;have hlen : b.length<=a.length:=by
  rw [ea,eb];exact zbc (by decide) (zAc hqp (zbF (by decide)))
 have ha : ∀ x∈a,x<2 ^ 32:=by rw [ea]; exact zb1 (by decide) p
 have hb : ∀ x∈b,x<2 ^ 32:=by rw [eb]; exact zb1 (by decide) q
 have hva : lv (2 ^ 32) a=p:=by rw [ea,zbN (by decide)]
 have hvb : lv (2 ^ 32) b=q:=by rw [eb,zbN (by decide)]
 rw [<-ea,<-eb];rw [<-ea] at hl;refine zzp zab mixed Tryz.func230 rfl rfl (zxW rfl) (by simp [zzk]) ?_;intro w hw;conv=>whnf
 refine ⟨⟨by omega,by omega,by show (4 : Int)*_<=_; omega,by omega⟩,?_⟩;conv=>whnf
 refine zal (ι:=List Nat×Nat) (fun ⟨o,bo⟩=>⟨[(0,.o (.v (.slice A a.length c))),(1,.o (.v (.slice B b.length d))),(5,.o (.w 12)),(6,.o (.v (u32 bo))),(13,.o (.v (.slice A a.length c))),(14,.o (.v (.int .i64 a.length))),(15,.o (.v (.int .i64 o.length)))],[(12,.own zax 1 a.length (u32V (o++List.replicate (a.length-o.length) 0)))],[zai A (u32V a),zai B (u32V b)]⟩)
  (fun ⟨o,bo⟩=>o.length<=a.length/\bo<=1/\(∀ x∈o,x<2 ^ 32)/\lv (2 ^ 32) (a.take o.length)+(2 ^ 32) ^ o.length*bo=lv (2 ^ 32) o+lv (2 ^ 32) (b.take o.length)) (fun ⟨o,bo⟩=>a.length-o.length) ([],0)
  ⟨zyD _,zyD _,(fun _ h=>by cases h),rfl⟩ (zzj ⟨rfl,rfl,rfl,rfl,rfl,rfl,rfl,trivial⟩ ⟨⟨_,rfl,?_⟩,trivial⟩ (fun R hR=>hR)) ?_
 ·simp only [ME.ren,zzS,zzJ,zAK,zza];simp only [u32V,zb4];exact .refl _
 rintro ⟨o,bo⟩ ⟨ho,hbo,hob,hinv⟩;conv=>whnf
 refine zaj ?_ ?_
 ·intro h
  have hi : o.length<a.length:=by have : (o.length : Int)<a.length:=by simpa using h
                                  omega
  have hA : A.isSome=true:=zam (zbz hw).1 (by rw [zav]; omega);conv=>whnf
  refine ⟨⟨by omega,by omega,hA⟩,?_⟩;conv=>whnf
  refine zzR u32c zay (zxA ..) rfl (by rw [zzS]; exact hi) (by decide) (fun _=>rfl) ?_;rw [zzS];intro x hx;have hxb : x<2 ^ 32:=ha x (zyq hx);conv=>whnf
  have key : ∀ y,y<2 ^ 32->(b[o.length]?=some y\/(b.length<=o.length/\y=0))->∃ j : List Nat×Nat,(j.1.length<=a.length/\j.2<=1/\(∀ x∈j.1,x<2 ^ 32)/\lv (2 ^ 32) (a.take j.1.length)+(2 ^ 32) ^ j.1.length*j.2=lv (2 ^ 32) j.1+lv (2 ^ 32) (b.take j.1.length)) /\
    j=(o++[(2 ^ 32+x-y-bo)%2 ^ 32],if x<y+bo then 1 else 0):=by
   intro y hyb hy;refine ⟨_,⟨by simp; omega,?_,?_,?_⟩,rfl⟩
   ·show (if x<y+bo then 1 else 0)<=1;split <;> omega
   ·intro z hz;rcases zyK.1 hz with hz | hz
    ·exact hob z hz
    ·rw [zyZ.1 hz]; exact zyl _ (by decide)
   ·show lv (2 ^ 32) (a.take (o++[(2 ^ 32+x-y-bo)%2 ^ 32]).length)+(2 ^ 32) ^ (o++[(2 ^ 32+x-y-bo)%2 ^ 32]).length*(if x<y+bo then 1 else 0)=lv (2 ^ 32) (o++[(2 ^ 32+x-y-bo)%2 ^ 32])+lv (2 ^ 32) (b.take (o++[(2 ^ 32+x-y-bo)%2 ^ 32]).length);rw [zz2];exact znX (by decide) hyb hxb hbo rfl hinv hx hy
  refine zaj ?_ ?_
  ·intro h2
   have hi2 : o.length<b.length:=by have : (o.length : Int)<b.length:=by simpa using h2
                                    omega
   have hB : B.isSome=true:=zam (zbz hw).2 (by rw [zav]; omega);conv=>whnf
   refine ⟨⟨by omega,by omega,hB⟩,?_⟩;conv=>whnf
   refine zzR u32c zay (zxB _ (zyZ.2 rfl)) rfl (by rw [zzS]; exact hi2) (by decide) (fun _=>rfl) ?_;rw [zzS];intro y hy;have hyb : y<2 ^ 32:=hb y (zyq hy);conv=>whnf
   refine zzt (zjG x y bo hxb hyb hbo) rfl ?_;conv=>whnf
   refine ⟨⟨by omega,by omega⟩,?_⟩;conv=>whnf
   refine ⟨⟨by rw [zav]; simp; show _*1+1<=_; omega,by decide⟩,?_⟩;conv=>whnf
   obtain ⟨j,hj,ej⟩:=key y hyb (.inl hy);subst ej;refine ⟨_,hj,by simp; omega,?_⟩;refine zzj ⟨rfl,rfl,rfl,rfl,rfl,rfl,?_,trivial⟩ ⟨⟨_,rfl,?_⟩,trivial⟩ (fun R hR=>hR)
   ·show some (SV.o (.v (.int _ (IntKind.i64.wrap ((o.length : Int)+1)))))=some (SV.o (.v (.int _ (((o++[_]).length : Nat) : Int))));rw [wrap_i64 (by omega) (by omega),zz2]; rfl
   ·show MEle (ME.own _ _ _ (putN ((o.length : Int).toNat*1) [Value.int _ _] (rowV u32c (o++List.replicate (a.length-o.length) 0)))) (ME.own _ _ _ (rowV u32c ((o++[(2 ^ 32+x-y-bo)%2 ^ 32])++List.replicate (a.length-(o++[_]).length) 0)));rw [zz2,show a.length-o.length=(a.length-(o.length+1))+1 by omega,zmz o _ _ rfl (by simp)];exact .refl _
  ·intro h2
   have hi2 : b.length<=o.length:=by have : ¬(o.length : Int)<b.length:=by simpa using h2
                                     omega
   conv=>whnf
   refine zzt (zjG x 0 bo hxb (by decide) hbo) rfl ?_;conv=>whnf
   refine ⟨⟨by omega,by omega⟩,?_⟩;conv=>whnf
   refine ⟨⟨by rw [zav]; simp; show _*1+1<=_; omega,by decide⟩,?_⟩;conv=>whnf
   obtain ⟨j,hj,ej⟩:=key 0 (by decide) (.inr ⟨hi2,rfl⟩);subst ej;refine ⟨_,hj,by simp; omega,?_⟩;refine zzj ⟨rfl,rfl,rfl,rfl,rfl,rfl,?_,trivial⟩ ⟨⟨_,rfl,?_⟩,trivial⟩ (fun R hR=>hR)
   ·show some (SV.o (.v (.int _ (IntKind.i64.wrap ((o.length : Int)+1)))))=some (SV.o (.v (.int _ (((o++[_]).length : Nat) : Int))));rw [wrap_i64 (by omega) (by omega),zz2]; rfl
   ·show MEle (ME.own _ _ _ (putN ((o.length : Int).toNat*1) [Value.int _ _] (rowV u32c (o++List.replicate (a.length-o.length) 0)))) (ME.own _ _ _ (rowV u32c ((o++[(2 ^ 32+x-0-bo)%2 ^ 32])++List.replicate (a.length-(o++[_]).length) 0)));rw [zz2,show a.length-o.length=(a.length-(o.length+1))+1 by omega,zmz o _ _ rfl (by simp)];exact .refl _
 ·intro h
  have hi : o.length=a.length:=by have : ¬(o.length : Int)<a.length:=by simpa using h
                                  omega
  have hval : lv (2 ^ 32) o=p-q:=by
   rw [hi,zAq,zyJ hlen,hva,hvb] at hinv;have h1:=zfQ (by decide) o hob;rw [hi] at h1;rcases zyf bo with h2 | h2
   ·subst h2; omega
   ·have : bo=1:=by omega
    subst this; omega
  have hdig : tr o=digs (2 ^ 32) (p-q):=by rw [zgM (by decide) hob,hval]
  conv=>whnf
  have hz : o++List.replicate (a.length-o.length) 0=o:=by rw [hi,zAI]; simp
  refine zzY (n:=a.length) (xs:=u32V (o++List.replicate (a.length-o.length) 0)) (n':=(tr o).length) 40 (fun A c hc=>?_) rfl (by rw [<-hi]; exact zck o) rfl rfl ?_ rfl
  ·rw [hz,<-hi]; exact zez A c o (by omega) (by omega)
  ·conv=>whnf
   refine ⟨40,rfl,?_⟩;show some (ME.own zax 1 (tr o).length ((rowV u32c (o++List.replicate (a.length-o.length) 0)).take ((tr o).length*1)))=_;rw [hz,zbh zay,zc7,hdig]
abbrev zAS:=@Nat.mul_le_mul
theorem zds (P R : List Nat) (z d : Nat) {i : Nat} (hi : i=P.length) : putN i [Value.int .u32 (d : Int)] (rowV u32c (P++z::R))=rowV u32c ((P++[d])++R):=by
 subst hi;have:=zcc (f:=u32c) zay (k:=P.length) (l:=P++z::R) d (by simp);rw [zyR] at this;have e : (P++z::R).set P.length d=(P++[d])++R:=by
  rw [zAR _ _ (zxr _),zAI]; simp
 rw [<-e];exact this
theorem znY {B i k cy x y z : Nat} {o P b : List Nat} (hB : 0<B) (hP : P.length=i+k) (hv : lv B P+B ^ (i+k)*cy=lv B (o.take (i+k))+B ^ i*(x*lv B (b.take k))) (hz : o[i+k]?=some z) (hy : b[k]?=some y) :
  lv B (P++[(cy+(x*y+z))%B])+B ^ (i+(k+1))*((cy+(x*y+z))/B)=lv B (o.take (i+(k+1)))+B ^ i*(x*lv B (b.take (k+1))):=by
 have h1:=za5 (B:=B) hz;have h2:=za5 (B:=B) hy;rw [show i+(k+1)=i+k+1 by omega,h1,h2,zcv,hP,zzD,zzF];have h3 : B ^ (i+k)*((cy+(x*y+z))%B)+B ^ (i+k)*(B*((cy+(x*y+z))/B))=B ^ (i+k)*(cy+(x*y+z)):=by
  rw [<-zzE,zzy]
 have h4 : B ^ i*(x*(lv B (b.take k)+B ^ k*y))=B ^ i*(x*lv B (b.take k))+B ^ (i+k)*(x*y):=by
  rw [zzE,zzE,zAg]
  congr 1
  rw [zzF (B ^ i)]
  congr 1
  exact zAx x (B ^ k) y
 rw [zzE,zzE] at h3;rw [h4];omega

theorem zoX (A D : Option Addr) (c d : Nat) (a b : List Nat) (ha : ∀ x∈a,x<2 ^ 32) (hb : ∀ x∈b,x<2 ^ 32) (hla : a.length<=100000000000) (hlb : b.length<=100000000000) :
  FnM PP 192 [.slice A a.length c,.slice D b.length d] (facts [zai A (u32V a),zai D (u32V b)]) (zbD zax 1 (digs (2 ^ 32) (lv (2 ^ 32) a*lv (2 ^ 32) b)).length (u32V (digs (2 ^ 32) (lv (2 ^ 32) a*lv (2 ^ 32) b)))):=by
 refine zzp zab mixed Tryz.func192 rfl rfl (zxW rfl) (by simp [zzk]) ?_;intro w hw;have hcap : IntKind.i64.wrap ((a.length : Int)+(b.length : Int))=((a.length+b.length : Nat) : Int):=by rw [wrap_i64 (by omega) (by omega)]; omega
 conv=>whnf
 refine ⟨by rw [hcap]; exact ⟨by omega,by omega,by show (4 : Int)*_<=_; omega,by omega⟩,?_⟩;conv=>whnf
 refine zal (ι:=Nat×List Nat) (fun ⟨i,o⟩=>⟨[(0,.o (.v (.slice A a.length c))),(1,.o (.v (.slice D b.length d))),(5,.o (.w 16)),(17,.o (.v (.slice A a.length c))),(18,.o (.v (.int .i64 a.length))),(19,.o (.v (.int .i64 i)))],[(16,.own zax 1 (a.length+b.length) (u32V (o++List.replicate (a.length-i) 0)))],[zai A (u32V a),zai D (u32V b)]⟩)
  (fun ⟨i,o⟩=>i<=a.length/\o.length=i+b.length/\(∀ x∈o,x<2 ^ 32)/\lv (2 ^ 32) o=lv (2 ^ 32) (a.take i)*lv (2 ^ 32) b) (fun ⟨i,o⟩=>a.length-i) (0,List.replicate b.length 0)
  ⟨zyD _,by simp,(fun x h=>by rw [(List.mem_replicate.1 h).2]; decide),by simp [zjH,lv]⟩ (zzj ⟨rfl,rfl,rfl,rfl,rfl,rfl,trivial⟩ ⟨⟨_,rfl,?_⟩,trivial⟩ (fun R hR=>hR)) ?_
 ·rw [hcap];simp only [ME.ren,zzS,zza,List.replicate_append_replicate];rw [zyc b.length];simp only [u32V,zb4];exact .refl _
 rintro ⟨i,o⟩ ⟨hi,ho,hob,hov⟩;conv=>whnf
 refine zaj ?_ ?_
 ·intro h
  have hi' : i<a.length:=by have : (i : Int)<a.length:=by simpa using h
                            omega
  have hA : A.isSome=true:=zam (zbz hw).1 (by rw [zav]; omega);conv=>whnf
  refine ⟨⟨by omega,by omega,hA⟩,?_⟩;conv=>whnf
  refine zzR u32c zay (zxA ..) rfl (by rw [zzS]; exact hi') (by decide) (fun _=>rfl) ?_;rw [zzS];intro x hx;have hxb : x<2 ^ 32:=ha x (zyq hx);conv=>whnf
  refine zal (ι:=Nat×List Nat×Nat) (fun ⟨k,P,cy⟩=>⟨[(0,.o (.v (.slice A a.length c))),(1,.o (.v (.slice D b.length d))),(5,.o (.w 16)),(17,.o (.v (.slice A a.length c))),(18,.o (.v (.int .i64 a.length))),(19,.o (.v (.int .i64 i))),
    (6,.o (.v (.int .i64 i))),(7,.o (.v (u32 x))),(8,.o (.v (.int .u64 cy))),(24,.o (.v (.slice D b.length d))),(25,.o (.v (.int .i64 b.length))),(26,.o (.v (.int .i64 k)))],[(16,.own zax 1 (a.length+b.length) (u32V (P++(o.drop (i+k)++List.replicate (a.length-i) 0))))],[zai A (u32V a),zai D (u32V b)]⟩)
   (fun ⟨k,P,cy⟩=>k<=b.length/\P.length=i+k/\cy<2 ^ 32/\(∀ x∈P,x<2 ^ 32)/\lv (2 ^ 32) P+(2 ^ 32) ^ (i+k)*cy=lv (2 ^ 32) (o.take (i+k))+(2 ^ 32) ^ i*(x*lv (2 ^ 32) (b.take k))) (fun ⟨k,P,cy⟩=>b.length-k) (0,o.take i,0)
   ⟨zyD _,by rw [zyI]; omega,by decide,(fun x h=>hob x (zxP h)),by simp [lv]⟩ (zzj ⟨rfl,rfl,rfl,rfl,rfl,rfl,rfl,rfl,rfl,rfl,rfl,rfl,trivial⟩ ⟨⟨_,rfl,?_⟩,trivial⟩ (fun R hR=>hR)) ?_
  ·simp only [ME.ren,zxL];rw [<-zyF,zz0];exact .refl _
  rintro ⟨k,P,cy⟩ ⟨hk,hP,hcy,hPb,hinv⟩;have hik : IntKind.i64.wrap ((i : Int)+(k : Int))=((i+k : Nat) : Int):=by rw [wrap_i64 (by omega) (by omega)]; omega
  conv=>whnf
  refine zaj ?_ ?_
  ·intro h2
   have hk' : k<b.length:=by have : (k : Int)<b.length:=by simpa using h2
                             omega
   have hD : D.isSome=true:=zam (zbz hw).2 (by rw [zav]; omega);conv=>whnf
   refine ⟨⟨by omega,by omega,hD⟩,?_⟩;conv=>whnf
   refine zzR u32c zay (zxB _ (zyZ.2 rfl)) rfl (by rw [zzS]; exact hk') (by decide) (fun _=>rfl) ?_;rw [zzS];intro y hy;have hyb : y<2 ^ 32:=hb y (zyq hy);have hoz : o[i+k]?=some o[i+k]:=zyy (by omega);obtain ⟨z,hz⟩ : ∃ z,z=o[i+k]:=⟨_,rfl⟩;rw [<-hz] at hoz;have hzb : z<2 ^ 32:=hob z (zyq hoz);have hdrop : o.drop (i+k)=z::o.drop (i+(k+1)):=by rw [zzd (show i+k<o.length by omega),hz]; rfl
   conv=>whnf
   refine ⟨⟨by rw [hik]; omega,by rw [hik]; omega⟩,?_⟩;conv=>whnf
   refine zzT u32c zay (k:=i+k) (by rw [hik]; rfl) (by simp; omega) (by decide) (fun _=>rfl) ?_;intro z' hz';have hzz : z'=z:=by
    rw [zyg (by omega),hP,zAI,hdrop] at hz';exact (zz1 hz').symm
   subst hzz;have hxy : x*y<=(2 ^ 32-1)*(2 ^ 32-1):=zAS (by omega) (by omega);have hmul : IntKind.u64.wrap (IntKind.u64.wrap (x : Int)*IntKind.u64.wrap (y : Int))=((x*y : Nat) : Int):=by
    have e1 : IntKind.u64.wrap (x : Int)=x:=by rw [zAQ]; omega
    have e2 : IntKind.u64.wrap (y : Int)=y:=by rw [zAQ]; omega
    rw [e1,e2,<-zAG,zAQ]; omega
   have ht : IntKind.u64.wrap ((cy : Int)+IntKind.u64.wrap (IntKind.u64.wrap (IntKind.u64.wrap (x : Int)*IntKind.u64.wrap (y : Int))+IntKind.u64.wrap (z' : Int)))=((cy+(x*y+z') : Nat) : Int):=by
    rw [hmul];generalize x*y=xy at hxy ⊢;simp only [zAQ]; omega
   conv=>whnf
   refine ⟨⟨by rw [hik]; omega,by rw [hik]; omega⟩,?_⟩;conv=>whnf
   refine ⟨⟨by rw [hik,zav]; simp; show (i+k)*1+1<=_; omega,by decide⟩,?_⟩;conv=>whnf
   refine ⟨by decide,?_⟩;conv=>whnf
   obtain ⟨t,htt⟩ : ∃ t,t=cy+(x*y+z'):=⟨_,rfl⟩;rw [<-htt] at ht;have htb : t<2 ^ 64:=by rw [htt]; generalize x*y=xy at hxy ⊢; omega
   refine ⟨(k+1,P++[t%2 ^ 32],t/2 ^ 32),⟨by omega,by simp; omega,by show t/2 ^ 32<2 ^ 32; omega,?_,?_⟩,by simp; omega,?_⟩
   ·intro v hv;rcases zyK.1 hv with hv | hv
    ·exact hPb v hv
    ·rw [zyZ.1 hv]; exact zyl _ (by decide)
   ·rw [htt]; exact znY (by decide) hP hinv hoz hy
   ·refine zzj ⟨rfl,rfl,rfl,rfl,rfl,rfl,rfl,rfl,?_,rfl,rfl,?_,trivial⟩ ⟨⟨_,rfl,?_⟩,trivial⟩ (fun R hR=>hR)
    ·show some (SV.o (.v (.int _ (Int.fdiv (IntKind.u64.wrap ((cy : Int)+IntKind.u64.wrap (IntKind.u64.wrap (IntKind.u64.wrap (x : Int)*IntKind.u64.wrap (y : Int))+IntKind.u64.wrap (z' : Int)))) (2 ^ 32)))))=some (SV.o (.v (.int _ ((t/2 ^ 32 : Nat) : Int))));rw [ht,zAO _ (by decide)]; rfl
    ·show some (SV.o (.v (.int _ (IntKind.i64.wrap ((k : Int)+1)))))=some (SV.o (.v (.int _ ((k+1 : Nat) : Int))));rw [wrap_i64 (by omega) (by omega)]; rfl
    ·show MEle (ME.own _ _ _ (putN ((IntKind.i64.wrap ((i : Int)+(k : Int))).toNat*1) [Value.int .u32 (IntKind.u32.wrap (IntKind.u64.wrap ((cy : Int)+IntKind.u64.wrap (IntKind.u64.wrap (IntKind.u64.wrap (x : Int)*IntKind.u64.wrap (y : Int))+IntKind.u64.wrap (z' : Int)))))] (rowV u32c (P++(o.drop (i+k)++List.replicate (a.length-i) 0)))))
      (ME.own _ _ _ (rowV u32c ((P++[t%2 ^ 32])++(o.drop (i+(k+1))++List.replicate (a.length-i) 0))))
     rw [ht,hik,hdrop,zyw,zAz,show ((t : Nat) : Int)%4294967296=((t%2 ^ 32 : Nat) : Int) by omega,zds P _ _ _ (by rw [hP,zzS,zyR])];exact .refl _
  ·intro h2
   have hk' : k=b.length:=by have : ¬(k : Int)<b.length:=by simpa using h2
                             omega
   have him : IntKind.i64.wrap ((i : Int)+(b.length : Int))=((i+b.length : Nat) : Int):=by rw [wrap_i64 (by omega) (by omega)]; omega
   have hd0 : o.drop (i+k)=[]:=by rw [hk',<-ho,zAE]
   have hrep : List.replicate (a.length-i) 0=0::List.replicate (a.length-(i+1)) 0:=by
    rw [<-zzI]; congr 1; omega
   conv=>whnf
   refine ⟨⟨by rw [him]; omega,by rw [him]; omega⟩,?_⟩;conv=>whnf
   refine ⟨⟨by rw [him,zav,hd0]; simp; show (i+b.length)*1+1<=_; omega,by decide⟩,?_⟩;conv=>whnf
   refine ⟨(i+1,P++[cy]),⟨by omega,by simp; omega,?_,?_⟩,by simp; omega,?_⟩
   ·intro v hv;rcases zyK.1 hv with hv | hv
    ·exact hPb v hv
    ·rw [zyZ.1 hv]; exact hcy
   ·rw [zcv,hP,hinv,hk',<-ho,zAq,zAq,hov,za5 hx,zzP]
    congr 1
    rw [zzF]
   ·refine zzj ⟨rfl,rfl,rfl,rfl,rfl,?_,trivial⟩ ⟨⟨_,rfl,?_⟩,trivial⟩ (fun R hR=>hR)
    ·show some (SV.o (.v (.int _ (IntKind.i64.wrap ((i : Int)+1)))))=some (SV.o (.v (.int _ ((i+1 : Nat) : Int))));rw [wrap_i64 (by omega) (by omega)]; rfl
    ·show MEle (ME.own _ _ _ (putN ((IntKind.i64.wrap ((i : Int)+(b.length : Int))).toNat*1) [Value.int .u32 (IntKind.u32.wrap (cy : Int))] (rowV u32c (P++(o.drop (i+k)++List.replicate (a.length-i) 0)))))
      (ME.own _ _ _ (rowV u32c ((P++[cy])++List.replicate (a.length-(i+1)) 0)))
     rw [him,hd0,hrep,zzJ,zAz,show (cy : Int)%4294967296=(cy : Int) by omega,zds P _ _ _ (by rw [hP,hk',zzS,zyR])];exact .refl _
 ·intro h
  have hi' : i=a.length:=by have : ¬(i : Int)<a.length:=by simpa using h
                            omega
  have hz : o++List.replicate (a.length-i) 0=o:=by rw [hi',zAI]; simp
  have hdig : tr o=digs (2 ^ 32) (lv (2 ^ 32) a*lv (2 ^ 32) b):=by rw [zgM (by decide) hob,hov,hi',zAq]
  have hol : a.length+b.length=o.length:=by rw [ho,hi']
  conv=>whnf
  refine zzY (n:=a.length+b.length) (xs:=u32V (o++List.replicate (a.length-i) 0)) (n':=(tr o).length) 66 (fun A c hc=>?_) rfl (by rw [hol]; exact zck o) rfl rfl ?_ rfl
  ·rw [hz,hol]; exact zez A c o (by omega) (by omega)
  ·conv=>whnf
   refine ⟨66,rfl,?_⟩;show some (ME.own zax 1 (tr o).length ((rowV u32c (o++List.replicate (a.length-i) 0)).take ((tr o).length*1)))=_;rw [hz,zbh zay,zc7,hdig]
abbrev zAU:=@List.singleton_append
abbrev zAT:=@List.replicate_succ'
theorem zqe {v d q r : Nat} (hd : r<d) (h : v=d*q+r) : v/d=q/\v%d=r:=by
 subst h;rw [Nat.mul_add_div (by omega),zzB hd,Nat.mul_add_mod,zye hd];exact ⟨by omega,rfl⟩
theorem zui (A : Option Addr) (c : Nat) (a : List Nat) (d : Nat) (ha : ∀ x∈a,x<2 ^ 32) (hd : 0<d) (hd2 : d<2 ^ 32) (hla : a.length<=100000000000) :
  FnM PP 266 [.slice A a.length c,u32 d] (facts [zai A (u32V a)]) (zcl zax 1 (digs (2 ^ 32) (lv (2 ^ 32) a/d)).length (u32V (digs (2 ^ 32) (lv (2 ^ 32) a/d))) (u32 (lv (2 ^ 32) a%d))):=by
 refine FnT.of zab mixed Tryz.func266 rfl rfl (zxW rfl) (by simp [zzk]) ?_;intro w hw;have hwr : IntKind.i64.wrap ((a.length : Int)-1)=(a.length : Int)-1:=wrap_i64 (by omega) (by omega);conv=>whnf
 refine ⟨⟨by omega,by omega,by show (4 : Int)*_<=_; omega,by omega⟩,?_⟩;conv=>whnf
 refine zal (ι:=Nat×List Nat×Nat) (fun ⟨k,q,r⟩=>⟨[(0,.o (.v (.slice A a.length c))),(1,.o (.v (u32 d))),(6,.o (.w 11)),(7,.o (.v (u32 r))),(8,.o (.v (.int .i64 ((k : Int)-1))))],[(11,.own zax 1 a.length (u32V (List.replicate k 0++q)))],[zai A (u32V a)]⟩)
  (fun ⟨k,q,r⟩=>k<=a.length/\q.length=a.length-k/\r<d/\(∀ x∈q,x<2 ^ 32)/\lv (2 ^ 32) (a.drop k)=d*lv (2 ^ 32) q+r) (fun ⟨k,q,r⟩=>k) (a.length,[],0)
  ⟨zxr _,by simp,hd,(fun _ h=>by cases h),by simp [lv]⟩ (zzj ⟨rfl,rfl,rfl,rfl,zyr (fun z=>some (SV.o (.v (.int .i64 z)))) hwr,trivial⟩ ⟨⟨_,rfl,?_⟩,trivial⟩ (fun R hR=>hR)) ?_
 ·simp only [ME.ren,zzS,zyP];simp only [u32V,zb4];exact .refl _
 rintro ⟨k,q,r⟩ ⟨hk,hq,hr,hqb,hinv⟩;conv=>whnf
 refine zaj ?_ ?_
 ·intro h
  have hk0 : 0<k:=by have : (0 : Int)<=(k : Int)-1:=by simpa using h
                     omega
  have hA : A.isSome=true:=zam (zaK hw) (by rw [zav]; omega);have hkn : ((k : Int)-1).toNat=k-1:=by omega
  conv=>whnf
  refine ⟨⟨by omega,by omega,hA⟩,?_⟩;conv=>whnf
  refine zzR u32c zay (zyZ.2 rfl) rfl (by omega) (by decide) (fun _=>rfl) ?_;rw [hkn];intro x hx;have hxb : x<2 ^ 32:=ha x (zyq hx);conv=>whnf
  refine zzt (zuD r x d hr hxb hd2) rfl ?_;conv=>whnf
  refine ⟨⟨by omega,by omega⟩,?_⟩;conv=>whnf
  refine ⟨⟨by rw [hkn,zav]; simp; show (k-1)*1+1<=_; omega,by decide⟩,?_⟩;conv=>whnf
  have hq2 : (r*2 ^ 32+x)/d<2 ^ 32:=by
   apply zzK;have : (r+1)*2 ^ 32<=d*2 ^ 32:=zyL _ hr;omega
  have hdrop : a.drop (k-1)=x::a.drop k:=by
   obtain ⟨h5,h6⟩:=zyz.1 hx;rw [zzd h5,h6,show k-1+1=k by omega]
  refine ⟨(k-1,(r*2 ^ 32+x)/d::q,(r*2 ^ 32+x)%d),⟨by omega,by simp; omega,zyl _ hd,?_,?_⟩,by show k-1<k; omega,?_⟩
  ·intro v hv;rcases zy1.1 hv with rfl | hv
   ·exact hq2
   ·exact hqb v hv
  ·rw [hdrop];simp only [lv];rw [hinv];have h7:=zAw (r*2 ^ 32+x) d;generalize (r*2 ^ 32+x)/d=q' at *;generalize (r*2 ^ 32+x)%d=r' at *;rw [zzE,zzE,zAx d (2 ^ 32)];omega
  ·refine zzj ⟨rfl,rfl,rfl,rfl,?_,trivial⟩ ⟨⟨_,rfl,?_⟩,trivial⟩ (fun R hR=>hR)
   ·show some (SV.o (.v (.int _ (IntKind.i64.wrap ((k : Int)-1-1)))))=some (SV.o (.v (.int _ (((k-1 : Nat) : Int)-1))));rw [wrap_i64 (by omega) (by omega)]
    congr 4; omega
   ·show MEle (ME.own _ _ _ (putN (((k : Int)-1).toNat*1) [Value.int .u32 (((r*2 ^ 32+x)/d : Nat) : Int)] (rowV u32c (List.replicate k 0++q)))) (ME.own _ _ _ (rowV u32c (List.replicate (k-1) 0++(r*2 ^ 32+x)/d::q)));have hrep : List.replicate k 0++q=List.replicate (k-1) 0++0::q:=by
     have : List.replicate k 0=List.replicate (k-1) 0++[0]:=by rw [<-zAT]; congr 1; omega
     rw [this]; simp
    rw [hkn,hrep,zds (List.replicate (k-1) 0) q 0 _ (by simp)];simp only [zyF,zAU];exact .refl _
 ·intro h
  have hk0 : k=0:=by have : ¬(0 : Int)<=(k : Int)-1:=by simpa using h
                     omega
  subst hk0;rw [zAJ] at hinv;obtain ⟨hdq,hdr⟩:=zqe hr hinv;have hdig : tr q=digs (2 ^ 32) (lv (2 ^ 32) a/d):=by rw [zgM (by decide) hqb,hdq]
  have hql : a.length=q.length:=by omega
  conv=>whnf
  refine zzY (n:=a.length) (xs:=u32V (List.replicate 0 0++q)) (n':=(tr q).length) 33 (fun A c hc=>?_) rfl (by rw [hql]; exact zck q) rfl rfl ?_ rfl
  ·rw [hql]; exact zez A c q (by omega) (by omega)
  ·conv=>whnf
   refine ⟨33,by rw [hdr],?_⟩;show some (ME.own zax 1 (tr q).length ((rowV u32c q).take ((tr q).length*1)))=_;rw [zbh zay,zc7,hdig]
abbrev zAW:=@List.replicate_zero
abbrev zAV:=@Nat.mul_lt_mul_of_pos_right
theorem zkv {B : Nat} (hB : 0<B) : ∀ (l : List Nat),(∀ x∈l,x<B)->pad B l.length (lv B l)=l
 | [],_=>rfl
 | x::l,h=>by
  have hx:=h x (by simp);rw [zxR,zjR,lv,zAy,zye hx,zzA _ _ hB,zzB hx,zyo,zkv hB l (fun y hy=>h y (zxB _ hy))]
theorem zpy {x n h : Nat} (hx : x<2 ^ 32) (hn : n<32) (hh : h<2 ^ n) : x*2 ^ n/2 ^ 32<2 ^ n/\∃ m,x*2 ^ n%2 ^ 32=m*2 ^ n/\h+m*2 ^ n<2 ^ 32:=by
 have hp : (2 : Nat) ^ 32=2 ^ (32-n)*2 ^ n:=by rw [<-zAg]; congr 1; omega
 have hpos : 0<(2 : Nat) ^ n:=zAv (by decide);refine ⟨zzK (zAV hx hpos),x%2 ^ (32-n),?_,?_⟩
 ·rw [hp,Nat.mul_mod_mul_right]
 ·have h1 : x%2 ^ (32-n)<2 ^ (32-n):=zyl _ (zAv (by decide));have h2 : (x%2 ^ (32-n)+1)*2 ^ n<=2 ^ (32-n)*2 ^ n:=zyL _ h1;rw [<-hp,zzP,zz4] at h2;omega
theorem zod {B i h x p : Nat} {a o : List Nat} (ho : o.length=i) (hv : lv B o+B ^ i*h=lv B (a.take i)*p) (hx : a[i]?=some x) :
  lv B (o++[h+x*p%B])+B ^ (i+1)*(x*p/B)=lv B (a.take (i+1))*p:=by
 have h1 : B ^ i*(x*p%B)+B ^ i*(B*(x*p/B))=B ^ i*(x*p):=by rw [<-zzE,zzy]
 rw [zcv,ho,za5 hx,zzP,<-hv,zzD,zzE,zzF (B ^ i) B,zzF (B ^ i) x];omega
theorem zo1 (A : Option Addr) (c : Nat) (a : List Nat) (n : Nat) (ha : ∀ x∈a,x<2 ^ 32) (hn : n<32) (hla : a.length<=100000000000) :
   FnM PP 268 [.slice A a.length c,.int .i64 n] (facts [zai A (u32V a)]) (zbD zax 1 (a.length+1) (u32V (pad (2 ^ 32) (a.length+1) (lv (2 ^ 32) a*2 ^ n)))):=by
 refine zzp zab mixed Tryz.func268 rfl rfl (zxW rfl) (by simp [zzk]) ?_;intro w hw;have hcap : IntKind.i64.wrap ((a.length : Int)+1)=((a.length+1 : Nat) : Int):=by rw [wrap_i64 (by omega) (by omega)]; omega
 have hpos : 0<(2 : Nat) ^ n:=zAv (by decide);conv=>whnf
 refine ⟨by rw [hcap]; exact ⟨by omega,by omega,by show (4 : Int)*_<=_; omega,by omega⟩,?_⟩;conv=>whnf
 refine zal (ι:=List Nat×Nat) (fun ⟨o,h⟩=>⟨[(0,.o (.v (.slice A a.length c))),(1,.o (.v (.int .i64 n))),(5,.o (.w 12)),(13,.o (.v (.slice A a.length c))),(14,.o (.v (.int .i64 a.length))),(15,.o (.v (.int .i64 o.length)))],[(12,.own zax 1 (a.length+1) (u32V (o++h::List.replicate (a.length-o.length) 0)))],[zai A (u32V a)]⟩)
   (fun ⟨o,h⟩=>o.length<=a.length/\h<2 ^ n/\(∀ x∈o,x<2 ^ 32)/\lv (2 ^ 32) o+(2 ^ 32) ^ o.length*h=lv (2 ^ 32) (a.take o.length)*2 ^ n) (fun ⟨o,h⟩=>a.length-o.length) ([],0)
   ⟨zyD _,hpos,(fun _ h=>by cases h),by simp [lv]⟩ (zzj ⟨rfl,rfl,rfl,rfl,rfl,rfl,trivial⟩ ⟨⟨_,rfl,?_⟩,trivial⟩ (fun R hR=>hR)) ?_
 · rw [hcap];simp only [ME.ren,zzS,zAK,zza,zzJ,<-zzI];simp only [u32V,zb4];exact .refl _
 rintro ⟨o,h⟩ ⟨ho,hh,hob,hinv⟩;conv=>whnf
 refine zaj ?_ ?_
 · intro hlt
   have hi : o.length<a.length:=by have : (o.length : Int)<a.length:=by simpa using hlt
                                   omega
   have hA : A.isSome=true:=zam (zaK hw) (by rw [zav]; omega);have hip : IntKind.i64.wrap ((o.length : Int)+1)=((o.length+1 : Nat) : Int):=by rw [wrap_i64 (by omega) (by omega)]; omega
   conv=>whnf
   refine ⟨⟨by omega,by omega,hA⟩,?_⟩;conv=>whnf
   refine zzR u32c zay (zyZ.2 rfl) rfl (by rw [zzS]; exact hi) (by decide) (fun _=>rfl) ?_;rw [zzS];intro x hx;have hxb : x<2 ^ 32:=ha x (zyq hx);obtain ⟨hhi,m,hm,hsum⟩:=zpy hxb hn hh;have hy : IntKind.u64.wrap (IntKind.u64.wrap (x : Int)*2 ^ min (n : Int).toNat IntKind.u64.bits)=((x*2 ^ n : Nat) : Int):=by
     have e1 : IntKind.u64.wrap (x : Int)=(x : Int):=by rw [zAQ]; omega
     have e2 : ((x : Int)*2 ^ n)=((x*2 ^ n : Nat) : Int):=by rw [zAG,zAH]; rfl
     have e3 : x*2 ^ n<2 ^ 64:=by
       have h1 : x*2 ^ n<2 ^ 32*2 ^ n:=zAV hxb hpos;have h2 : (2 : Nat) ^ 32*2 ^ n<=2 ^ 64:=by rw [<-zAg]; exact zAa (by decide) (by omega)
       omega
     rw [e1,zzS,show min n IntKind.u64.bits=n from zAs (by show n<=64; omega),e2,zAQ]; omega
   conv=>whnf
   refine ⟨by omega,?_⟩;conv=>whnf
   refine ⟨⟨by omega,by omega⟩,?_⟩;conv=>whnf
   refine zzT u32c zay (k:=o.length) (by rw [zzS]; rfl) (by simp) (by decide) (fun _=>rfl) ?_;intro h' hh';have hhh : h'=h:=by
     rw [zyg (zxr _),zAI] at hh';exact (zz1 hh').symm
   subst hhh;conv=>whnf
   refine ⟨⟨by omega,by omega⟩,?_⟩;conv=>whnf
   refine ⟨⟨by rw [zav]; simp; show _*1+1<=_; omega,by decide⟩,?_⟩;conv=>whnf
   refine ⟨by decide,?_⟩;conv=>whnf
   refine ⟨⟨by rw [hip]; omega,by rw [hip]; omega⟩,?_⟩;conv=>whnf
   have hor : IntKind.u32.wrap (BitVec.toNat (w:=32) (BitVec.ofInt 32 (h' : Int) ||| BitVec.ofInt 32 (IntKind.u32.wrap ((x*2 ^ n : Nat) : Int))) : Int)=((h'+m*2 ^ n : Nat) : Int):=by
     have e1 : IntKind.u32.wrap ((x*2 ^ n : Nat) : Int)=((m*2 ^ n : Nat) : Int):=by rw [zAz,<-hm]; rfl
     rw [e1];exact zta hh hsum
   have hrep : List.replicate (a.length-o.length) 0=0::List.replicate (a.length-(o.length+1)) 0:=by rw [<-zzI]; congr 1; omega
   have hput1 : ∀ v : Int,v=((h'+m*2 ^ n : Nat) : Int)->putN ((o.length : Int).toNat*1) [Value.int .u32 v] (rowV u32c (o++h'::List.replicate (a.length-o.length) 0))
       = rowV u32c ((o++[h'+m*2 ^ n])++0::List.replicate (a.length-(o.length+1)) 0):=by
     intro v hv;rw [hv,zds o _ _ _ (by simp),hrep]
   refine ⟨⟨?_,by decide⟩,?_⟩
   · show _<=(putN ((o.length : Int).toNat*1) [Value.int .u32 _] (rowV u32c _)).length;rw [hput1 _ (by rw [hy]; exact hor),hip,zav];simp;show (o.length+1)*1+1<=_;omega
   conv=>whnf
   refine ⟨(o++[h'+m*2 ^ n],x*2 ^ n/2 ^ 32),⟨by simp; omega,hhi,?_,?_⟩,by simp; omega,?_⟩
   · intro v hv;rcases zyK.1 hv with hv | hv
     · exact hob v hv
     · rw [zyZ.1 hv]; exact hsum
   · rw [zz2];show lv (2 ^ 32) (o++[h'+m*2 ^ n])+(2 ^ 32) ^ (o.length+1)*(x*2 ^ n/2 ^ 32)=lv (2 ^ 32) (a.take (o.length+1))*2 ^ n;rw [<-hm];exact zod rfl hinv hx
   · refine zzj ⟨rfl,rfl,rfl,rfl,rfl,?_,trivial⟩ ⟨⟨_,rfl,?_⟩,trivial⟩ (fun R hR=>hR)
     · show some (SV.o (.v (.int _ (IntKind.i64.wrap ((o.length : Int)+1)))))=some (SV.o (.v (.int _ (((o++[_]).length : Nat) : Int))));rw [hip,zz2]; rfl
     · show MEle (ME.own _ _ _ (putN ((IntKind.i64.wrap ((o.length : Int)+1)).toNat*1) [Value.int .u32 (IntKind.u32.wrap (Int.fdiv (IntKind.u64.wrap (IntKind.u64.wrap (x : Int)*2 ^ min (n : Int).toNat IntKind.u64.bits)) (2 ^ 32)))] (putN ((o.length : Int).toNat*1) [Value.int .u32 _] (rowV u32c (o++h'::List.replicate (a.length-o.length) 0)))))
         (ME.own _ _ _ (rowV u32c ((o++[h'+m*2 ^ n])++(x*2 ^ n/2 ^ 32)::List.replicate (a.length-(o++[_]).length) 0)))
       have hhi2 : IntKind.u32.wrap (Int.fdiv ((x*2 ^ n : Nat) : Int) (2 ^ 32))=((x*2 ^ n/2 ^ 32 : Nat) : Int):=by
         rw [zAO _ (by decide)];have e5 : ((x*2 ^ n : Nat) : Int)/2 ^ 32=((x*2 ^ n/2 ^ 32 : Nat) : Int):=rfl;have e6 : (2 : Nat) ^ n<=2 ^ 32:=zAa (by decide) (by omega);rw [e5];generalize x*2 ^ n/2 ^ 32=z at hhi ⊢;rw [zAz]; omega
       rw [hput1 _ (by rw [hy]; exact hor),hy,hhi2,hip,zds (o++[h'+m*2 ^ n]) _ _ _ (by simp)];simp only [zz2,zyF,zAU,zyw,zzJ,zxR,zAK];exact .refl _
 · intro hlt
   have hi : o.length=a.length:=by have : ¬(o.length : Int)<a.length:=by simpa using hlt
                                   omega
   have h32 : (2 : Nat) ^ n<=2 ^ 32:=zAa (by decide) (by omega);conv=>whnf
   refine ⟨12,rfl,?_⟩;show some (ME.own zax 1 (a.length+1) (u32V (o++h::List.replicate (a.length-o.length) 0)))=_;have hval : lv (2 ^ 32) (o++[h])=lv (2 ^ 32) a*2 ^ n:=by rw [zcv,hinv,hi,zAq]
   have:=zkv (B:=2 ^ 32) (by decide) (o++[h]) (fun v hv=>by
     rcases zyK.1 hv with hv | hv
     · exact hob v hv
     · rw [zyZ.1 hv]; omega)
   rw [hval,zz2,hi] at this;rw [hi,zAI];simp only [zAW];rw [<-this]; rfl
abbrev zAX:=@List.range_succ
theorem zgr {B : Nat} (hB : 0<B) {a : List Nat} (ha : ∀ x∈a,x<B) (i : Nat) (hi : i<=a.length) : lv B a/B ^ i=lv B (a.drop i):=by
 have h1 : lv B a=lv B (a.take i)+B ^ i*lv B (a.drop i):=by
  conv=>lhs; rw [<-zz0 i a]
  rw [zbL,zyI,zAs hi]
 have h2 : lv B (a.take i)<B ^ i:=by
  have:=zfQ hB (a.take i) (fun z hz=>ha z (zxP hz));rwa [zyI,zAs hi] at this
 rw [h1,zzA _ _ (zAv hB),zzB h2,zyo]
theorem zj1 {a : List Nat} {i n x y : Nat} (ha : ∀ z∈a,z<2 ^ 32) (hn : n<32) (hx : a[i]?=some x) (hy : a[i+1]?=some y\/(a.length<=i+1/\y=0)) :
  lv (2 ^ 32) a/2 ^ n/(2 ^ 32) ^ i%2 ^ 32=(x+y*2 ^ 32)/2 ^ n%2 ^ 32:=by
 obtain ⟨hi,hxe⟩:=zyz.1 hx;have h1 : ∃ m,lv (2 ^ 32) (a.drop i)=x+2 ^ 32*(y+2 ^ 32*m):=by
  rw [zzd hi,hxe];rcases hy with h | ⟨h,rfl⟩
  ·obtain ⟨hj,hye⟩:=zyz.1 h;rw [zzd hj,hye];exact ⟨_,rfl⟩
  ·rw [zzQ h];exact ⟨0,rfl⟩
 obtain ⟨m,hm⟩:=h1;have hp : (2 : Nat) ^ 32=2 ^ n*2 ^ (32-n):=by rw [<-zAg]; congr 1; omega
 have hpos : 0<(2 : Nat) ^ n:=zAv (by decide);rw [zAt,zzG,<-zAt,zgr (by decide) ha i (by omega),hm];have h2 : x+2 ^ 32*(y+2 ^ 32*m)=(x+y*2 ^ 32)+2 ^ n*(2 ^ 32*(2 ^ (32-n)*m)):=by
  have : 2 ^ n*(2 ^ 32*(2 ^ (32-n)*m))=2 ^ 32*(2 ^ 32*m):=by
   rw [zAx (2 ^ n),<-zzF (2 ^ n) (2 ^ (32-n)),<-hp]
  rw [this]; omega
 rw [h2,zzA _ _ hpos,zAy]
theorem zsO (B i v : Nat) : pad B (i+1) v=pad B i v++[v/B ^ i%B]:=by simp [pad,zAX]
theorem zpC (A : Option Addr) (c : Nat) (a : List Nat) (n : Nat) (ha : ∀ x∈a,x<2 ^ 32) (hn : n<32) (hla : a.length<=100000000000) :
  FnM PP 270 [.slice A a.length c,.int .i64 n] (facts [zai A (u32V a)]) (zbD zax 1 (digs (2 ^ 32) (lv (2 ^ 32) a/2 ^ n)).length (u32V (digs (2 ^ 32) (lv (2 ^ 32) a/2 ^ n)))):=by
 refine zzp zab mixed Tryz.func270 rfl rfl (zxW rfl) (by simp [zzk]) ?_;intro w hw;conv=>whnf
 refine ⟨⟨by omega,by omega,by show (4 : Int)*_<=_; omega,by omega⟩,?_⟩;conv=>whnf
 refine zal (ι:=Nat) (fun i=>⟨[(0,.o (.v (.slice A a.length c))),(1,.o (.v (.int .i64 n))),(5,.o (.w 10)),(12,.o (.v (.int .i64 a.length))),(13,.o (.v (.int .i64 i)))],[(10,.own zax 1 a.length (u32V (pad (2 ^ 32) i (lv (2 ^ 32) a/2 ^ n)++List.replicate (a.length-i) 0)))],[zai A (u32V a)]⟩)
  (fun i=>i<=a.length) (fun i=>a.length-i) 0 (zyD _) (zzj ⟨rfl,rfl,rfl,rfl,rfl,trivial⟩ ⟨⟨_,rfl,?_⟩,trivial⟩ (fun R hR=>hR)) ?_
 ·simp only [ME.ren,zzS,zza];show MEle _ (ME.own _ _ _ (rowV u32c ([]++List.replicate a.length 0)));rw [zzJ,zb4];exact .refl _
 intro i hi;conv=>whnf
 refine zaj ?_ ?_
 ·intro hlt
  have hi' : i<a.length:=by have : (i : Int)<a.length:=by simpa using hlt
                            omega
  have hA : A.isSome=true:=zam (zaK hw) (by rw [zav]; omega);have hip : IntKind.i64.wrap ((i : Int)+1)=((i+1 : Nat) : Int):=by rw [wrap_i64 (by omega) (by omega)]; omega
  have hrep : List.replicate (a.length-i) 0=0::List.replicate (a.length-(i+1)) 0:=by rw [<-zzI]; congr 1; omega
  have hput : ∀ (v : Int) (x y : Nat),a[i]?=some x->(a[i+1]?=some y\/(a.length<=i+1/\y=0))->v=(((x+y*2 ^ 32)/2 ^ n%2 ^ 32 : Nat) : Int) ->
    putN ((i : Int).toNat*1) [Value.int .u32 v] (rowV u32c (pad (2 ^ 32) i (lv (2 ^ 32) a/2 ^ n)++List.replicate (a.length-i) 0))=rowV u32c (pad (2 ^ 32) (i+1) (lv (2 ^ 32) a/2 ^ n)++List.replicate (a.length-(i+1)) 0):=by
   intro v x y hx hy hv;rw [hv,hrep,zds _ _ _ _ (by rw [zaF,zzS,zyR]),zsO,zj1 ha hn hx hy]
  conv=>whnf
  refine ⟨⟨by omega,by omega,hA⟩,?_⟩;conv=>whnf
  refine zzR u32c zay (zyZ.2 rfl) rfl (by rw [zzS]; exact hi') (by decide) (fun _=>rfl) ?_;rw [zzS];intro x hx;have hxb : x<2 ^ 32:=ha x (zyq hx);have hx64 : IntKind.u64.wrap (x : Int)=(x : Int):=by rw [zAQ]; omega
  have hshr : ∀ z : Nat,IntKind.u32.wrap (Int.fdiv (z : Int) (2 ^ min (n : Int).toNat IntKind.u64.bits))=((z/2 ^ n%2 ^ 32 : Nat) : Int):=fun z=>by
   have e2 : ((2 : Int) ^ n)=((2 ^ n : Nat) : Int):=by rw [zAH]; rfl
   rw [zzS,show min n IntKind.u64.bits=n from zAs (by show n<=64; omega),e2,zAO _ (zAP _),zAz];have e3 : ((z : Int)/((2 ^ n : Nat) : Int))=((z/2 ^ n : Nat) : Int):=rfl;rw [e3]; omega
  conv=>whnf
  refine zaj ?_ ?_
  ·intro h2;have hj : i+1<a.length:=by
    have : IntKind.i64.wrap ((i : Int)+1)<(a.length : Int):=by simpa using h2
    rw [hip] at this; omega
   conv=>whnf
   refine ⟨⟨by rw [hip]; omega,by rw [hip]; omega,hA⟩,?_⟩;conv=>whnf
   refine zzR u32c zay (zyZ.2 rfl) rfl (by rw [hip,zzS]; exact hj) (by decide) (fun _=>rfl) ?_;rw [hip,zzS];intro y hy;have hyb : y<2 ^ 32:=ha y (zyq hy);have hor : IntKind.u64.wrap (BitVec.toNat (w:=64) (BitVec.ofInt 64 (IntKind.u64.wrap (x : Int)) ||| BitVec.ofInt 64 (IntKind.u64.wrap (IntKind.u64.wrap (y : Int)*2 ^ min (32 : Int).toNat IntKind.u64.bits))) : Int)=((x+y*2 ^ 32 : Nat) : Int):=by
    have e1 : IntKind.u64.wrap (IntKind.u64.wrap (y : Int)*2 ^ min (32 : Int).toNat IntKind.u64.bits)=((y*2 ^ 32 : Nat) : Int):=by
     rw [show min (32 : Int).toNat IntKind.u64.bits=32 from rfl,zAQ,zAQ]; omega
    rw [e1,hx64,znh,zAB,zaU (by omega),zaU (by omega),Nat.or_comm,zzG,<-zAC hxb];omega
   conv=>whnf
   refine ⟨by decide,?_⟩;conv=>whnf
   refine ⟨by omega,?_⟩;conv=>whnf
   refine ⟨⟨by omega,by omega⟩,?_⟩;conv=>whnf
   refine ⟨⟨by rw [zav]; simp [zaF]; show i*1+1<=_; omega,by decide⟩,?_⟩;conv=>whnf
   refine ⟨i+1,by omega,by omega,?_⟩;refine zzj ⟨rfl,rfl,rfl,rfl,zyr (fun z=>some (SV.o (.v (.int .i64 z)))) hip,trivial⟩ ⟨⟨_,rfl,?_⟩,trivial⟩ (fun R hR=>hR);show MEle (ME.own _ _ _ (putN ((i : Int).toNat*1) [Value.int .u32 _] (rowV u32c _))) (ME.own _ _ _ (rowV u32c _));rw [hput _ x y hx (.inl hy) (by exact (zyr (fun z=>IntKind.u32.wrap (Int.fdiv z (2 ^ min (n : Int).toNat IntKind.u64.bits))) hor).trans (hshr _))];exact .refl _
  ·intro h2;have hj : a.length<=i+1:=by
    have : ¬IntKind.i64.wrap ((i : Int)+1)<(a.length : Int):=by simpa using h2
    rw [hip] at this; omega
   conv=>whnf
   refine ⟨by omega,?_⟩;conv=>whnf
   refine ⟨⟨by omega,by omega⟩,?_⟩;conv=>whnf
   refine ⟨⟨by rw [zav]; simp [zaF]; show i*1+1<=_; omega,by decide⟩,?_⟩;conv=>whnf
   refine ⟨i+1,by omega,by omega,?_⟩;refine zzj ⟨rfl,rfl,rfl,rfl,zyr (fun z=>some (SV.o (.v (.int .i64 z)))) hip,trivial⟩ ⟨⟨_,rfl,?_⟩,trivial⟩ (fun R hR=>hR);show MEle (ME.own _ _ _ (putN ((i : Int).toNat*1) [Value.int .u32 _] (rowV u32c _))) (ME.own _ _ _ (rowV u32c _));rw [hput _ x 0 hx (.inr ⟨hj,rfl⟩) ((zyr (fun z=>IntKind.u32.wrap (Int.fdiv z (2 ^ min (n : Int).toNat IntKind.u64.bits))) hx64).trans ((hshr x).trans (by simp)))];exact .refl _
 ·intro hlt
  have hi' : i=a.length:=by have : ¬(i : Int)<a.length:=by simpa using hlt
                            omega
  obtain ⟨o,hoe⟩ : ∃ o,o=pad (2 ^ 32) i (lv (2 ^ 32) a/2 ^ n):=⟨_,rfl⟩;have hz : pad (2 ^ 32) i (lv (2 ^ 32) a/2 ^ n)++List.replicate (a.length-i) 0=o:=by rw [hoe,hi',zAI]; simp
  have hol : a.length=o.length:=by rw [hoe,zaF,hi']
  have hob : ∀ x∈o,x<2 ^ 32:=by rw [hoe]; exact zhr (by decide) _ _
  have hdig : tr o=digs (2 ^ 32) (lv (2 ^ 32) a/2 ^ n):=by
   have h1:=zfQ (by decide) a ha;have h2 : lv (2 ^ 32) a/2 ^ n<=lv (2 ^ 32) a:=zAe _ _;rw [zgM (by decide) hob,hoe,zgK (by decide),hi',zye (by omega)]
  conv=>whnf
  refine zzY (n:=a.length) (xs:=u32V (pad (2 ^ 32) i (lv (2 ^ 32) a/2 ^ n)++List.replicate (a.length-i) 0)) (n':=(tr o).length) 44 (fun A c hc=>?_) rfl (by rw [hol]; exact zck o) rfl rfl ?_ rfl
  ·rw [hz,hol]; exact zez A c o (by omega) (by omega)
  ·conv=>whnf
   refine ⟨44,rfl,?_⟩;show some (ME.own zax 1 (tr o).length ((rowV u32c (pad (2 ^ 32) i (lv (2 ^ 32) a/2 ^ n)++List.replicate (a.length-i) 0)).take ((tr o).length*1)))=_;rw [hz,zbh zay,zc7,hdig]
abbrev zA1:=@of_decide_eq_false
abbrev zA0:=@of_decide_eq_true
abbrev zAZ:=@Nat.add_sub_cancel
abbrev zAY:=@Nat.pow_lt_pow_iff_right
def blen (x : Nat) : Nat:=if x=0 then 0 else Nat.log2 x+1
theorem zlU (x : Nat) : x<2 ^ blen x:=by
 unfold blen;split
 ·rename_i h; subst h; decide
 ·exact Nat.lt_log2_self
theorem zjL {x : Nat} (hx : 0<x) : 2 ^ (blen x-1)<=x/\0<blen x:=by
 unfold blen;rw [zxI (by omega)];exact ⟨Nat.log2_self_le (by omega),by omega⟩
theorem ztW {x L : Nat} (h1 : 2 ^ L<=x) (h2 : x<2 ^ (L+1)) : blen x=L+1:=by
 have hx : 0<x:=zxw (zAv (by decide)) h1;obtain ⟨h3,h4⟩:=zjL hx;have h5:=zlU x;have h6 : blen x-1<L+1:=(zAY (a:=2) (by decide)).1 (zAc h3 h2);have h7 : L<blen x:=(zAY (a:=2) (by decide)).1 (zAc h1 h5);omega
theorem zgu {x k : Nat} (h : 2 ^ k<=x) : blen x=k+blen (x/2 ^ k):=by
 have hp : 0<(2 : Nat) ^ k:=zAv (by decide);have hq : 0<x/2 ^ k:=zzC h hp;obtain ⟨h1,h2⟩:=zjL hq;have h3:=zlU (x/2 ^ k);obtain ⟨L,hL⟩ : ∃ L,blen (x/2 ^ k)=L+1:=⟨blen (x/2 ^ k)-1,by omega⟩;rw [hL] at h1 h3 ⊢;simp only [zAZ] at h1;rw [show k+(L+1)=(k+L)+1 by omega];refine ztW ?_ ?_
 ·rw [zAg,zzG];exact (zz3 hp).1 h1
 ·rw [show k+L+1=(L+1)+k by omega,zAg];exact (zz5 hp).1 h3
theorem zlY {x : Nat} (h : x<2 ^ 32) : blen x<=32:=by
 rcases zyf x with rfl | hx
 ·decide
 ·obtain ⟨h1,h2⟩:=zjL hx;have:=(zAY (a:=2) (by decide)).1 (zAc h1 h);omega
theorem zjk (x k m : Nat) (hk : k<=m) : (x : Int).fdiv (2 ^ min (k : Int).toNat m)=((x/2 ^ k : Nat) : Int):=by
 have e2 : ((2 : Int) ^ k)=((2 ^ k : Nat) : Int):=by rw [zAH]; rfl
 rw [zzS,zAs hk,e2,zAO _ (zAP _)]; rfl
theorem zhh {s : ByteArray} {v N : Int} {j x n : Nat} (h : ∀ j : Fin 256,sb s (j.val : Int)=(blen j.val : Int)) (hj : j<256) (hv : v=(j : Int)) (hN : N=(n : Int)) (hx : n+blen j=blen x) (hb : blen x<=32) :
  Value.int .i64 (IntKind.i64.wrap (N+IntKind.i64.wrap (sb s v)))=.int .i64 (blen x):=by
 have:=h ⟨j,hj⟩;rw [hv,hN,this,wrap_i64 (n:=(blen j : Int)) (by omega) (by omega),wrap_i64 (by omega) (by omega)]
 congr 1; omega
theorem ziI {v : Int} {j : Nat} (hv : v=(j : Int)) (hj : j<256) : 0<=v/\v<256:=by omega
theorem znJ {j : Nat} (hj : j<256) : IntKind.u8.wrap (j : Int)=(j : Int):=by rw [zAN]; omega
theorem zty (x : Nat) (hx : x<2 ^ 32) : Fn PP 224 [u32 x] (.int .i64 (blen x)):=by
 refine zzn zab mixed Tryz.func224 rfl rfl (zxW rfl) ?_;intro w;have hb:=zlY hx;conv=>whnf
 refine zaj ?_ ?_
 ·intro h
  have hge : 65536<=x:=by have : (65536 : Int)<=x:=by simpa using h
                          omega
  have h16:=zjk x 16 32 (by decide);have hs16:=zgu (x:=x) (k:=16) (by omega);conv=>whnf
  refine ⟨by decide,?_⟩;conv=>whnf
  refine zaj ?_ ?_
  ·intro h2;have hge2 : 256<=x/2 ^ 16:=by
    have : ((x : Int).fdiv (2 ^ min ((16 : Nat) : Int).toNat 32))>=256:=zA0 h2;rw [h16] at this; omega
   have hs8:=zgu (x:=x/2 ^ 16) (k:=8) (by omega);have h8:=zjk (x/2 ^ 16) 8 32 (by decide);have hv : IntKind.u8.wrap (((x : Int).fdiv (2 ^ min ((16 : Nat) : Int).toNat 32)).fdiv (2 ^ min ((8 : Nat) : Int).toNat 32))=((x/2 ^ 16/2 ^ 8 : Nat) : Int):=by rw [h16,h8,znJ (by omega)]
   conv=>whnf
   refine ⟨by decide,?_⟩;conv=>whnf
   refine ⟨⟨(ziI hv (by omega)).1,show _<(256 : Int) from (ziI hv (by omega)).2⟩,?_⟩;conv=>whnf
   refine zaa ?_;refine zhh (j:=x/2 ^ 16/2 ^ 8) (n:=24) ?_ (by omega) hv (by decide) (by omega) hb
   decide +kernel
  ·intro h2;have hge2 : x/2 ^ 16<256:=by
    have : ¬((x : Int).fdiv (2 ^ min ((16 : Nat) : Int).toNat 32))>=256:=zA1 h2;rw [h16] at this; omega
   have hv : IntKind.u8.wrap ((x : Int).fdiv (2 ^ min ((16 : Nat) : Int).toNat 32))=((x/2 ^ 16 : Nat) : Int):=by rw [h16,znJ (by omega)]
   conv=>whnf
   refine ⟨⟨(ziI hv (by omega)).1,show _<(256 : Int) from (ziI hv (by omega)).2⟩,?_⟩;conv=>whnf
   refine zaa ?_;refine zhh (j:=x/2 ^ 16) (n:=16) ?_ (by omega) hv (by decide) (by omega) hb
   decide +kernel
 ·intro h
  have hge : x<65536:=by have : ¬(65536 : Int)<=x:=by simpa using h
                         omega
  conv=>whnf
  refine zaj ?_ ?_
  ·intro h2
   have hge2 : 256<=x:=by have : (256 : Int)<=x:=by simpa using h2
                          omega
   have hs8:=zgu (x:=x) (k:=8) (by omega);have h8:=zjk x 8 32 (by decide);have hv : IntKind.u8.wrap ((x : Int).fdiv (2 ^ min ((8 : Nat) : Int).toNat 32))=((x/2 ^ 8 : Nat) : Int):=by rw [h8,znJ (by omega)]
   conv=>whnf
   refine ⟨by decide,?_⟩;conv=>whnf
   refine ⟨⟨(ziI hv (by omega)).1,show _<(256 : Int) from (ziI hv (by omega)).2⟩,?_⟩;conv=>whnf
   refine zaa ?_;refine zhh (j:=x/2 ^ 8) (n:=8) ?_ (by omega) hv (by decide) (by omega) hb
   decide +kernel
  ·intro h2
   have hge2 : x<256:=by have : ¬(256 : Int)<=x:=by simpa using h2
                         omega
   have hv : IntKind.u8.wrap (x : Int)=(x : Int):=znJ (by omega);conv=>whnf
   refine ⟨⟨by rw [hv]; omega,by rw [hv]; show _<(256 : Int); omega⟩,?_⟩;conv=>whnf
   refine zaa ?_;refine zhh (j:=x) (n:=0) ?_ (by omega) hv (by decide) (by omega) hb
   decide +kernel
theorem zgN (x : Nat) (hx : x<2 ^ 32) : Fn PP 267 [u32 x] (.int .i64 ((32-blen x : Nat) : Int)):=by
 refine zzn zab mixed Tryz.func267 rfl rfl (zxW rfl) ?_;intro w;have hb:=zlY hx;conv=>whnf
 refine zzt (zty x hx) rfl ?_;conv=>whnf
 refine zaa ?_;rw [wrap_i64 (by omega) (by omega)]
 congr 1; omega
abbrev zA4:=@List.drop_append_of_le_length
abbrev zA3:=@List.take_append_of_le_length
theorem zbi.elemJ {α : Type} {xs : List α} {k n : Nat} {agg : Bool} {K : SV->Prop} {junk : List Value} (f : α->List Value) (hf : ∀ x,(f x).length=n) {off : Nat} (ho : off=k*n) (hj : k<xs.length) (h0 : 0<n) (h1 : agg=false->n=1) (hk : ∀ x,xs[k]?=some x->K (mkV agg (f x))) :
  zbi (rowV f xs++junk) off n agg K:=by
 obtain ⟨h2,l,h3,h4,h5,h6⟩:=zzT f hf ho hj h0 h1 hk;refine ⟨h2,l,h3,h4,fun j x hx=>?_,h6⟩;have:=h5 j x hx;rw [zyd (zyz.1 this).1]; exact this
abbrev zA2:=@zbi.elemJ
theorem zfV (P R : List Nat) (z d : Nat) (junk : List Value) {i : Nat} (hi : i=P.length) : putN i [Value.int .u32 (d : Int)] (rowV u32c (P++z::R)++junk)=rowV u32c ((P++[d])++R)++junk:=by
 rw [<-zds P R z d hi];have hl : i+1<=(rowV u32c (P++z::R)).length:=by rw [zad zay,zz2,hi]; simp
 rw [zb9 _ _ _ (by rw [zz2]; simp; omega),zb9 _ _ _ (by simpa using hl)];rw [zA3 (by omega),zA4 (by simpa using hl)];simp

theorem zc2 {l : List Nat} {k : Nat} (h : k<l.length) : l[k]?=some (l.getD k 0):=by rw [zzO,zyy h]; rfl
theorem zh8 {l : List Nat} {B : Nat} (hB : 0<B) (h : ∀ x∈l,x<B) (k : Nat) : l.getD k 0<B:=by
 rw [zzO]
 cases hk : l[k]? with
 | none=>exact hB
 | some x=>exact h x (zyq hk)
theorem zte {B : Nat} {l : List Nat} {k : Nat} (hk : 2<=k) (hl : l.length=k) : lv B l=(l.getD (k-1) 0*B+l.getD (k-2) 0)*B ^ (k-2)+lv B (l.take (k-2)):=by
 have h1 : l=l.take (k-2)++[l.getD (k-2) 0,l.getD (k-1) 0]:=by
  conv=>lhs; rw [<-zz0 (k-2) l]
  congr 1
  rw [zzd (by omega),zzd (by omega),zzQ (by omega)];simp only [zzO];rw [zyy (show k-2<l.length by omega),zyy (show k-1<l.length by omega)];simp only [zyS]
  congr 2
  congr 1
  omega
 conv=>lhs; rw [h1]
 rw [zbL,zyI,zAs (by omega)];simp only [lv];rw [zzM,zxL,zzG B,zzG (B ^ (k-2))];rw [zyc (l.getD (k-2) 0)]; omega
theorem zr5 {B : Nat} {l : List Nat} {k : Nat} (hk : 2<=k) (hl : l.length=k+1) : lv B l=((l.getD k 0*B+l.getD (k-1) 0)*B+l.getD (k-2) 0)*B ^ (k-2)+lv B (l.take (k-2)):=by
 have h1:=zte (B:=B) (l:=l) (k:=k+1) (by omega) hl;rw [show k+1-1=k by omega,show k+1-2=k-1 by omega] at h1;have h2 : l.take (k-1)=l.take (k-2)++[l.getD (k-2) 0]:=by
  have:=zAr (l:=l) (i:=k-2);rw [show k-2+1=k-1 by omega,zc2 (show k-2<l.length by omega)] at this;exact this
 rw [h1,h2,zcv,zyI,zAs (by omega)];obtain ⟨m,rfl⟩ : ∃ m,k=m+2:=⟨k-2,by omega⟩;simp only [zAZ,show m+2-1=m+1 by omega,zzD];generalize l.getD (m+2) 0*B+l.getD (m+1) 0=t;generalize l.getD m 0=u;rw [zzP,zzG (B ^ m) u,zzG (B ^ m) B,<-zzF];omega
end Go.Sx
end
