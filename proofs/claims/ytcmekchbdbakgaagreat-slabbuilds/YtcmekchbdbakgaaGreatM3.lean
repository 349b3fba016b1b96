/- A part of the proof of a law: the symbolic executor, contracts of functions of the program, plain laws. No conditions. -/
import Derived.Test.YtcmekchbdbakgaaGreatM2
import Derived.ChangeKeysEq
import Derived.Test.YtcmekchbdbakgaaGreatProg
import Derived.KernelRfl
set_option linter.unusedVariables false
set_option linter.unusedSimpArgs false
set_option linter.unusedSectionVars false
section
/- Rational numbers and their layout. -/
namespace Go.Sx

structure Raw where
 neg : Bool
 num : List UInt8
 den : List UInt8
deriving DecidableEq
def sg (neg : Bool) (m : Nat) : Int:=if neg then -(m : Int) else m
def dnm (m : Nat) : Nat:=if m=0 then 1 else m
def Raw.n (r : Raw) : Int:=sg r.neg (nat r.num)
def Raw.d (r : Raw) : Nat:=dnm (nat r.den)
theorem za4 (b : Bool) (m : Nat) : (sg b m).natAbs=m:=by unfold sg; split <;> omega
theorem zAk (m : Nat) : 0<dnm m:=by unfold dnm; split <;> omega
def Raw.v (r : Raw) : Rat:=mkRat r.n r.d
theorem Raw.d_pos (r : Raw) : 0<r.d:=zAk _
theorem Raw.d_ne (r : Raw) : r.d≠0:=Nat.ne_of_gt r.d_pos
def Q (x : Rat) : Raw:=⟨decide (x<0),bytes x.num.natAbs,if x.den=1 then [] else bytes x.den⟩
theorem zey {x : Rat} : x.num<0↔x<0:=by
 have:=Rat.num_nonneg (q:=x)
 rw [←Rat.not_le,←this]; omega
theorem Q_n (x : Rat) : (Q x).n=x.num:=by
 show sg (decide (x<0)) (nat (bytes x.num.natAbs))=x.num
 have:=zey (x:=x)
 rw [zal,sg]
 by_cases h : x<0
 ·rw [decide_eq_true h,if_pos rfl]; have:=this.2 h; omega
 ·rw [decide_eq_false h,if_neg (by decide)]; have : ¬x.num<0:=fun h'=>h (this.1 h'); omega
theorem Q_d (x : Rat) : (Q x).d=x.den:=by
 have:=x.den_nz
 show dnm (nat (if x.den=1 then [] else bytes x.den))=x.den
 by_cases h : x.den=1
 ·rw [if_pos h,zgf,h]; rfl
 ·rw [if_neg h,zal,dnm,if_neg this]
@[simp] theorem Q_v (x : Rat) : (Q x).v=x:=by rw [Raw.v,Q_n,Q_d,Rat.mkRat_self]
theorem zo9 {x y : Rat} : Q x=Q y↔x=y:=⟨fun h=>by rw [←Q_v x,h,Q_v],fun h=>by rw [h]⟩
theorem zhg : Q 0=⟨false,[],[]⟩:=by simp [Q,zaL,show ¬((0 : Rat)<0) from Rat.lt_irrefl]
theorem Raw.zero_v : (⟨false,[],[]⟩ : Raw).v=0:=by rw [←zhg,Q_v]
def Raw.ok (r : Raw) : Prop:=r=Q r.v
instance (r : Raw) : Decidable r.ok:=inferInstanceAs (Decidable (r=Q r.v))
theorem Q_ok (x : Rat) : (Q x).ok:=by rw [Raw.ok,Q_v]
theorem ok_eq {r s : Raw} (hr : r.ok) (hs : s.ok) : r=s↔r.v=s.v:=⟨fun h=>by rw [h],fun h=>by rw [Raw.ok] at hr hs; rw [hr,hs,h]⟩

def Sz (k : Nat) (x : Rat) : Prop:=x.num.natAbs<256 ^ k∧x.den<256 ^ k
theorem Sz.le {k m : Nat} {x : Rat} (h : Sz k x) (hm : k≤m) : Sz m x :=
 ⟨Nat.lt_of_lt_of_le h.1 (Nat.pow_le_pow_right (by decide) hm),Nat.lt_of_lt_of_le h.2 (Nat.pow_le_pow_right (by decide) hm)⟩
theorem Sz.mk' {k : Nat} {n : Int} {d : Nat} (h1 : n.natAbs<256 ^ k) (h2 : d<256 ^ k) (hd : d≠0) : Sz k (mkRat n d):=by
 refine ⟨?_,?_⟩
 ·rw [Rat.num_mkRat,if_neg hd]
  exact Nat.lt_of_le_of_lt (Int.natAbs_ediv_le_natAbs _ _) h1
 ·rw [Rat.den_mkRat,if_neg hd]
  exact Nat.lt_of_le_of_lt (Nat.div_le_self _ _) h2
theorem za2 {l : List UInt8} {k : Nat} (h : l.length≤k) : nat l<256 ^ k:=Nat.lt_of_lt_of_le (zdx l) (Nat.pow_le_pow_right (by decide) h)
theorem Raw.n_bound {r : Raw} {k : Nat} (h : r.num.length≤k) : r.n.natAbs<256 ^ k:=by
 rw [Raw.n,za4]; exact za2 h
theorem Raw.d_bound {r : Raw} {k : Nat} (hk : 0<k) (h : r.den.length≤k) : r.d<256 ^ k:=by
 unfold Raw.d dnm; split
 ·exact Nat.one_lt_pow (by omega) (by decide)
 ·exact za2 h
theorem Raw.sz {r : Raw} {k : Nat} (hk : 0<k) (h1 : r.num.length≤k) (h2 : r.den.length≤k) : Sz k r.v:=Sz.mk' (Raw.n_bound h1) (Raw.d_bound hk h2) r.d_ne
theorem za8 {n k : Nat} (h : n<256 ^ k) : (bytes n).length≤k:=by rw [zsc]; exact za6 (by decide) h
def Raw.sm (k : Nat) (r : Raw) : Prop:=r.num.length≤k∧r.den.length≤k
theorem Sz.q {k : Nat} {x : Rat} (h : Sz k x) : (Q x).sm k:=by
 refine ⟨za8 h.1,?_⟩
 simp only [Q]
 split
 ·exact Nat.zero_le _
 ·exact za8 h.2
theorem Sz.neg {k : Nat} {x : Rat} (h : Sz k x) : Sz k (-x):=by
 refine ⟨?_,h.2⟩
 rw [Rat.neg_num,Int.natAbs_neg]; exact h.1
theorem zbT {a b k m : Nat} (ha : a<256 ^ k) (hb : b<256 ^ m) : a*b<256 ^ (k+m):=by
 rw [Nat.pow_add]
 exact Nat.mul_lt_mul'' ha hb
theorem Sz.mul {k m : Nat} {x y : Rat} (h : Sz k x) (h' : Sz m y) : Sz (k+m) (x*y):=by
 rw [Rat.mul_def']
 refine Sz.mk' ?_ (zbT h.2 h'.2) (Nat.mul_ne_zero x.den_nz y.den_nz)
 rw [Int.natAbs_mul]; exact zbT h.1 h'.1
theorem Sz.add {k m : Nat} {x y : Rat} (h : Sz k x) (h' : Sz m y) : Sz (k+m+1) (x+y):=by
 rw [Rat.add_def']
 refine Sz.mk' ?_ (Nat.lt_of_lt_of_le (zbT h.2 h'.2) (Nat.pow_le_pow_right (by decide) (by omega))) (Nat.mul_ne_zero x.den_nz y.den_nz)
 have h1:=zbT h.1 h'.2
 have h2:=zbT h'.1 h.2
 rw [Nat.add_comm m k] at h2
 have h3 : (x.num*(y.den : Int)+y.num*(x.den : Int)).natAbs≤x.num.natAbs*y.den+y.num.natAbs*x.den:=by
  have:=Int.natAbs_add_le (x.num*(y.den : Int)) (y.num*(x.den : Int))
  rw [Int.natAbs_mul,Int.natAbs_mul,Int.natAbs_natCast,Int.natAbs_natCast] at this
  exact this
 rw [Nat.pow_succ]
 omega
theorem Sz.sub {k m : Nat} {x y : Rat} (h : Sz k x) (h' : Sz m y) : Sz (k+m+1) (x-y):=by
 rw [Rat.sub_eq_add_neg]; exact h.add h'.neg
theorem Sz.inv {k : Nat} {x : Rat} (h : Sz k x) : Sz (k+1) x⁻¹:=by
 refine ⟨?_,?_⟩
 ·rw [Rat.num_inv,Int.natAbs_mul,Int.natAbs_natCast]
  have : x.num.sign.natAbs≤1:=by rcases Int.lt_trichotomy x.num 0 with h | h | h <;> simp [Int.sign_eq_neg_one_of_neg,Int.sign_eq_one_of_pos,h]
  have h2:=Nat.mul_le_mul_right x.den this
  rw [Nat.pow_succ]; have:=h.2; omega
 ·rw [Rat.den_inv]
  split
  ·exact Nat.one_lt_pow (by omega) (by decide)
  ·rw [Nat.pow_succ]; have:=h.1; omega
theorem Sz.div {k m : Nat} {x y : Rat} (h : Sz k x) (h' : Sz m y) : Sz (k+(m+1)) (x/y):=by
 rw [Rat.div_def]; exact h.mul h'.inv
end Go.Sx
end
section
/- A symbolic executor over loaded Go code: calls that yield two rows, the second of which may be the row that was handed over. -/
namespace Go.Sx
open Go Go.RowKit

section
variable {P : Program} {T : TT} {C : Cx} {E : Env} {st st' : SS}
theorem zsg {w : World} {B t es n : Nat} {v : Value} {xs : List Value} (h : w.ownsRow B t es v n xs) : w.ownsRow 0 t es v n xs∧∀ b,v.ownBlock=some b→B≤b∧b<w.heap.size:=by
 obtain ⟨h1,h2 | ⟨g,cap,cur,rfl,h3,h4⟩⟩:=h
 ·exact ⟨⟨h1,.inl h2⟩,fun b hb=>by rw [h2.1] at hb; cases hb⟩
 ·exact ⟨⟨h1,.inr ⟨g,cap,cur,rfl,Nat.zero_le _,h4⟩⟩,fun b hb=>by cases hb; exact ⟨h3,(Array.getElem?_eq_some_iff.1 h4.1).1⟩⟩
theorem zpM {E : Env} {k b : Nat} : Value.ownBlock ((SV.o (.w k)).real E)=some b↔E.β k=some b:=by
 show Value.ownBlock (.slice ((E.β k).map fun b=>⟨b,0,none⟩) (E.ω k).1 (E.ω k).2)=some b↔_
 cases E.β k with
 | none=>simp [Value.ownBlock]
 | some c=>simp [Value.ownBlock]
theorem zac.d (z1 z2 : Nat) {g : FuncId} {t es n0 nj n m k j : Nat} {x0 xj xs ys : List Value} {K : SV→SS→Prop}
  (h : ∀ A c A' c',n0≤c→nj≤c'→FnM P g [.slice A n0 c,.slice A' nj c'] (Sx.facts [zaf A x0,zaf A' xj]) (zyu (.slice A n0 c) x0 n0 t es n xs m ys))
  (hk : lk k st.me=some (.own t es n0 x0)) (hj : lk j st.me=some (.own t es nj xj)) (hz1 : st.has z1=false) (hz2 : st.has z2=false) (h12 : Nat.beq z1 z2=false) (hz1N : zbt C.N (some z1)=true) (hz2N : zbt C.N (some z2)=true)
  (hK : K (.o (.tu [.w z1,.w z2])) { st with me:=(z2,.own t es m ys)::rmL k ((z1,.own t es n xs)::st.me) }) : zac P C g [.o (.w k),.o (.w j)] st K:=by
 refine ⟨(h none n0 none nj (Nat.le_refl _) (Nat.le_refl _)).enters,fun E w hm=>?_⟩
 obtain ⟨A,c,hr,hc,hs⟩:=RdA.own hk E w (fun k mm _ hk=>hm.ent k mm hk) (fun R hR=>(hm.res R hR).2.1)
 obtain ⟨A',c',hr',hc',hs'⟩:=RdA.own hj E w (fun k mm _ hk=>hm.ent k mm hk) (fun R hR=>(hm.res R hR).2.1)
 rw [show [SV.o (.w k),SV.o (.w j)].map (SV.real E)=[.slice A n0 c,.slice A' nj c'] by rw [List.map_cons,List.map_cons,List.map_nil,hr,hr']]
 refine ((h A c A' c' hc hc').calls w (fun R hR=>?_)).mono ?_
 ·rcases List.mem_cons.1 hR with rfl | hR
  ·exact hs
  ·rw [List.mem_singleton.1 hR]; exact hs'
 rintro e w' ⟨u,v,rfl,hu,hv,hb⟩
 have hkz1 : k≠z1:=(SS.has_me hz1 hk).1
 have hm1:=zaT.own (st:=st) hm hz1N hz1 hb hu
 obtain ⟨hbut1,hreal1,hβ1⟩:=zc3 (E:=E) (d:=z1) hu
 obtain ⟨hu0,hub⟩:=zsg hu
 have hfree : (rmL k ((z1,ME.own t es n xs)::st.me)).any (fun e=>Nat.beq e.1 z2||e.2.has z2)=false:=by
  refine zzw (st:={ tm:=[],me:=(z1,.own t es n xs)::st.me,re:=st.re }) ?_ k
  have h2:=hz2
  unfold SS.has at h2 ⊢
  rw [Bool.or_eq_false_iff] at h2
  rw [List.any_nil,Bool.false_or,List.any_cons,h2.2,Bool.or_false]
  show (Nat.beq z1 z2||false)=false
  rw [h12]; rfl
 have hβk : (zav E z1 u).β k=E.β k:=(hbut1 _ hkz1).1
 have hcase : w'.ownsRow 0 t es v m ys∧(∀ b,v.ownBlock=some b→(C.W0.heap.size≤b∨b∈C.X)∧b<w'.heap.size) ∧
   ∀ b,v.ownBlock=some b→(∀ i mm,lk i (rmL k ((z1,ME.own t es n xs)::st.me))=some mm→(zav E z1 u).β i≠some b)∧∀ R∈st.re,b ∉ R.bs:=by
  have hsel : ∀ {i mm},lk i (rmL k ((z1,ME.own t es n xs)::st.me))=some mm→i≠k∧(i=z1∨(i≠z1∧lk i st.me=some mm)):=by
   intro i mm hi
   rw [zom] at hi
   split at hi
   ·cases hi
   ·rename_i e
    rw [zax] at hi
    split at hi
    ·rename_i e'; exact ⟨e,.inl e'⟩
    ·rename_i e'; exact ⟨e,.inr ⟨e',hi⟩⟩
  rcases hv with ⟨hv,hdis⟩ | ⟨rfl,rfl,rfl⟩
  ·obtain ⟨hv0,hvb⟩:=zsg hv
   refine ⟨hv0,fun b hb'=>⟨.inl (Nat.le_trans hm.ext.size (hvb b hb').1),(hvb b hb').2⟩,fun b hb'=>⟨fun i mm hi hib=>?_,fun R hR hbR=>?_⟩⟩
   ·obtain ⟨_,rfl | ⟨e,hi⟩⟩:=hsel hi
    ·exact hdis b ((hβ1 b).1 hib) hb'
    ·rw [(hbut1 _ e).1] at hib
     have:=(hm.ge _ _ _ hi hib).2
     have:=(hvb b hb').1
     omega
   ·have:=((hm.res R hR).2.2 b hbR).1.lt
    have:=(hvb b hb').1
    omega
  ·have hmw:=(hm.world (st:=st) hb)
   have hent:=hmw.ent _ _ hk
   have hown : w'.ownsRow 0 t es ((SV.o (.w k)).real E) m ys:=hent
   rw [hr] at hown
   refine ⟨hown,fun b hb'=>?_,fun b hb'=>?_⟩
   ·rw [←hr,zpM] at hb'
    exact hmw.ge _ _ _ hk hb'
   ·rw [←hr,zpM] at hb'
    refine ⟨fun i mm hi hib=>?_,fun R hR hbR=>((hm.res R hR).2.2 b hbR).2 k _ hk hb'⟩
    obtain ⟨hik,rfl | ⟨e,hi⟩⟩:=hsel hi
    ·have:=(hub b ((hβ1 b).1 hib)).1
     have:=(hm.ge _ _ _ hk hb').2
     omega
    ·rw [(hbut1 _ e).1] at hib
     exact hik (hm.inj _ _ _ _ _ hi hk hib hb')
 have hmo:=(hm1.rm k).own' (d:=z2) hfree hz2N hcase.1 hcase.2.1 hcase.2.2
 obtain ⟨hbut2,hreal2,_⟩:=zc3 (E:=zav E z1 u) (d:=z2) hcase.1
 refine ⟨zav (zav E z1 u) z2 v,{ st with me:=(z2,.own t es m ys)::rmL k ((z1,.own t es n xs)::st.me) },.o (.tu [.w z1,.w z2]),?_,hmo,KD.below hb,fun i sv hi=>⟨sv,hi,?_⟩,hK⟩
 ·have e1 : TP.real (zav (zav E z1 u) z2 v) (.w z2)=v:=hreal2
  have e2 : TP.real (zav (zav E z1 u) z2 v) (.w z1)=u:=by
   have : (SV.o (.w z1)).real (zav (zav E z1 u) z2 v)=(SV.o (.w z1)).real (zav E z1 u):=SV.real_but hbut2 (by
    show Nat.beq z1 z2=false; exact h12)
   exact (show TP.real (zav (zav E z1 u) z2 v) (.w z1)=TP.real (zav E z1 u) (.w z1) from this).trans hreal1
  show _=Ending.returned (Value.tuple #[TP.real _ (.w z1),TP.real _ (.w z2)])
  rw [e1,e2]
 ·rw [SV.real_but hbut2 (SS.has_tm hz2 hi),SV.real_but hbut1 (SS.has_tm hz1 hi)]

theorem zac.w1 {g : FuncId} {t es n t' es' nj k j : Nat} {xs ys xj : List Value} {r : Value} {tl : List Value} {K : SV→SS→Prop} (hkj : k≠j) (hk : lk k st.me=some (.own t es n xs)) (hj : lk j st.me=some (.own t' es' nj xj)) (hn : 0<n)
  (h : ∀ A c,nj≤c→FnW P g (.slice A nj c::tl) [zaf A xj] t n xs ys r) (hlen : ys.length=xs.length) (hK : K (.o (.v r)) { st with me:=setL k (.own t es n ys) st.me }) : zac P C g (.o (.w k)::.o (.w j)::vsv tl) st K:=by
 refine zac.w hk hn (h none nj (Nat.le_refl _)).enters (fun E w hm=>?_) hlen hK
 obtain ⟨A,c,hr,hc,hs⟩:=RdA.own hj E w (fun k mm _ hk=>hm.ent k mm hk) (fun R hR=>(hm.res R hR).2.1)
 refine ⟨.slice A nj c::tl,[zaf A xj],by rw [List.map_cons,List.map_cons,hr,zbd],h A c hc,fun R hR=>by rw [List.mem_singleton.1 hR]; exact hs,fun R hR b hb hβ=>?_⟩
 rw [List.mem_singleton.1 hR] at hb
 have hbj : E.β j=some b:=by
  have hA : A=(E.β j).map fun b=>⟨b,0,none⟩:=by
   have : Value.slice ((E.β j).map fun b=>⟨b,0,none⟩) (E.ω j).1 (E.ω j).2=.slice A nj c:=hr
   injection this with h1 _ _
   exact h1.symm
  cases hβj : E.β j with
  | none=>rw [hA,hβj] at hb; cases xj <;> simp [zaf,SlB] at hb
  | some b' =>
   rw [hA,hβj] at hb
   have hb2 : b∈SlB (some ⟨b',0,none⟩) xj:=hb
   cases xj with
   | nil=>simp [SlB] at hb2
   | cons x r=>simp [SlB] at hb2; rw [hb2]
 exact hkj (hm.inj _ _ _ _ _ hk hj hβ hbj)

theorem WPS.mono {c : Code} {Q Q' : Exit→SS→Prop} (h : WPS P C c st Q) (hq : ∀ e s,Q e s→Q' e s) : WPS P C c st Q' :=
 ⟨fun a w hr=>wpIn_mono (h.wp a w hr) (fun e a' w' ⟨s,h1,h2⟩=>⟨s,h1,hq _ _ h2⟩)⟩
theorem WPS.seq {x y : Code} {Q : Exit→SS→Prop} (h : WPS P C x st (fun e s=>match e with
  | .normal=>WPS P C y s Q
  | e=>Q e s)) : WPS P C (.seq x y) st Q:=⟨fun a w hr=>by
 refine wpIn_seq (wpIn_mono (h.wp a w hr) ?_)
 rintro e a' w' ⟨st',hst,hq⟩
 cases e with
 | normal=>exact hq.wp _ _ hst
 | _=>exact ⟨st',hst,hq⟩⟩
theorem WPS.block {id : Nat} {c : Code} {Q : Exit→SS→Prop} (h : WPS P C c st (fun e s=>match e with
  | .exit j=>bif Nat.beq j id then Q .normal s else Q (.exit j) s
  | e=>Q e s)) : WPS P C (.block id c) st Q:=⟨fun a w hr=>by
 refine wpIn_block (wpIn_mono (h.wp a w hr) ?_)
 rintro e a' w' ⟨st',hst,hq⟩
 cases e with
 | exit j =>
  simp only [Exit.inBlock]
  by_cases hj : j=id
  ·subst hj; rw [if_pos rfl]; simp only [Nat.beq_refl,cond_true] at hq; exact ⟨st',hst,hq⟩
  ·rw [if_neg hj]; simp only [zaA.2 hj,cond_false] at hq; exact ⟨st',hst,hq⟩
 | _=>exact ⟨st',hst,hq⟩⟩
theorem WPS.loop {c : Code} {Q : Exit→SS→Prop} {ι : Type} (I : ι→SS) (J : ι→Prop) (μ : ι→Nat) (i0 : ι) (h0 : J i0) (hi : SLe C st (I i0))
  (hround : ∀ i,J i→WPS P C c (I i) (fun e s=>match e with
   | .normal=>∃ j,J j∧μ j<μ i∧SLe C s (I j)
   | e=>Q e s)) : WPS P C (.loop c) st Q:=⟨fun a w h=>by
 have key : ∀ (m : Nat) (i : ι) (a : Act) (w : World),J i→μ i=m→SR C (I i) a w→∀ (b : Frame) (k : List Item) (cs : List Frame),b.roundOf=(FW none).round→(FW none).fn b.fn→(FW none).room (cs.length+1+0) →
   ∃ e a' w',lift C Q e a' w'∧ArrivesIn (Machine.fenced P (FW none)) P (lone (b.atR a (.code c::.inLoop c::k)) cs w) b k cs e a' w':=by
  intro m
  induction m using Nat.strongRecOn with
  | _ m ih =>
   intro i a w hJ hm hI b k cs hro hb hr
   obtain ⟨e,a₁,w₁,⟨st',hst,hq⟩,harr⟩:=(hround i hJ).wp a w hI b (.inLoop c::k) cs hro hb hr
   cases e with
   | normal =>
    obtain ⟨j,hj,hlt,hle⟩:=hq
    obtain ⟨e₂,a₂,w₂,hq₂,harr₂⟩:=ih (μ j) (hm▸hlt) j a₁ w₁ hj rfl (hle _ _ hst) b k cs hro hb hr
    exact ⟨e₂,a₂,w₂,hq₂,.of_steps (StepsIn.trans harr (.one (fenced_calm hb hr rfl) stepR_inLoop)) harr₂⟩
   | exit id=>exact ⟨_,a₁,w₁,⟨st',hst,hq⟩,.pass (x:=.inLoop c) rfl (fun _ _=>.inl (by simp)) harr⟩
   | goto l=>exact ⟨_,a₁,w₁,⟨st',hst,hq⟩,.pass (x:=.inLoop c) rfl (fun _ _=>.inl (by simp)) harr⟩
   | ret=>exact ⟨_,a₁,w₁,⟨st',hst,hq⟩,.pass (x:=.inLoop c) rfl (fun _ _=>.inl (by simp)) harr⟩
   | panic ch=>exact ⟨_,a₁,w₁,⟨st',hst,hq⟩,.pass (x:=.inLoop c) rfl (fun _ _=>.inl (by simp)) harr⟩
   | outgrown=>exact ⟨_,a₁,w₁,⟨st',hst,hq⟩,.pass (x:=.inLoop c) rfl (fun _ _=>.inl (by simp)) harr⟩
 intro b k cs hro hb hr
 obtain ⟨e,a',w',hq,harr⟩:=key _ i0 a w h0 rfl (hi _ _ h) b k cs hro hb hr
 exact ⟨e,a',w',hq,.of_steps (.one (fenced_calm hb hr rfl) stepR_loop) harr⟩⟩
theorem WPS.cutW {x y : Code} {Q : Exit→SS→Prop} {ι : Type} (M : ι→SS) (J : ι→Prop) (h : WPS P C x st (fun e s=>match e with
  | .normal=>∃ j,J j∧SLe C s (M j)
  | e=>Q e s)) (hy : ∀ j,J j→WPS P C y (M j) Q) : WPS P C (.seq x y) st Q:=WPS.seq (h.mono (fun e s hs=>by
 cases e with
 | normal=>obtain ⟨j,hj,hl⟩:=hs; exact (hy j hj).le hl
 | _=>exact hs))
end
end Go.Sx
end
section
/- A symbolic executor over loaded Go code: iterators: what they yield; loops over them. -/
namespace Go.Sx
open Go Go.RowKit

structure zr4 (B Z Z' : List Nat) (w w' : World) : Prop where
 os : w'.os=w.os
 tape : w'.tape=w.tape
 output : w'.output=w.output
 size : w.heap.size≤w'.heap.size
 block : ∀ k,k<w.heap.size→k ∉ B→k ∉ Z→w'.heap[k]?=w.heap[k]?
 grow : ∀ k∈Z',k∈Z∨w.heap.size≤k
 drawn : w.drawn≤w'.drawn
abbrev zd5 (l : Nat) : Value:=.func (.yield l) #[] #[]
structure Own (B : List Nat) (J : List Nat→World→Prop) : Prop where
 stable : ∀ Z w w',J Z w→(∀ k,k∈B∨k∈Z→w'.heap[k]?=w.heap[k]?)→J Z w'
 kept : ∀ Z w,J Z w→∀ k,k∈B∨k∈Z→IsC w k
def zuo (P : Program) (l : Nat) (W : World) (B : List Nat) (xs : List (List Value)) (J : Nat→List Nat→World→Prop) (Jx : List Nat→World→Prop) : Prop :=
 ∀ i Z w,i<xs.length→J i Z w→Ext B W w→(∀ k∈Z,W.heap.size≤k)→∀ ro m,YieldAt (FW ro) m P l (xs.getD i []).toArray w fun e w' =>
  (e=.returned (.bool true)∧∃ Z',J (i+1) Z' w'∧zr4 B Z Z' w w')∨(e=.returned (.bool false)∧∃ Z',Jx Z' w'∧zr4 B Z Z' w w')
structure SeqC (P : Program) (g : FuncId) (caps : List Value) (re : List Res) (xs : List (List Value)) : Prop where
 enters : Enters P g
 ok : ∀ R∈re,R.ok
 calls : ∀ (l : Nat) (W : World) (B : List Nat) (J : Nat→List Nat→World→Prop) (Jx : List Nat→World→Prop),
  facts re W→(∀ R∈re,∀ b∈R.bs,b ∉ B)→(∀ b∈B,b<W.heap.size)→(∀ i,Own B (J i))→Own B Jx→zuo P l W B xs J Jx→J 0 [] W →
  Calls P g (zd5 l::caps).toArray W fun e w'=>(∃ v,e=.returned v)∧Ext B W w'∧((∃ Z,J xs.length Z w')∨∃ Z,Jx Z w')

section
variable {P : Program} {T : TT}
def JR (W : World) (B : List Nat) (J : List Nat→World→Prop) (Z : List Nat) : Res:=⟨B++Z,fun w=>J Z w∧∀ k∈Z,W.heap.size≤k⟩
theorem JR.ok {W : World} {B : List Nat} {J : List Nat→World→Prop} (h : Own B J) (Z : List Nat) : (JR W B J Z).ok :=
 ⟨fun w w' hj hb=>⟨h.stable Z w w' hj.1 (fun k hk=>hb k (List.mem_append.2 hk)),hj.2⟩,fun w hj b hb=>h.kept Z w hj.1 b (List.mem_append.1 hb)⟩
theorem zf1.next {l N : Nat} {W : World} {B : List Nat} {xs : List (List Value)} {J : Nat→List Nat→World→Prop} {Jx : List Nat→World→Prop} {re : List Res} {st : SS} {K : SV→SS→Prop} {args : List SV} {i : Nat} {Z : List Nat}
  (hr : zuo P l W B xs J Jx) (hJ : ∀ i,Own B (J i)) (hJx : Own B Jx) (hre : ∀ R∈re,R.ok) (hW : facts re W) (hd : ∀ R∈re,∀ b∈R.bs,b ∉ B)
  (hi : i<xs.length) (hst : st.re=JR W B (J i) Z::re) (ha : args=vsv (xs.getD i []))
  (hk1 : ∀ Z',K (.o (.v (.bool true))) { st with re:=JR W B (J (i+1)) Z'::re }) (hk2 : ∀ Z',K (.o (.v (.bool false))) { st with re:=JR W B Jx Z'::re }) : zf1 P ⟨W,B,N⟩ l args st K:=by
 refine ⟨fun E w hm ro m=>?_⟩
 have hj:=hm.res _ (by rw [hst]; exact List.mem_cons_self ..)
 obtain ⟨hj1,hj2⟩:=hj.2.1
 have hnot : ∀ b,b∈B∨b∈Z→∀ k mm,lk k st.me=some mm→E.β k≠some b:=fun b hb=>(hj.2.2 b (List.mem_append.2 hb)).2
 have hy:=hr i Z w hi hj1 hm.ext hj2 ro m
 rw [ha,zbd]
 obtain ⟨fn,tmps,assign,body,h1,h2⟩:=hy
 refine ⟨fn,tmps,assign,body,h1,h2.mono ?_⟩
 have key : ∀ (J' : List Nat→World→Prop) (hO : Own B J') (Z' : List Nat) (w' : World),J' Z' w'→zr4 B Z Z' w w'→zaT ⟨W,B,N⟩ E st.me (JR W B J' Z'::re) w'∧KD w w':=by
  intro J' hO Z' w' hj' hmv
  have hblk : ∀ b,b<w.heap.size→(¬(b∈B∨b∈Z))→w'.heap[b]?=w.heap[b]?:=fun b hb hn=>hmv.block b hb (fun h=>hn (.inl h)) (fun h=>hn (.inr h))
  have hme : ∀ k mm b,lk k st.me=some mm→E.β k=some b→w'.heap[b]?=w.heap[b]?:=fun k mm b hk hb=>hblk b (hm.ge k mm b hk hb).2 (fun h=>hnot b h k mm hk hb)
  refine ⟨⟨fun k mm hk=>(hm.ent k mm hk).of_block (fun b hb=>hme k mm b hk hb),fun k mm b hk hb=>⟨(hm.ge k mm b hk hb).1,Nat.lt_of_lt_of_le (hm.ge k mm b hk hb).2 hmv.size⟩,hm.inj,fun R hR=>?_,?_,hm.rig⟩,fun b hb=>?_⟩
  ·rcases List.mem_cons.1 hR with rfl | hR
   ·have hge : ∀ k∈Z',W.heap.size≤k:=fun k hk=>by
     rcases hmv.grow k hk with h | h
     ·exact hj2 k h
     ·exact Nat.le_trans hm.ext.size h
    refine ⟨(JR.ok hO Z').1,⟨hj',hge⟩,fun b hb=>⟨hO.kept Z' w' hj' b (List.mem_append.1 hb),fun k mm hk hkb=>?_⟩⟩
    rcases List.mem_append.1 hb with hb | hb
    ·exact hnot b (.inl hb) k mm hk hkb
    ·rcases hmv.grow b hb with h | h
     ·exact hnot b (.inr h) k mm hk hkb
     ·have:=(hm.ge k mm b hk hkb).2; omega
   ·have hRm : R∈st.re:=by rw [hst]; exact List.mem_cons_of_mem _ hR
    obtain ⟨r1,r2,r3⟩:=hm.res R hRm
    have hne : ∀ b∈R.bs,w'.heap[b]?=w.heap[b]?:=fun b hb=>hblk b (r3 b hb).1.lt (fun h=>by
     rcases h with h | h
     ·exact hd R hR b hb h
     ·have h5:=((hre R hR).2 W (hW R hR) b hb).lt
      have:=hj2 b h
      omega)
    exact ⟨r1,r1 _ _ r2 hne,fun b hb=>⟨(r3 b hb).1.keep (hne b hb),(r3 b hb).2⟩⟩
  ·have hx:=hm.ext
   refine ⟨hmv.os.trans hx.os,hmv.tape.trans hx.tape,hmv.output.trans hx.output,Nat.le_trans hx.size hmv.size,fun k hk hn=>?_,Nat.le_trans hx.drawn hmv.drawn⟩
   refine (hblk k (Nat.lt_of_lt_of_le hk hx.size) (fun h=>?_)).trans (hx.block k hk hn)
   rcases h with h | h
   ·exact hn h
   ·have h6:=hj2 k h
    have h7 : k<W.heap.size:=hk
    omega
  ·refine (hblk b (Array.getElem?_eq_some_iff.1 hb).1 (fun h=>?_)).trans hb
   obtain ⟨o,h3,h4⟩:=(hj.2.2 b (List.mem_append.2 h)).1
   rw [hb] at h3; cases h3; cases h4
 rintro e w' (⟨rfl,Z',hj',hmv⟩ | ⟨rfl,Z',hj',hmv⟩)
 ·obtain ⟨a1,a2⟩:=key _ (hJ (i+1)) Z' w' hj' hmv
  exact ⟨E,{ st with re:=JR W B (J (i+1)) Z'::re },.o (.v (.bool true)),rfl,a1,a2,fun i sv hi=>⟨sv,hi,rfl⟩,hk1 Z'⟩
 ·obtain ⟨a1,a2⟩:=key _ hJx Z' w' hj' hmv
  exact ⟨E,{ st with re:=JR W B Jx Z'::re },.o (.v (.bool false)),rfl,a1,a2,fun i sv hi=>⟨sv,hi,rfl⟩,hk2 Z'⟩
theorem SeqC.of (hT : zaQ P T) (hmix : P.follows .mixedOrders=true) {f : FuncId} {fn : Func} {c : Code} {caps : List Value} {re : List Res} {xs : List (List Value)}
  (hf : P.funcs[f]? = some fn) (hb : fn.body = some c) (hnm : (fn.name == "runtime.NumGoroutine") = false) (hn : caps.length + 1 ≤ fn.ntmps) (hok : ∀ R ∈ re, R.ok)
  (hs : ∀ (l : Nat) (W : World) (B : List Nat) (R : Nat→List Nat→Res) (X : List Nat→Res),facts re W →
   (∀ i Z st K args,i<xs.length→st.re=R i Z::re→args=vsv (xs.getD i [])→(∀ Z',K (.o (.v (.bool true))) { st with re:=R (i+1) Z'::re })→(∀ Z',K (.o (.v (.bool false))) { st with re:=X Z'::re })→zf1 P ⟨W,B,fn.ntmps⟩ l args st K) →
   WPS P ⟨W,B,fn.ntmps⟩ c ⟨zeS 0 (vsv (zd5 l::caps)),[],R 0 []::re⟩ (retQ T fn (fun _ st=>(∃ Z,R xs.length Z∈st.re)∨∃ Z,X Z∈st.re))) : SeqC P f caps re xs:=by
 refine ⟨zeR hf hnm (by rw [hb]; rfl),hok,fun l W B J Jx hW hd hB hJ hJx hr h0=>?_⟩
 have E0 : Env:=⟨fun _=>none,fun _=>(0,0)⟩
 have hlen : ∀ l : List Value,(vsv l).length=l.length:=fun l=>by induction l with | nil=>rfl | cons x r ih=>simp [vsv,ih]
 have hmem : zaT ⟨W,B,fn.ntmps⟩ E0 [] (JR W B (J 0) []::re) W:=by
  refine ⟨fun k m hk=>by simp [lk] at hk,fun k m b hk=>by simp [lk] at hk,fun k k' m m' b hk=>by simp [lk] at hk,fun R hR=>?_,Ext.refl _ _,fun j b m hX hj=>by simp [lk] at hj⟩
  rcases List.mem_cons.1 hR with rfl | hR
  ·have hφ : (JR W B (J 0) []).φ W:=⟨h0,fun k hk=>by cases hk⟩
   exact ⟨(JR.ok (hJ 0) []).1,hφ,fun b hb=>⟨(JR.ok (W:=W) (hJ 0) []).2 W hφ b hb,fun k m hk=>by simp [lk] at hk⟩⟩
  ·exact ⟨(hok R hR).1,hW R hR,fun b hb=>⟨(hok R hR).2 W (hW R hR) b hb,fun k m hk=>by simp [lk] at hk⟩⟩
 have:=zcc (T:=T) hT hmix (E:=E0) (args:=vsv (zd5 l::caps)) hf hb (by rw [hlen]; exact hn) hmem
  (hs l W B (fun i Z=>JR W B (J i) Z) (fun Z=>JR W B Jx Z) hW (fun i Z st K args hi hst ha hk1 hk2=>zf1.next hr hJ hJx hok hW hd hi hst ha hk1 hk2))
  (R:=fun e w'=>(∃ v,e=.returned v)∧Ext B W w'∧((∃ Z,J xs.length Z w')∨∃ Z,Jx Z w'))
  (fun l st E' w' hp hm=>⟨⟨_,rfl⟩,hm.ext,by
   rcases hp with ⟨Z,hZ⟩ | ⟨Z,hZ⟩
   ·exact .inl ⟨Z,(hm.res _ hZ).2.1.1⟩
   ·exact .inr ⟨Z,(hm.res _ hZ).2.1.1⟩⟩)
 rw [zbd] at this
 exact this
end
end Go.Sx
end
section
/- A symbolic executor over loaded Go code: loops over iterators. -/
namespace Go.Sx
open Go Go.RowKit

def ME.boxy : ME→Bool
 | .own _ _ _ _=>false
 | _=>true
def zuF (N m : Nat) : SV→Bool
 | .o (.v _)=>true
 | .o (.p k _)=>Nat.ble N k&&Nat.blt k (N+m)
 | .o (.s k _ _ _)=>Nat.ble N k&&Nat.blt k (N+m)
 | _=>false
def zqU (N m : Nat) (l : List (Nat×ME)) : Bool:=((List.range m).all fun q=>match lk (N+q) l with
 | some mm=>mm.boxy
 | none=>false)&&l.all (fun e=>Nat.blt e.1 (N+m))
def zBA (N : Nat) (l : List (Nat×ME)) : Bool:=l.all fun e=>Nat.ble N e.1
def zmC : List Tmp→List Value→List (Nat×SV)→List (Nat×SV)
 | t::ps,v::vs,tm=>zmC ps vs ((t,.o (.v v))::tm)
 | _,_,tm=>tm
theorem zvC {E : Env} : ∀ (ps : List Tmp) (vs : List Value) (tm : List (Nat×SV)) (tmps : Array Value),(∀ t∈ps,t<tmps.size)→(∀ i sv,lk i tm=some sv→tmps[i]?=some (sv.real E)) →
  ∀ i sv,lk i (zmC ps vs tm)=some sv→((ps.zip vs).foldl (fun a (e : Tmp×Value)=>a.setIfInBounds e.1 e.2) tmps)[i]?=some (sv.real E)
 | [],vs,tm,tmps,_,h=>by simpa [zmC] using h
 | t::ps,[],tm,tmps,_,h=>by simpa [zmC] using h
 | t::ps,v::vs,tm,tmps,hps,h=>by
  simp only [zmC,List.zip_cons_cons,List.foldl_cons]
  refine zvC ps vs _ _ (fun s hs=>by rw [Array.size_setIfInBounds]; exact hps s (List.mem_cons_of_mem _ hs)) (fun i sv hi=>?_)
  rw [zax] at hi
  split at hi
  ·rename_i e; subst e; cases hi
   rw [Array.getElem?_setIfInBounds_self_of_lt (hps _ (List.mem_cons_self ..))]; rfl
  ·rename_i e
   rw [Array.getElem?_setIfInBounds_ne (fun h2=>e h2.symm)]; exact h i sv hi
theorem zrR : ∀ (l : List (Tmp×Value)) (tmps : Array Value),(l.foldl (fun a (e : Tmp×Value)=>a.setIfInBounds e.1 e.2) tmps).size=tmps.size
 | [],_=>rfl
 | e::l,tmps=>by rw [List.foldl_cons,zrR l,Array.size_setIfInBounds]
theorem MEok.cells {E : Env} {w : World} {k b : Nat} {m : ME} (h : MEok E w k m) (hb : E.β k=some b) : ∃ cs t fr,w.heap[b]?=some (Obj.cells cs t fr):=by
 cases m with
 | box cs t=>obtain ⟨b',h1,h2⟩:=h; rw [hb] at h1; cases h1; exact ⟨_,_,_,h2⟩
 | sym cs t=>obtain ⟨b',h1,h2⟩:=h; rw [hb] at h1; cases h1; exact ⟨_,_,_,h2⟩
 | own t es n xs =>
  obtain ⟨_,_,⟨h1,_⟩ | ⟨b',cur,h1,h2,_⟩⟩:=zbz h
  ·rw [hb] at h1; cases h1
  ·rw [hb] at h1; cases h1; exact ⟨_,_,_,h2⟩
theorem MEok.block {E : Env} {w : World} {k : Nat} {m : ME} (h : MEok E w k m) (hm : m.boxy=true) : ∃ b,E.β k=some b:=by
 cases m with
 | box cs t=>obtain ⟨b,h1,_⟩:=h; exact ⟨b,h1⟩
 | sym cs t=>obtain ⟨b,h1,_⟩:=h; exact ⟨b,h1⟩
 | own _ _ _ _=>cases hm
theorem znB {N m : Nat} {l : List (Nat×ME)} (h : zqU N m l=true) {q : Nat} (hq : q<m) : ∃ mm,lk (N+q) l=some mm∧mm.boxy=true:=by
 unfold zqU at h
 rw [Bool.and_eq_true,List.all_eq_true] at h
 have:=h.1 q (List.mem_range.2 hq)
 cases hl : lk (N+q) l with
 | none=>rw [hl] at this; cases this
 | some mm=>rw [hl] at this; exact ⟨mm,rfl,this⟩
theorem zuG {N m : Nat} {l : List (Nat×ME)} (h : zqU N m l=true) {k : Nat} {mm : ME} (hk : lk k l=some mm) : k<N+m:=by
 unfold zqU at h
 rw [Bool.and_eq_true] at h
 have:=(List.all_eq_true.1 h.2) _ (zjb hk)
 exact Nat.le_of_ble_eq_true this

section
variable {P : Program} {T : TT}
structure Inv (N m : Nat) (bs : List Nat) (base : Nat) (E : Env) (me : List (Nat×ME)) (Z : List Nat) (w : World) : Prop where
 keys : zqU N m me=true
 ent : ∀ k mm,lk k me=some mm→MEok E w k mm
 inj : ∀ k k' mm mm' b,lk k me=some mm→lk k' me=some mm'→E.β k=some b→E.β k'=some b→k=k'
 rig : ∀ q b,bs[q]?=some b→E.β (N+q)=some b
 foot : ∀ k mm b,lk k me=some mm→E.β k=some b→b∈bs∨b∈Z
 kept : ∀ k∈Z,IsC w k
 ge : ∀ k∈Z,base≤k
theorem Inv.of_block {N m base : Nat} {bs : List Nat} {E : Env} {me : List (Nat×ME)} {Z : List Nat} {w w' : World} (h : Inv N m bs base E me Z w) (hb : ∀ k,k∈bs∨k∈Z→w'.heap[k]?=w.heap[k]?) : Inv N m bs base E me Z w' :=
 ⟨h.keys,fun k mm hk=>(h.ent k mm hk).of_block (fun b hβ=>hb b (h.foot k mm b hk hβ)),h.inj,h.rig,h.foot,fun k hk=>(h.kept k hk).keep (hb k (.inr hk)),h.ge⟩
theorem Inv.bsC {N m base : Nat} {bs : List Nat} {E : Env} {me : List (Nat×ME)} {Z : List Nat} {w : World} (h : Inv N m bs base E me Z w) (hm : bs.length=m) {b : Nat} (hb : b∈bs) : IsC w b:=by
 obtain ⟨q,hq,hqb⟩:=List.getElem_of_mem hb
 obtain ⟨mm,h1,h2⟩:=znB h.keys (show q<m by omega)
 obtain ⟨cs,t,fr,h3⟩:=(h.ent _ _ h1).cells (h.rig q b (by rw [List.getElem?_eq_getElem hq,hqb]))
 exact IsC.cells h3
theorem zpQ {N m : Nat} {E E' : Env} (h : ∀ q,q<m→E.β (N+q)=E'.β (N+q)) {sv : SV} (hs : zuF N m sv=true) : sv.real E=sv.real E':=by
 have hk : ∀ k,(Nat.ble N k&&Nat.blt k (N+m))=true→E.β k=E'.β k:=by
  intro k hk
  rw [Bool.and_eq_true] at hk
  have h1:=Nat.le_of_ble_eq_true hk.1
  have h2 : k<N+m:=Nat.le_of_ble_eq_true hk.2
  have:=h (k-N) (by omega)
  rwa [show N+(k-N)=k by omega] at this
 cases sv with
 | a _=>cases hs
 | o x =>
  cases x with
  | v _=>rfl
  | p k off=>simp only [SV.real,AV.real,hk k hs]
  | s k off n c=>simp only [SV.real,AV.real,hk k hs]
  | clo _ _=>cases hs
  | w _=>cases hs
  | tu _=>cases hs
theorem zaT.turn {C : Cx} {E : Env} {me : List (Nat×ME)} {re : List Res} {w : World} {l : Nat} {o o' : Obj} {Ra Rb : Res} (h : zaT C E me (Ra::re) w) (hRa : l∈Ra.bs) (hl : w.heap[l]?=some o) (hX : l∈C.X)
  (hre : ∀ R∈re,l ∉ R.bs) (hRb : Rb.bs=[l]) (hst : Rb.stable) (hφ : Rb.φ (w.putObj l o')) (ho : zwg o'=true) : zaT C E me (Rb::re) (w.putObj l o'):=by
 have hlt : l<w.heap.size:=(Array.getElem?_eq_some_iff.1 hl).1
 have hnl : ∀ k mm,lk k me=some mm→E.β k≠some l:=((h.res _ (List.mem_cons_self ..)).2.2 l hRa).2
 have hoth : ∀ b,b≠l→(w.putObj l o').heap[b]?=w.heap[b]?:=fun b hb=>World.putObj_heap_other hb
 refine ⟨fun k mm hk=>(h.ent k mm hk).of_block (fun b hb=>hoth b (fun e=>hnl k mm hk (by rw [←e]; exact hb))),fun k mm b hk hb=>⟨(h.ge k mm b hk hb).1,by rw [World.putObj_size]; exact (h.ge k mm b hk hb).2⟩,h.inj,fun R hR=>?_,?_,h.rig⟩
 ·rcases List.mem_cons.1 hR with rfl | hR
  ·refine ⟨hst,hφ,fun b hb=>?_⟩
   rw [hRb,List.mem_singleton] at hb
   subst hb
   exact ⟨⟨o',World.putObj_heap_same hlt,ho⟩,hnl⟩
  ·obtain ⟨r1,r2,r3⟩:=h.res R (List.mem_cons_of_mem _ hR)
   have hne : ∀ b∈R.bs,(w.putObj l o').heap[b]?=w.heap[b]?:=fun b hb=>hoth b (fun e=>hre R hR (by rw [←e]; exact hb))
   exact ⟨r1,r1 _ _ r2 hne,fun b hb=>⟨(r3 b hb).1.keep (hne b hb),(r3 b hb).2⟩⟩
 ·have hx:=h.ext
  exact ⟨hx.os,hx.tape,hx.output,by rw [World.putObj_size]; exact hx.size,fun k hk hn=>(hoth k (fun e=>hn (by rw [e]; exact hX))).trans (hx.block k hk hn),hx.drawn⟩
def imgs (E : Env) (bs : List Nat) (me : List (Nat×ME)) : List Nat:=(me.filterMap fun e=>E.β e.1).filter fun b=>!(bs.contains b)
theorem zuE {E : Env} {bs : List Nat} {me : List (Nat×ME)} {b : Nat} (h : b∈imgs E bs me) : b ∉ bs∧∃ k mm,(k,mm)∈me∧E.β k=some b:=by
 unfold imgs at h
 obtain ⟨h1,h2⟩:=List.mem_filter.1 h
 obtain ⟨e,he,hb⟩:=List.mem_filterMap.1 h1
 exact ⟨by simpa using h2,e.1,e.2,he,hb⟩
theorem zAg {E : Env} {bs : List Nat} {me : List (Nat×ME)} {b k : Nat} {mm : ME} (hk : lk k me=some mm) (hb : E.β k=some b) : b∈bs∨b∈imgs E bs me:=by
 by_cases h : b∈bs
 ·exact .inl h
 ·exact .inr (List.mem_filter.2 ⟨List.mem_filterMap.2 ⟨_,zjb hk,hb⟩,by simpa using h⟩)
def zs0 : List (Nat×ME)→Bool
 | []=>true
 | e::r=>!(r.any fun f=>Nat.beq f.1 e.1)&&zs0 r
theorem zqV : ∀ {me : List (Nat×ME)} {k : Nat} {mm : ME},zs0 me=true→(k,mm)∈me→lk k me=some mm
 | [],k,mm,_,h=>by cases h
 | (j,x)::r,k,mm,ho,h=>by
  simp only [zs0,Bool.and_eq_true] at ho
  rw [zax]
  rcases List.mem_cons.1 h with h | h
  ·cases h; rw [if_pos rfl]
  ·by_cases e : k=j
   ·exfalso
    have h1:=ho.1
    rw [Bool.not_eq_true'] at h1
    have:=(List.any_eq_false.1 h1) _ h
    simp [e] at this
   ·rw [if_neg e]; exact zqV ho.2 h

def zx0 (fn : FuncId) (tmps : Array Value) (ps : Array Tmp) (assign body : Code) (D : Nat) (s : LoopState) (p : Option Code) : Loop:={ state:=s,pending:=p,fn,tmps,params:=ps,assign,body,defers:=D }
def recR (l : Nat) (r : Loop) : Res:=⟨[l],fun w=>w.heap[l]?=some (.loop r)⟩
theorem znX (l : Nat) (r : Loop) : (recR l r).stable:=fun w w' h hb=>(hb l (List.mem_singleton.2 rfl)).trans h
def zBb : Code→Option Exit
 | .ret=>some .ret
 | .exit id=>some (.exit id)
 | _=>none
theorem WPS.range (hT : zaQ P T) (hmix : P.follows .mixedOrders=true) {C : Cx} (hX : C.X=[]) {g : Operand} {ps : Array Tmp} {assign body : Code} {st : SS} {Q : Exit→SS→Prop}
  {gf : FuncId} {caps : List Value} {re' : List Res} {xs : List (List Value)} (hg : ev st g=some (.o (.v (.func (.func gf) #[] ⟨caps⟩)))) (hseq : SeqC P gf caps re' xs) (hre : ∀ R∈re',R∈st.re)
  (m : Nat) (tm0 : List (Nat×SV)) {ι : Type} (M : Nat→ι→List (Nat×ME)) (Jv : Nat→ι→Prop) (j0 : ι) (hj0 : Jv 0 j0) (hle : SLe C st ⟨tm0,M 0 j0,st.re⟩)
  (hfirst : zBA C.N (M 0 j0)=true) (hkeys : ∀ i j,Jv i j→zqU C.N m (M i j)=true∧zs0 (M i j)=true) (hrig : (tm0.all fun e=>zuF C.N m e.2)=true)
  (hps : ∀ x∈xs,x.length=ps.size) (hpN : (ps.toList.all fun t=>Nat.blt t C.N)=true)
  (hround : ∀ (W1 : World) (X : List Nat) (i : Nat) (j : ι) (Rx : Res),i<xs.length→Jv i j →
   zc9 P T ⟨W1,X,C.N⟩ assign ⟨zmC ps.toList (xs.getD i []) tm0,M i j,Rx::st.re⟩ (fun e s1=>match e with
    | .normal=>s1.re=Rx::st.re∧∀ Ry : Res,zc9 P T ⟨W1,X,C.N⟩ body { s1 with re:=Ry::st.re } (fun e s=>match e with
     | .normal=>∃ j',Jv (i+1) j'∧SLe ⟨W1,X,C.N⟩ s ⟨[],M (i+1) j',Ry::st.re⟩
     | .ret=>∃ mx,zqU C.N m mx=true∧zs0 mx=true∧SLe ⟨W1,X,C.N⟩ s ⟨[],mx,Ry::st.re⟩∧Q .ret ⟨tm0,mx,st.re⟩
     | .exit id=>∃ mx,zqU C.N m mx=true∧zs0 mx=true∧SLe ⟨W1,X,C.N⟩ s ⟨[],mx,Ry::st.re⟩∧Q (.exit id) ⟨tm0,mx,st.re⟩
     | _=>False)
    | _=>False))
  (hdone : ∀ j,Jv xs.length j→Q .normal ⟨tm0,M xs.length j,st.re⟩) : WPS P C (.rangeFunc g ps assign body) st Q:=by
 refine ⟨fun a w hr=>?_⟩
 have hev : a.eval g=.func (.func gf) #[] ⟨caps⟩:=by obtain ⟨E,hE⟩:=hr; exact zaH hE hg
 obtain ⟨E,hE⟩:=hle a w hr
 have hm:=hE.mem
 obtain ⟨bs,hbsd⟩ : ∃ bs : List Nat,bs=(List.range m).map (fun q=>(E.β (C.N+q)).getD 0):=⟨_,rfl⟩
 have hbl : bs.length=m:=by rw [hbsd]; simp
 have hbeta : ∀ q,q<m→∃ b,E.β (C.N+q)=some b∧bs[q]?=some b:=by
  intro q hq
  obtain ⟨mm,h1,h2⟩:=znB (hkeys 0 j0 hj0).1 hq
  obtain ⟨b,hb⟩:=(hm.ent _ _ h1).block h2
  exact ⟨b,hb,by rw [hbsd]; simp [hq,hb]⟩
 have hbs : ∀ q b,bs[q]?=some b→E.β (C.N+q)=some b:=by
  intro q b hb
  have hq : q<m:=by rw [←hbl]; exact (List.getElem?_eq_some_iff.1 hb).1
  obtain ⟨b',h1,h2⟩:=hbeta q hq
  rw [hb] at h2; cases h2; exact h1
 have hbsin : ∀ b∈bs,∃ q mm,q<m∧lk (C.N+q) (M 0 j0)=some mm∧E.β (C.N+q)=some b:=by
  intro b hb
  obtain ⟨q,hq,hqb⟩:=List.getElem_of_mem hb
  obtain ⟨mm,h1,_⟩:=znB (hkeys 0 j0 hj0).1 (show q<m by omega)
  exact ⟨q,mm,by omega,h1,hbs q b (by rw [List.getElem?_eq_getElem hq,hqb])⟩
 have hbslt : ∀ b∈bs,C.W0.heap.size≤b∧b<w.heap.size:=by
  intro b hb
  obtain ⟨q,mm,_,h1,h2⟩:=hbsin b hb
  have:=hm.ge _ _ _ h1 h2
  rw [hX] at this
  refine ⟨?_,this.2⟩
  rcases this.1 with h | h
  ·exact h
  ·cases h
 have hbsC : ∀ b∈bs,IsC w b:=by
  intro b hb
  obtain ⟨q,mm,_,h1,h2⟩:=hbsin b hb
  obtain ⟨cs,t,fr,h3⟩:=(hm.ent _ _ h1).cells h2
  exact IsC.cells h3
 have hresbs : ∀ R∈st.re,∀ b∈R.bs,b ∉ bs:=by
  intro R hR b hb hbb
  obtain ⟨q,mm,_,h1,h2⟩:=hbsin b hbb
  exact ((hm.res R hR).2.2 b hb).2 _ _ h1 h2
 refine wpIn_rangeFunc ?_
 intro fn hfn
 obtain ⟨D,hD⟩ : ∃ D,D=w.heap.size:=⟨_,rfl⟩
 obtain ⟨l,hl⟩ : ∃ l,l=w.heap.size+1:=⟨_,rfl⟩
 obtain ⟨rc,hrc⟩ : ∃ rc,rc=zx0 fn a.tmps ps assign body D:=⟨_,rfl⟩
 obtain ⟨W,hW⟩ : ∃ W,W=(w.alloc (.deferred (some []))).alloc (.loop (rc .ready none)):=⟨_,rfl⟩
 have hWsize : W.heap.size=w.heap.size+2:=by rw [hW]; simp
 have hWl : W.heap[l]?=some (.loop (rc .ready none)):=by
  rw [hW,hl]; have:=World.alloc_heap_new (w.alloc (.deferred (some []))) (.loop (rc .ready none)); rwa [World.size_alloc] at this
 have hWD : W.heap[D]?=some (.deferred (some [])):=by
  rw [hW,hD]; exact (Below.heap_alloc _ _ _ (by simp)).trans (World.alloc_heap_new w _)
 have hWold : ∀ b,b<w.heap.size→W.heap[b]?=w.heap[b]?:=fun b hb=>by
  rw [hW]; exact (Below.heap_alloc _ _ _ (by simp; omega)).trans (Below.heap_alloc _ _ _ hb)
 have hWd : W.drawn=w.drawn:=by rw [hW]; rfl
 have hWx : W.os=w.os∧W.tape=w.tape∧W.output=w.output:=by rw [hW]; exact ⟨rfl,rfl,rfl⟩
 obtain ⟨B,hB⟩ : ∃ B,B=bs++[l]:=⟨_,rfl⟩
 have hBin : ∀ b,b∈B↔b∈bs∨b=l:=fun b=>by rw [hB]; simp
 have hreW : facts st.re W:=fun R hR=>by
  obtain ⟨r1,r2,r3⟩:=hm.res R hR
  exact r1 _ _ r2 (fun b hb=>hWold b (r3 b hb).1.lt)
 have hreB : ∀ R∈st.re,∀ b∈R.bs,b ∉ B∧b<w.heap.size:=fun R hR b hb=>by
  have h1:=((hm.res R hR).2.2 b hb).1.lt
  refine ⟨fun h=>?_,h1⟩
  rcases (hBin b).1 h with h | h
  ·exact hresbs R hR b hb h
  ·omega
 obtain ⟨J,hJ⟩ : ∃ J : Nat→List Nat→World→Prop,J=fun i Z w'=>∃ j E',Jv i j∧Inv C.N m bs W.heap.size E' (M i j) Z w'∧w'.heap[l]?=some (.loop (rc .ready none)):=⟨_,rfl⟩
 obtain ⟨Jx,hJx⟩ : ∃ Jx : List Nat→World→Prop,Jx=fun Z w'=>∃ c e mx E',zBb c=some e∧Q e ⟨tm0,mx,st.re⟩∧Inv C.N m bs W.heap.size E' mx Z w'∧w'.heap[l]?=some (.loop (rc .done (some c))):=⟨_,rfl⟩
 have hOJ : ∀ i,Own B (J i):=by
  intro i
  rw [hJ]
  refine ⟨fun Z w1 w2 h hb=>?_,fun Z w1 h k hk=>?_⟩
  ·obtain ⟨j,E',h1,h2,h3⟩:=h
   exact ⟨j,E',h1,h2.of_block (fun k hk=>hb k (hk.imp (fun h=>(hBin k).2 (.inl h)) id)),(hb l (.inl ((hBin l).2 (.inr rfl)))).trans h3⟩
  ·obtain ⟨j,E',h1,h2,h3⟩:=h
   rcases hk with hk | hk
   ·rcases (hBin k).1 hk with hk | rfl
    ·exact h2.bsC hbl hk
    ·exact ⟨_,h3,rfl⟩
   ·exact h2.kept k hk
 have hOX : Own B Jx:=by
  rw [hJx]
  refine ⟨fun Z w1 w2 h hb=>?_,fun Z w1 h k hk=>?_⟩
  ·obtain ⟨c,e,mx,E',h0,h1,h2,h3⟩:=h
   exact ⟨c,e,mx,E',h0,h1,h2.of_block (fun k hk=>hb k (hk.imp (fun h=>(hBin k).2 (.inl h)) id)),(hb l (.inl ((hBin l).2 (.inr rfl)))).trans h3⟩
  ·obtain ⟨c,e,mx,E',h0,h1,h2,h3⟩:=h
   rcases hk with hk | hk
   ·rcases (hBin k).1 hk with hk | rfl
    ·exact h2.bsC hbl hk
    ·exact ⟨_,h3,rfl⟩
   ·exact h2.kept k hk
 have hJ0 : J 0 [] W:=by
  rw [hJ]
  refine ⟨j0,E,hj0,⟨(hkeys 0 j0 hj0).1,fun k mm hk=>(hm.ent k mm hk).of_block (fun b hb=>hWold b (hm.ge k mm b hk hb).2),hm.inj,hbs,fun k mm b hk hb=>.inl ?_,fun k hk=>(by cases hk),fun k hk=>(by cases hk)⟩,hWl⟩
  have h1:=zuG (hkeys 0 j0 hj0).1 hk
  have h2 : C.N≤k:=Nat.le_of_ble_eq_true ((List.all_eq_true.1 hfirst) _ (zjb hk))
  obtain ⟨b',h3,h4⟩:=hbeta (k-C.N) (by omega)
  rw [show C.N+(k-C.N)=k by omega,hb] at h3
  cases h3
  exact List.mem_of_getElem? h4
 have hinvnl : ∀ {E' : Env} {me : List (Nat×ME)} {Z : List Nat} {w1 : World} {r : Loop},Inv C.N m bs W.heap.size E' me Z w1→w1.heap[l]?=some (.loop r)→(∀ k mm,lk k me=some mm→E'.β k≠some l)∧l ∉ bs:=by
  intro E' me Z w1 r h1 h2
  refine ⟨fun k mm hk hb=>?_,fun h=>by have:=(hbslt l h).2; omega⟩
  obtain ⟨cs,t,fr,h3⟩:=(h1.ent k mm hk).cells hb
  rw [h2] at h3; cases h3
 have hN : a.tmps.size=C.N:=hE.size
 have hR : zuo P l W B xs J Jx:=by
  intro i Z w1 hi hj hext hZ ro m'
  rw [hJ] at hj
  obtain ⟨j,E',hjv,hinv,hrec⟩:=hj
  obtain ⟨hnl,hlbs⟩:=hinvnl hinv hrec
  have hxmem : xs.getD i []∈xs:=by
   rw [List.getD_eq_getElem?_getD,List.getElem?_eq_getElem hi]; exact List.getElem_mem hi
  have hxl : (xs.getD i []).length=ps.size:=hps _ hxmem
  have hy:=run_yield (P:=P) (w:=w1) (args:=(xs.getD i []).toArray) hrec (by rw [hrc]; simpa [zx0] using hxl)
  obtain ⟨bz,hbz⟩ : ∃ bz : Loop,bz={ rc .ready none with state:=.busy }:=⟨_,rfl⟩
  obtain ⟨Xs,hXs⟩ : ∃ Xs,Xs=bs++(l::Z):=⟨_,rfl⟩
  have hXin : ∀ b,b∈Xs↔b∈bs∨b=l∨b∈Z:=fun b=>by rw [hXs]; simp
  have hw1l : l<w1.heap.size:=(Array.getElem?_eq_some_iff.1 hrec).1
  have hlZ : l ∉ Z:=fun h=>by have:=hZ l h; omega
  have hreal : ∀ q,q<m→E'.β (C.N+q)=E.β (C.N+q):=fun q hq=>by
   obtain ⟨b,h1,h2⟩:=hbeta q hq
   rw [h1,hinv.rig q b h2]
  have leave : ∀ (mx : List (Nat×ME)) (a2 : Act) (w4 : World) (o : Loop),zqU C.N m mx=true→zs0 mx=true→SR ⟨w1,Xs,C.N⟩ ⟨[],mx,recR l bz::st.re⟩ a2 w4 →
    ∃ E2,Inv C.N m bs W.heap.size E2 mx (imgs E2 bs mx) (w4.putObj l (.loop o))∧zr4 B Z (imgs E2 bs mx) w1 (w4.putObj l (.loop o))∧w4.heap[l]?=some (.loop bz)∧(w4.putObj l (.loop o)).heap[l]?=some (.loop o):=by
   intro mx a2 w4 o hk1 hk2 hsr
   obtain ⟨E2,hE2⟩:=hsr
   have hm2:=hE2.mem
   have hr4:=hm2.res _ (List.mem_cons_self ..)
   have hl4 : w4.heap[l]?=some (.loop bz):=hr4.2.1
   have hnl4 : ∀ k mm,lk k mx=some mm→E2.β k≠some l:=(hr4.2.2 l (List.mem_singleton.2 rfl)).2
   have hoth : ∀ b,b≠l→(w4.putObj l (.loop o)).heap[b]?=w4.heap[b]?:=fun b hb=>World.putObj_heap_other hb
   have hlt4 : l<w4.heap.size:=(Array.getElem?_eq_some_iff.1 hl4).1
   have hent : ∀ k mm,lk k mx=some mm→MEok E2 (w4.putObj l (.loop o)) k mm:=fun k mm hk=>(hm2.ent k mm hk).of_block (fun b hb=>hoth b (fun e=>hnl4 k mm hk (by rw [←e]; exact hb)))
   have hgr : ∀ k∈imgs E2 bs mx,k∈Z∨w1.heap.size≤k:=by
    intro k hk
    obtain ⟨h1,kk,mm,h2,h3⟩:=zuE hk
    have hlk:=zqV hk2 h2
    have:=(hm2.ge kk mm k hlk h3).1
    rcases this with h4 | h4
    ·exact .inr h4
    ·rcases (hXin k).1 h4 with h5 | h5 | h5
     ·exact absurd h5 h1
     ·exact absurd (by rw [←h5]; exact h3) (hnl4 kk mm hlk)
     ·exact .inl h5
   refine ⟨E2,⟨hk1,hent,hm2.inj,fun q b hq=>?_,fun k mm b hk hb=>zAg hk hb,fun k hk=>?_,fun k hk=>?_⟩,⟨hm2.ext.os,hm2.ext.tape,hm2.ext.output,by rw [World.putObj_size]; exact hm2.ext.size,fun k hk hkB hkZ=>?_,hgr,hm2.ext.drawn⟩,hl4,World.putObj_heap_same hlt4⟩
   ·have hqm : q<m:=by rw [←hbl]; exact (List.getElem?_eq_some_iff.1 hq).1
    obtain ⟨mm,h1,_⟩:=znB hk1 hqm
    refine hm2.rig q b mm ?_ h1
    show Xs[q]?=some b
    rw [hXs,List.getElem?_append_left (by omega)]; exact hq
   ·obtain ⟨h1,kk,mm,h2,h3⟩:=zuE hk
    obtain ⟨cs,t,fr,h4⟩:=(hent kk mm (zqV hk2 h2)).cells h3
    exact IsC.cells h4
   ·rcases hgr k hk with h | h
    ·exact hZ k h
    ·exact Nat.le_trans hext.size h
   ·have hkl : k≠l:=fun e=>hkB ((hBin k).2 (.inr e))
    refine (hoth k hkl).trans (hm2.ext.block k hk (fun h=>?_))
    rcases (hXin k).1 h with h5 | h5 | h5
    ·exact hkB ((hBin k).2 (.inl h5))
    ·exact hkl h5
    ·exact hkZ h5
  obtain ⟨tz,htz⟩ : ∃ tz : Array Value,tz=(ps.zip (xs.getD i []).toArray).foldl (fun tmps (t,a)=>tmps.setIfInBounds t a) a.tmps:=⟨_,rfl⟩
  have htz2 : tz=(ps.toList.zip (xs.getD i [])).foldl (fun tmps (e : Tmp×Value)=>tmps.setIfInBounds e.1 e.2) a.tmps:=by
   rw [htz,←Array.foldl_toList]
   have : (ps.zip (xs.getD i []).toArray).toList=ps.toList.zip (xs.getD i []):=by simp
   rw [this]
  have hSR0 : SR ⟨w1,Xs,C.N⟩ ⟨zmC ps.toList (xs.getD i []) tm0,M i j,recR l (rc .ready none)::st.re⟩ { tmps:=tz,defers:=[] } w1:=by
   refine ⟨E',by show tz.size=C.N; rw [htz2,zrR,hN],⟨[],rfl,List.nodup_nil,by simp⟩,?_,?_⟩
   ·show ∀ i_1 sv,lk i_1 (zmC ps.toList (xs.getD i []) tm0)=some sv→tz[i_1]?=some (sv.real E')
    rw [htz2]
    refine zvC ps.toList _ tm0 a.tmps (fun t ht=>?_) (fun k sv hk=>?_)
    ·have:=(List.all_eq_true.1 hpN) t ht
     have h2 : t<C.N:=Nat.le_of_ble_eq_true this
     rw [hN]; exact h2
    ·have e:=zpQ (E:=E') (E':=E) (N:=C.N) (m:=m) hreal (show zuF C.N m sv=true from (List.all_eq_true.1 hrig) (k,sv) (zjb hk))
     rw [e]
     exact hE.tm k sv hk
   ·refine ⟨hinv.ent,fun k mm b hk hb=>?_,hinv.inj,fun Rr hRr=>?_,Ext.refl _ _,fun q b mm hq hk=>?_⟩
    ·obtain ⟨cs,t,fr,h3⟩:=(hinv.ent k mm hk).cells hb
     exact ⟨.inr ((hXin b).2 ((hinv.foot k mm b hk hb).imp id .inr)),(Array.getElem?_eq_some_iff.1 h3).1⟩
    ·rcases List.mem_cons.1 hRr with rfl | hRr
     ·exact ⟨znX _ _,hrec,fun b hb=>by
       rw [show (recR l (rc .ready none)).bs=[l] from rfl,List.mem_singleton] at hb
       subst hb
       exact ⟨⟨_,hrec,rfl⟩,hnl⟩⟩
     ·obtain ⟨r1,r2,r3⟩:=hm.res Rr hRr
      have hne : ∀ b∈Rr.bs,w1.heap[b]?=w.heap[b]?:=fun b hb=>by
       obtain ⟨h1,h2⟩:=hreB Rr hRr b hb
       rw [hext.block b (by omega) h1,hWold b h2]
      refine ⟨r1,r1 _ _ r2 hne,fun b hb=>⟨(r3 b hb).1.keep (hne b hb),fun k mm hk hkb=>?_⟩⟩
      rcases hinv.foot k mm b hk hkb with h | h
      ·exact hresbs Rr hRr b hb h
      ·have h3:=hZ b h
       have h4:=(hreB Rr hRr b hb).2
       omega
    ·have hqm : q<m:=by
      have:=zuG hinv.keys hk
      have h2 : C.N+q<C.N+m:=this
      omega
     refine hinv.rig q b ?_
     have hq2 : Xs[q]?=some b:=hq
     rw [hXs,List.getElem?_append_left (by omega)] at hq2
     exact hq2
  refine ⟨fn,tz,assign,body,by rw [hy,htz,hrc]; rfl,roundIn_of_wpIn (F:=FW ro) trivial ?_⟩
  refine wpIn_mono (zbj (ro:=some l) (n:=m') hT hmix assign (hround w1 Xs i j (recR l (rc .ready none)) hi hjv) hSR0) ?_
  rintro e a1 w2 ⟨s1,hs1,hq⟩
  cases e with
  | normal =>
   obtain ⟨hre1,hbody⟩:=hq
   obtain ⟨E1,hE1⟩:=hs1
   have hm1:=hE1.mem
   rw [hre1] at hm1
   have hrec2 : w2.heap[l]?=some (.loop (rc .ready none)):=(hm1.res _ (List.mem_cons_self ..)).2.1
   have hlt2 : l<w2.heap.size:=(Array.getElem?_eq_some_iff.1 hrec2).1
   refine ⟨_,run_beginRound hrec2 (by rw [hrc]; rfl),?_⟩
   have hbz2 : ({ rc .ready none with state:=.busy } : Loop)=bz:=hbz.symm
   rw [hbz2]
   have hSR1 : SR ⟨w1,Xs,C.N⟩ { s1 with re:=recR l bz::st.re } a1 (w2.putObj l (.loop bz)):=by
    refine ⟨E1,hE1.size,hE1.defers.keep (fun b hb=>?_),hE1.tm,zaT.turn hm1 (List.mem_singleton.2 rfl) hrec2 ((hXin l).2 (.inr (.inl rfl))) (fun R hR h=>?_) rfl (znX _ _) (World.putObj_heap_same hlt2) rfl⟩
    ·exact (World.putObj_heap_other (fun e=>by rw [e,hrec2] at hb; cases hb)).trans hb
    ·have:=(hreB R hR l h).2; omega
   refine wpIn_mono (zbj (ro:=some l) (n:=m') hT hmix body (hbody (recR l bz)) hSR1) ?_
   rintro e a2 w4 ⟨s2,hs2,hq2⟩
   cases e with
   | normal =>
    obtain ⟨j',hj',hsle⟩:=hq2
    obtain ⟨E2,h1,h2,h3,h4⟩:=leave _ a2 w4 (rc .ready none) (hkeys (i+1) j' hj').1 (hkeys (i+1) j' hj').2 (hsle a2 w4 hs2)
    refine ⟨_,_,run_endRound none h3,.inl ⟨rfl,imgs E2 bs (M (i+1) j'),?_,?_⟩⟩
    ·rw [hJ]
     refine ⟨j',E2,hj',?_,?_⟩
     ·have : ({ bz with state:=.ready,pending:=none } : Loop)=rc .ready none:=by rw [hbz,hrc]; rfl
      show Inv C.N m bs W.heap.size E2 (M (i+1) j') _ (w4.putObj l (.loop { bz with state:=.ready,pending:=none }))
      rw [this]; exact h1
     ·have : ({ bz with state:=.ready,pending:=none } : Loop)=rc .ready none:=by rw [hbz,hrc]; rfl
      show (w4.putObj l (.loop { bz with state:=.ready,pending:=none })).heap[l]?=_
      rw [this]; exact h4
    ·have : ({ bz with state:=.ready,pending:=none } : Loop)=rc .ready none:=by rw [hbz,hrc]; rfl
     show zr4 B Z _ w1 (w4.putObj l (.loop { bz with state:=.ready,pending:=none }))
     rw [this]; exact h2
   | ret =>
    obtain ⟨mx,hk1,hk2,hsle,hQ⟩:=hq2
    obtain ⟨E2,h1,h2,h3,h4⟩:=leave mx a2 w4 (rc .done (some .ret)) hk1 hk2 (hsle a2 w4 hs2)
    have hee : ({ bz with state:=.done,pending:=some .ret } : Loop)=rc .done (some .ret):=by rw [hbz,hrc]; rfl
    refine ⟨_,_,run_endRound (some .ret) h3,.inr ⟨rfl,imgs E2 bs mx,?_,?_⟩⟩
    ·rw [hJx]
     refine ⟨.ret,.ret,mx,E2,rfl,hQ,?_,?_⟩
     ·show Inv C.N m bs W.heap.size E2 mx _ (w4.putObj l (.loop { bz with state:=.done,pending:=some .ret }))
      rw [hee]; exact h1
     ·show (w4.putObj l (.loop { bz with state:=.done,pending:=some .ret })).heap[l]?=_
      rw [hee]; exact h4
    ·show zr4 B Z _ w1 (w4.putObj l (.loop { bz with state:=.done,pending:=some .ret }))
     rw [hee]; exact h2
   | exit id =>
    obtain ⟨mx,hk1,hk2,hsle,hQ⟩:=hq2
    obtain ⟨E2,h1,h2,h3,h4⟩:=leave mx a2 w4 (rc .done (some (.exit id))) hk1 hk2 (hsle a2 w4 hs2)
    have hee : ({ bz with state:=.done,pending:=some (.exit id) } : Loop)=rc .done (some (.exit id)):=by rw [hbz,hrc]; rfl
    refine ⟨_,_,run_endRound (some (.exit id)) h3,.inr ⟨rfl,imgs E2 bs mx,?_,?_⟩⟩
    ·rw [hJx]
     refine ⟨.exit id,.exit id,mx,E2,rfl,hQ,?_,?_⟩
     ·show Inv C.N m bs W.heap.size E2 mx _ (w4.putObj l (.loop { bz with state:=.done,pending:=some (.exit id) }))
      rw [hee]; exact h1
     ·show (w4.putObj l (.loop { bz with state:=.done,pending:=some (.exit id) })).heap[l]?=_
      rw [hee]; exact h4
    ·show zr4 B Z _ w1 (w4.putObj l (.loop { bz with state:=.done,pending:=some (.exit id) }))
     rw [hee]; exact h2
   | goto _=>exact hq2.elim
   | panic _=>exact hq2.elim
   | outgrown=>exact hq2.elim
  | ret=>exact hq.elim
  | exit _=>exact hq.elim
  | goto _=>exact hq.elim
  | panic _=>exact hq.elim
  | outgrown=>exact hq.elim
 have hcalls:=hseq.calls l W B J Jx (fun R hR=>hreW R (hre R hR)) (fun R hR b hb=>(hreB R (hre R hR) b hb).1) (fun b hb=>by
  rcases (hBin b).1 hb with h | h
  ·have:=(hbslt b h).2; omega
  ·omega) hOJ hOX hR hJ0
 refine ⟨l,[{ target:=.collected D,args:=#[] }],W,{ target:=.fn (.func gf) ⟨caps⟩,args:=#[zd5 l] },W,gf,#[zd5 l]++⟨caps⟩,W,?_,?_,?_,?_,fun h=>(by cases h),?_⟩
 ·rw [hl,hW,hrc,hD]; exact run_enterLoop_outer fn a.tmps ps assign body
 ·simp only [resolve,hev]
  simp [go_sem]
 ·intro f' _; trivial
 ·have eg:=fun args w=>hseq.enters args w
  simp [invoke,go_sem,eg]
 ·have hargs : #[zd5 l]++(⟨caps⟩ : Array Value)=(zd5 l::caps).toArray:=by apply Array.ext'; simp
  rw [hargs]
  refine (callsIn_wide (n:=0-1)).2 (hcalls.mono ?_)
  rintro e w3 ⟨⟨v,rfl⟩,hext,hfin⟩
  have fin : ∀ (mx : List (Nat×ME)) (E' : Env) (Z : List Nat) (r : Loop) (o : Loop),Inv C.N m bs W.heap.size E' mx Z w3→w3.heap[l]?=some (.loop r) →
    SR C ⟨tm0,mx,st.re⟩ { a with defers:=[{ target:=.collected D,args:=#[] }]++a.defers } (w3.putObj l (.loop o)):=by
   intro mx E' Z r o hinv hrec
   obtain ⟨hnl,hlbs⟩:=hinvnl hinv hrec
   have hoth : ∀ b,b≠l→(w3.putObj l (.loop o)).heap[b]?=w3.heap[b]?:=fun b hb=>World.putObj_heap_other hb
   have hreal : ∀ q,q<m→E'.β (C.N+q)=E.β (C.N+q):=fun q hq=>by
    obtain ⟨b,h1,h2⟩:=hbeta q hq
    rw [h1,hinv.rig q b h2]
   have hold : ∀ b,b<w.heap.size→b ∉ bs→(w3.putObj l (.loop o)).heap[b]?=w.heap[b]?:=fun b hb hbb=>by
    have hbl2 : b≠l:=by omega
    have hbB : b ∉ B:=fun h=>by rcases (hBin b).1 h with h | h; exact hbb h; exact hbl2 h
    rw [hoth b hbl2,hext.block b (by omega) hbB,hWold b hb]
   refine ⟨E',hN,?_,fun i sv hi=>?_,⟨fun k mm hk=>(hinv.ent k mm hk).of_block (fun b hb=>hoth b (fun e=>hnl k mm hk (by rw [←e]; exact hb))),fun k mm b hk hb=>?_,hinv.inj,fun R hR=>?_,?_,fun q b mm hq=>by rw [hX] at hq; simp at hq⟩⟩
   ·obtain ⟨ds,h1,h2,h3⟩:=hE.defers
    refine ⟨D::ds,by simp [h1],List.nodup_cons.2 ⟨fun h=>?_,h2⟩,fun b hb=>?_⟩
    ·have:=(Array.getElem?_eq_some_iff.1 (h3 D h).2).1; omega
    ·rcases List.mem_cons.1 hb with rfl | hb
     ·refine ⟨by rw [hD]; exact hm.ext.size,?_⟩
      have hbl2 : b≠l:=by omega
      have hbB : b ∉ B:=fun h=>by
       rcases (hBin b).1 h with h | h
       ·have:=(hbslt b h).2; omega
       ·exact hbl2 h
      rw [hoth b hbl2,hext.block b (by omega) hbB]; exact hWD
     ·have h4:=h3 b hb
      have h5:=(Array.getElem?_eq_some_iff.1 h4.2).1
      refine ⟨h4.1,?_⟩
      rw [hold b h5 (fun h=>by
       obtain ⟨o2,h6,h7⟩:=hbsC b h
       rw [h4.2] at h6; cases h6; cases h7)]
      exact h4.2
   ·rw [zpQ (E:=E') (E':=E) (N:=C.N) (m:=m) hreal (show zuF C.N m sv=true from (List.all_eq_true.1 hrig) (i,sv) (zjb hi))]
    exact hE.tm i sv hi
   ·obtain ⟨cs,t,fr,h3⟩:=(hinv.ent k mm hk).cells hb
    refine ⟨.inl ?_,by rw [World.putObj_size]; exact (Array.getElem?_eq_some_iff.1 h3).1⟩
    rcases hinv.foot k mm b hk hb with h | h
    ·exact (hbslt b h).1
    ·have h5:=hinv.ge b h
     have h6 : C.W0.heap.size≤w.heap.size:=hm.ext.size
     omega
   ·obtain ⟨r1,r2,r3⟩:=hm.res R hR
    have hne : ∀ b∈R.bs,(w3.putObj l (.loop o)).heap[b]?=w.heap[b]?:=fun b hb=>hold b (hreB R hR b hb).2 (hresbs R hR b hb)
    refine ⟨r1,r1 _ _ r2 hne,fun b hb=>⟨(r3 b hb).1.keep (hne b hb),fun k mm hk hkb=>?_⟩⟩
    rcases hinv.foot k mm b hk hkb with h | h
    ·exact hresbs R hR b hb h
    ·have h3:=hinv.ge b h
     have h4:=(hreB R hR b hb).2
     omega
   ·have hx:=hm.ext
    refine ⟨(hext.os.trans hWx.1).trans hx.os,(hext.tape.trans hWx.2.1).trans hx.tape,(hext.output.trans hWx.2.2).trans hx.output,?_,fun k hk hn=>?_,?_⟩
    ·rw [World.putObj_size]
     have h1:=hx.size
     have h2:=hext.size
     omega
    ·have h1 : k<w.heap.size:=Nat.lt_of_lt_of_le hk hx.size
     rw [hold k h1 (fun h=>by have:=(hbslt k h).1; omega)]
     exact hx.block k hk hn
    ·exact Nat.le_trans hx.drawn (by rw [←hWd]; exact hext.drawn)
  rcases hfin with ⟨Z,hj⟩ | ⟨Z,hj⟩
  ·rw [hJ] at hj
   obtain ⟨j,E',hjv,hinv,hrec⟩:=hj
   have he:=run_endLoop (P:=P) hrec (by rw [hrc]; simp [zx0])
   refine ⟨_,_,he,?_⟩
   have : (rc .ready none).pending=none:=by rw [hrc]; rfl
   rw [this]
   exact ⟨_,fin _ E' Z _ _ hinv hrec,hdone j hjv⟩
  ·rw [hJx] at hj
   obtain ⟨c,e,mx,E',hce,hQ,hinv,hrec⟩:=hj
   have he:=run_endLoop (P:=P) hrec (by rw [hrc]; simp [zx0])
   refine ⟨_,_,he,?_⟩
   have : (rc .done (some c)).pending=some c:=by rw [hrc]; rfl
   rw [this]
   cases c with
   | ret=>cases hce; exact wpIn_ret ⟨_,fin mx E' Z _ _ hinv hrec,hQ⟩
   | exit id=>cases hce; exact wpIn_exit ⟨_,fin mx E' Z _ _ hinv hrec,hQ⟩
   | _=>cases hce
end
end Go.Sx
end
section
/- A symbolic executor over loaded Go code: calls that yield a closure over boxes. -/
namespace Go.Sx
open Go Go.RowKit

section
variable {P : Program} {T : TT} {C : Cx} {E : Env} {st st' : SS}
def ptrV (a : Addr) : Value:=.pointer (some a)
def zpw (g : FuncId) (cs : List (List Value)) (w : World) (e : Ending) (w' : World) : Prop :=
 ∃ aq : List Addr,aq.length=cs.length∧e=.returned (.func (.func g) #[] (aq.map ptrV).toArray)∧(∀ (i : Nat) a c,aq[i]?=some a→cs[i]?=some c→SlF (some a) c w'∧w.heap.size≤a.block)∧Bel w.heap.size w w'
def zzU (g : FuncId) (cs : List (List Value)) (l : List SV) (st : SS) : Prop:=∃ ks : List Nat,l=[.o (.clo g (ks.map CP.l))]∧ks.length=cs.length∧∀ (i : Nat) k c,ks[i]?=some k→cs[i]?=some c→boxV st k=some c
theorem zxS {g : FuncId} {cs : List (List Value)} {w : World} {N : Nat} {l : List SV} {w' : World} (h : zzU g cs l st) (hm : zaT ⟨w,[],N⟩ E st.me st.re w') : zpw g cs w (.returned (retV (l.map (SV.real E)))) w':=by
 obtain ⟨ks,rfl,hlen,hk⟩:=h
 have hb : ∀ (i : Nat) k c,ks[i]?=some k→cs[i]?=some c→∃ b t,E.β k=some b∧w'.heap[b]?=some (.cells c.toArray t (0,0))∧w.heap.size≤b:=by
  intro i k c h1 h2
  have:=hk i k c h1 h2
  unfold boxV at this
  cases hl : lk k st.me with
  | none=>rw [hl] at this; cases this
  | some mm =>
   rw [hl] at this
   have hent:=hm.ent k mm hl
   have hge : ∀ b,E.β k=some b→w.heap.size≤b:=fun b hb=>by
    rcases (hm.ge k mm b hl hb).1 with h | h
    ·exact h
    ·cases h
   cases mm with
   | box cells t =>
    obtain ⟨b,h3,h4⟩:=hent
    simp only at this
    rw [zba E this] at h4
    exact ⟨b,t,h3,h4,hge b h3⟩
   | sym cells t =>
    obtain ⟨b,h3,h4⟩:=hent
    simp only [Option.some.injEq] at this
    subst this
    exact ⟨b,t,h3,h4,hge b h3⟩
   | own t es n xs=>simp only at this; cases this
 refine ⟨ks.map (fun k=>⟨(E.β k).getD 0,0,none⟩),by simp [hlen],?_,fun i a c ha hc=>?_,hm.ext.below⟩
 ·show Ending.returned (Value.func (.func g) #[] ((ks.map CP.l).map (CP.real E)).toArray)=_
  congr 2
  rw [List.map_map,List.map_map]
  congr 1
  apply List.map_congr_left
  intro k hkm
  obtain ⟨i,hi,hik⟩:=List.getElem_of_mem hkm
  obtain ⟨b,t,h1,_⟩:=hb i k cs[i] (by rw [List.getElem?_eq_getElem hi,hik]) (List.getElem?_eq_getElem (by omega))
  simp [CP.real,ptrV,h1]
 ·rw [List.getElem?_map] at ha
  cases hki : ks[i]? with
  | none=>rw [hki] at ha; cases ha
  | some k =>
   rw [hki] at ha
   simp only [Option.map_some,Option.some.injEq] at ha
   obtain ⟨b,t,h1,h2,h3⟩:=hb i k c hki hc
   rw [h1] at ha
   subst ha
   exact ⟨.inr ⟨b,0,rfl,fun j v hj=>by rw [zbY h2,Nat.zero_add]; simpa using hj⟩,h3⟩
theorem FnF.of (hT : zaQ P T) (hmix : P.follows .mixedOrders=true) {f : FuncId} {fn : Func} {c : Code} {vs : List Value} {re : List Res} {g : FuncId} {cs : List (List Value)}
  (hf : P.funcs[f]? = some fn) (hb : fn.body = some c) (hnm : (fn.name == "runtime.NumGoroutine") = false) (hn : vs.length ≤ fn.ntmps) (hok : ∀ R ∈ re, R.ok)
  (hs : ∀ w,facts re w→zc9 P T ⟨w,[],fn.ntmps⟩ c ⟨zeS 0 (vsv vs),[],re⟩ (retQ T fn (zzU g cs))) : FnM P f vs (facts re) (zpw g cs) :=
 FnM.of hT hmix hf hb hnm hn hok (fun w l st E w' hp hm=>zxS hp hm) hs
theorem zaT.more {C : Cx} {me : List (Nat×ME)} {re : List Res} {w : World} (h : zaT C E me re w) {R : Res} (hR : R.ok) (hφ : R.φ w) (hb : ∀ b∈R.bs,∀ k m,lk k me=some m→E.β k≠some b) : zaT C E me (R::re) w :=
 ⟨h.ent,h.ge,h.inj,fun R' hR'=>by
  rcases List.mem_cons.1 hR' with rfl | hR'
  ·exact ⟨hR.1,hφ,fun b hb'=>⟨hR.2 w hφ b hb',hb b hb'⟩⟩
  ·exact h.res R' hR',h.ext,h.rig⟩
theorem zlp {a : Addr} {xs : List Value} {b : Nat} (h : b∈(zaf (some a) xs).bs) : b=a.block:=by
 have h2 : b∈SlB (some a) xs:=h
 cases xs with
 | nil=>simp [SlB] at h2
 | cons x r=>simpa [SlB] using h2
theorem zac.f1 {g g' : FuncId} {args : List SV} {c1 : List Value} {K : SV→SS→Prop} (hE : Enters P g) (h : zaB P g args st (zpw g' [c1]))
  (hk : ∀ a1,K (.o (.v (.func (.func g') #[] ⟨[ptrV a1]⟩))) { st with re:=zaf (some a1) c1::st.re }) : zac P C g args st K:=by
 refine ⟨hE,fun E w hm=>(h E w (fun k mm _ hk=>hm.ent k mm hk) (fun R hR=>(hm.res R hR).2.1)).mono ?_⟩
 rintro e w' ⟨aq,hlen,rfl,hcs,hb⟩
 obtain ⟨a1,rfl⟩ : ∃ a1,aq=[a1]:=by
  match aq,hlen with
  | [a],_=>exact ⟨a,rfl⟩
 obtain ⟨f1,n1⟩:=hcs 0 a1 c1 rfl rfl
 have hm':=hm.world (st:=st) hb
 refine ⟨E,{ st with re:=zaf (some a1) c1::st.re },.o (.v (.func (.func g') #[] ⟨[ptrV a1]⟩)),rfl,hm'.more (zaf.ok _ _) f1 (fun b hb' k m hkk hβ=>?_),KD.below hb,fun i sv hi=>⟨sv,hi,rfl⟩,hk a1⟩
 have h1:=zlp hb'
 have:=(hm.ge k m b hkk hβ).2
 omega
theorem zac.f2 {g g' : FuncId} {args : List SV} {c1 c2 : List Value} {K : SV→SS→Prop} (hE : Enters P g) (h : zaB P g args st (zpw g' [c1,c2]))
  (hk : ∀ a1 a2,K (.o (.v (.func (.func g') #[] ⟨[ptrV a1,ptrV a2]⟩))) { st with re:=zaf (some a1) c1::zaf (some a2) c2::st.re }) : zac P C g args st K:=by
 refine ⟨hE,fun E w hm=>(h E w (fun k mm _ hk=>hm.ent k mm hk) (fun R hR=>(hm.res R hR).2.1)).mono ?_⟩
 rintro e w' ⟨aq,hlen,rfl,hcs,hb⟩
 obtain ⟨a1,a2,rfl⟩ : ∃ a1 a2,aq=[a1,a2]:=by
  match aq,hlen with
  | [a,b],_=>exact ⟨a,b,rfl⟩
 obtain ⟨f1,n1⟩:=hcs 0 a1 c1 rfl rfl
 obtain ⟨f2,n2⟩:=hcs 1 a2 c2 rfl rfl
 have hm':=hm.world (st:=st) hb
 have hno : ∀ a : Addr,w.heap.size≤a.block→∀ xs,∀ b∈(zaf (some a) xs).bs,∀ k m,lk k st.me=some m→E.β k≠some b:=fun a ha xs b hb' k m hkk hβ=>by
  have h1:=zlp hb'
  have:=(hm.ge k m b hkk hβ).2
  omega
 exact ⟨E,{ st with re:=zaf (some a1) c1::zaf (some a2) c2::st.re },.o (.v (.func (.func g') #[] ⟨[ptrV a1,ptrV a2]⟩)),rfl,(hm'.more (zaf.ok _ _) f2 (hno a2 n2 c2)).more (zaf.ok _ _) f1 (hno a1 n1 c1),KD.below hb,fun i sv hi=>⟨sv,hi,rfl⟩,hk a1 a2⟩
end
end Go.Sx
end
section
/- '==' of arrays, leaf by leaf. -/
namespace Go.Sx
open Go Go.RowKit
section
variable {P : Program}
theorem zpN {d : Nat} {e : TypeId} {ks : List LK} (he : EqIn P d e ks) {xs ys : Array Value} {w : World} : ∀ (k i : Nat) (r : Bool),eqL (List.replicate k ks).flatten (xs.toList.drop (i*ks.length)) (ys.toList.drop (i*ks.length))=some r →
  (Op.eqItems d e ks.length xs ys (List.range' i k)).run P w=.ok r w
 | 0,i,r,h=>by
  have : r=true:=by
   revert h
   rcases xs.toList.drop (i*ks.length) with _ | ⟨x,xs⟩ <;> rcases ys.toList.drop (i*ks.length) with _ | ⟨y,ys⟩ <;> intro h <;> simp [eqL] at h
   exact h
  subst this
  simp [Op.eqItems]
 | k+1,i,r,h=>by
  rw [List.replicate_succ,List.flatten_cons] at h
  obtain ⟨r1,r2,h1,h2,rfl,h4,h5⟩:=zhm ks _ _ _ _ h
  obtain ⟨g,hg,hg1,heq⟩:=he.agg
  have hx:=zgc he hg hg1 h4 w
  have hy:=zgc he hg hg1 h5 w
  rw [List.range'_succ,Op.eqItems]
  rw [Sem.run_bind,hx]
  simp only [Result.andThen]
  rw [Sem.run_bind,hy]
  simp only [Result.andThen]
  rw [Sem.run_bind,heq _ _ _ _ h1]
  simp only [Result.andThen]
  rw [List.drop_drop,List.drop_drop,←Nat.succ_mul] at h2
  have ih:=zpN (w:=w) he k (i+1) r2 h2
  cases r1
  ·simp
  ·simpa using ih
theorem EqIn.array {t e : TypeId} {d n : Nat} {ks : List LK} (hu : P.underlying t=some (.array n e)) (hi : (P.info? t).map (·.size)=some (List.replicate n ks).flatten.length) (he : EqIn P d e ks) : EqIn P (d+1) t (List.replicate n ks).flatten:=by
 obtain ⟨i,h1,h2⟩ : ∃ i,P.info? t=some i∧i.size=(List.replicate n ks).flatten.length:=by cases hx : P.info? t with | none=>rw [hx] at hi; cases hi | some i=>rw [hx] at hi; exact ⟨i,rfl,by simpa using hi⟩
 refine ⟨by simp [Program.cellsOf,h1,h2],by rw [h1]; rfl,true,zb8 hu,fun h=>(by cases h),fun xs ys r w hq=>?_⟩
 obtain ⟨ie,hie⟩:=Option.isSome_iff_exists.1 he.info
 simp only [zoM,if_true]
 rw [run_equalIn_array w d _ _ hu hie,he.size,List.range_eq_range']
 exact zpN he n 0 r (by simpa using hq)
theorem zcW.ofArr {t e : TypeId} {n : Nat} {ks : List LK} (hu : P.underlying t=some (.array n e)) (hg : P.eqGuardType P.depth t=false) (h : EqIn P 10000 t ks) : zcW P t ks:=by
 intro xs ys r x y w he
 obtain ⟨g,hag,_,heq⟩:=h.agg
 have hgt : g=true:=by
  have:=zb8 hu w
  rw [hag w] at this
  simpa [zbh] using this
 subst hgt
 have h1:=heq xs.toList ys.toList r w he
 simp only [zoM,if_true,Array.toArray_toList] at h1
 constructor
 ·rw [Sem.run_bind,run_eqGuard_agg w .eql t x y xs ys hg]
  simp only [Result.andThen,binOp,Op.equal]
  rw [Sem.run_bind]
  show ((Op.equalIn 10000 t (.agg xs) (.agg ys)).run P w).andThen _=_
  rw [h1]
  rfl
 ·rw [Sem.run_bind,run_eqGuard_agg w .neq t x y xs ys hg]
  simp only [Result.andThen,binOp,Op.equal]
  rw [Sem.run_bind]
  show ((Op.equalIn 10000 t (.agg xs) (.agg ys)).run P w).andThen _=_
  rw [h1]
  rfl
end
end Go.Sx
end
section
/- MADE BY wip/nums.py out of the translation: numbers of functions and types, the table of types, its proofs. -/
set_option maxRecDepth 10000
namespace Go.Sx
open Go Go.Proofs
noncomputable abbrev PP : Program:=Tryz.prog
abbrev zcE : FuncId:=3
noncomputable abbrev zfm : Func:=Tryz.f3
theorem zfw : PP.funcs[zcE]?=some zfm:=Tryz.func3
abbrev zec : FuncId:=6
noncomputable abbrev ziT : Func:=Tryz.f6
theorem ziK : PP.funcs[zec]?=some ziT:=Tryz.func6
abbrev zei : FuncId:=7
noncomputable abbrev zeg : Func:=Tryz.f7
theorem ziB : PP.funcs[zei]?=some zeg:=Tryz.func7
abbrev ze7 : FuncId:=8
noncomputable abbrev zro : Func:=Tryz.f8
theorem zmm : PP.funcs[ze7]?=some zro:=Tryz.func8
abbrev zcq : FuncId:=9
noncomputable abbrev zbx : Func:=Tryz.f9
theorem zd1 : PP.funcs[zcq]?=some zbx:=Tryz.func9
abbrev zeK : FuncId:=10
noncomputable abbrev zjy : Func:=Tryz.f10
theorem zj0 : PP.funcs[zeK]?=some zjy:=Tryz.func10
abbrev zcT : FuncId:=11
noncomputable abbrev zfV : Func:=Tryz.f11
theorem zfS : PP.funcs[zcT]?=some zfV:=Tryz.func11
abbrev zmw : FuncId:=12
noncomputable abbrev zso : Func:=Tryz.f12
theorem zri : PP.funcs[zmw]?=some zso:=Tryz.func12
abbrev zcr : FuncId:=13
noncomputable abbrev ziG : Func:=Tryz.f13
theorem zeh : PP.funcs[zcr]?=some ziG:=Tryz.func13
abbrev zkJ : FuncId:=16
noncomputable abbrev zqe : Func:=Tryz.f16
theorem zql : PP.funcs[zkJ]?=some zqe:=Tryz.func16
abbrev zjc : FuncId:=18
noncomputable abbrev zpq : Func:=Tryz.f18
theorem zpa : PP.funcs[zjc]?=some zpq:=Tryz.func18
abbrev zsL : FuncId:=32
noncomputable abbrev zwm : Func:=Tryz.f32
theorem zxk : PP.funcs[zsL]?=some zwm:=Tryz.func32
abbrev zcH : FuncId:=35
noncomputable abbrev zfv : Func:=Tryz.f35
theorem zft : PP.funcs[zcH]?=some zfv:=Tryz.func35
abbrev zej : FuncId:=36
noncomputable abbrev ziM : Func:=Tryz.f36
theorem ziW : PP.funcs[zej]?=some ziM:=Tryz.func36
abbrev zjo : FuncId:=37
noncomputable abbrev ztr : Func:=Tryz.f37
theorem ztd : PP.funcs[zjo]?=some ztr:=Tryz.func37
abbrev zhp : FuncId:=38
noncomputable abbrev zoq : Func:=Tryz.f38
theorem zn1 : PP.funcs[zhp]?=some zoq:=Tryz.func38
abbrev zi7 : FuncId:=39
noncomputable abbrev zpc : Func:=Tryz.f39
theorem zoX : PP.funcs[zi7]?=some zpc:=Tryz.func39
abbrev zoH : FuncId:=40
noncomputable abbrev ztl : Func:=Tryz.f40
theorem zti : PP.funcs[zoH]?=some ztl:=Tryz.func40
abbrev zcR : FuncId:=41
noncomputable abbrev zfA : Func:=Tryz.f41
theorem zfG : PP.funcs[zcR]?=some zfA:=Tryz.func41
abbrev zcU : FuncId:=42
noncomputable abbrev zfZ : Func:=Tryz.f42
theorem zfE : PP.funcs[zcU]?=some zfZ:=Tryz.func42
abbrev zed : FuncId:=43
noncomputable abbrev ziq : Func:=Tryz.f43
theorem ziR : PP.funcs[zed]?=some ziq:=Tryz.func43
abbrev zcY : FuncId:=44
noncomputable abbrev zf3 : Func:=Tryz.f44
theorem zf4 : PP.funcs[zcY]?=some zf3:=Tryz.func44
abbrev zd2 : FuncId:=45
noncomputable abbrev ziS : Func:=Tryz.f45
theorem zio : PP.funcs[zd2]?=some ziS:=Tryz.func45
abbrev zdi : FuncId:=46
noncomputable abbrev zgQ : Func:=Tryz.f46
theorem zgI : PP.funcs[zdi]?=some zgQ:=Tryz.func46
abbrev zb2 : FuncId:=47
noncomputable abbrev zbc : Func:=Tryz.f47
theorem zeo : PP.funcs[zb2]?=some zbc:=Tryz.func47
abbrev zb4 : FuncId:=48
noncomputable abbrev zb0 : Func:=Tryz.f48
theorem zes : PP.funcs[zb4]?=some zb0:=Tryz.func48
abbrev zeb : FuncId:=49
noncomputable abbrev zaz : Func:=Tryz.f49
theorem ziQ : PP.funcs[zeb]?=some zaz:=Tryz.func49
abbrev zex : FuncId:=50
noncomputable abbrev zjP : Func:=Tryz.f50
theorem zjr : PP.funcs[zex]?=some zjP:=Tryz.func50
abbrev zc6 : FuncId:=51
noncomputable abbrev zgk : Func:=Tryz.f51
theorem zf6 : PP.funcs[zc6]?=some zgk:=Tryz.func51
abbrev zc1 : FuncId:=52
noncomputable abbrev zga : Func:=Tryz.f52
theorem zgi : PP.funcs[zc1]?=some zga:=Tryz.func52
abbrev zcD : FuncId:=53
noncomputable abbrev zfs : Func:=Tryz.f53
theorem zfl : PP.funcs[zcD]?=some zfs:=Tryz.func53
abbrev zpJ : FuncId:=54
noncomputable abbrev zvp : Func:=Tryz.f54
theorem zuZ : PP.funcs[zpJ]?=some zvp:=Tryz.func54
abbrev zeD : FuncId:=55
noncomputable abbrev zjG : Func:=Tryz.f55
theorem zjX : PP.funcs[zeD]?=some zjG:=Tryz.func55
abbrev zmr : FuncId:=56
noncomputable abbrev zsw : Func:=Tryz.f56
theorem zr7 : PP.funcs[zmr]?=some zsw:=Tryz.func56
abbrev zhD : FuncId:=57
noncomputable abbrev zox : Func:=Tryz.f57
theorem zoz : PP.funcs[zhD]?=some zox:=Tryz.func57
abbrev zn3 : FuncId:=58
noncomputable abbrev ztg : Func:=Tryz.f58
theorem ztt : PP.funcs[zn3]?=some ztg:=Tryz.func58
abbrev zlm : FuncId:=59
noncomputable abbrev zqT : Func:=Tryz.f59
theorem zqZ : PP.funcs[zlm]?=some zqT:=Tryz.func59
abbrev zsu : FuncId:=60
noncomputable abbrev zwn : Func:=Tryz.f60
theorem zvZ : PP.funcs[zsu]?=some zwn:=Tryz.func60
abbrev zhR : FuncId:=62
noncomputable abbrev zoC : Func:=Tryz.f62
theorem zon : PP.funcs[zhR]?=some zoC:=Tryz.func62
abbrev zb1 : FuncId:=63
noncomputable abbrev zkz : Func:=Tryz.f63
theorem zkn : PP.funcs[zb1]?=some zkz:=Tryz.func63
abbrev zli : FuncId:=64
noncomputable abbrev zqq : Func:=Tryz.f64
theorem zqR : PP.funcs[zli]?=some zqq:=Tryz.func64
abbrev zhO : FuncId:=65
noncomputable abbrev znT : Func:=Tryz.f65
theorem znZ : PP.funcs[zhO]?=some znT:=Tryz.func65
abbrev zfq : FuncId:=66
noncomputable abbrev zpz : Func:=Tryz.f66
theorem zo0 : PP.funcs[zfq]?=some zpz:=Tryz.func66
abbrev zjh : FuncId:=67
noncomputable abbrev zpx : Func:=Tryz.f67
theorem zpi : PP.funcs[zjh]?=some zpx:=Tryz.func67
abbrev zi3 : FuncId:=68
noncomputable abbrev zpt : Func:=Tryz.f68
theorem zpy : PP.funcs[zi3]?=some zpt:=Tryz.func68
abbrev zg1 : FuncId:=69
noncomputable abbrev zof : Func:=Tryz.f69
theorem zou : PP.funcs[zg1]?=some zof:=Tryz.func69
abbrev zow : FuncId:=70
noncomputable abbrev zs1 : Func:=Tryz.f70
theorem ztp : PP.funcs[zow]?=some zs1:=Tryz.func70
abbrev zdr : FuncId:=79
noncomputable abbrev zps : Func:=Tryz.f79
theorem zpm : PP.funcs[zdr]?=some zps:=Tryz.func79
abbrev zdF : FuncId:=80
noncomputable abbrev zg0 : Func:=Tryz.f80
theorem zhc : PP.funcs[zdF]?=some zg0:=Tryz.func80
abbrev ze6 : FuncId:=81
noncomputable abbrev zk2 : Func:=Tryz.f81
theorem zlq : PP.funcs[ze6]?=some zk2:=Tryz.func81
abbrev zfi : FuncId:=82
noncomputable abbrev zj8 : Func:=Tryz.f82
theorem zkk : PP.funcs[zfi]?=some zj8:=Tryz.func82
abbrev zeJ : FuncId:=83
noncomputable abbrev zjC : Func:=Tryz.f83
theorem zjk : PP.funcs[zeJ]?=some zjC:=Tryz.func83
abbrev zgt : FuncId:=85
noncomputable abbrev zmS : Func:=Tryz.f85
theorem zmJ : PP.funcs[zgt]?=some zmS:=Tryz.func85
abbrev zhj : FuncId:=86
noncomputable abbrev zoL : Func:=Tryz.f86
theorem zn4 : PP.funcs[zhj]?=some zoL:=Tryz.func86
abbrev zje : FuncId:=87
noncomputable abbrev zpg : Func:=Tryz.f87
theorem zo3 : PP.funcs[zje]?=some zpg:=Tryz.func87
abbrev zgu : FuncId:=88
noncomputable abbrev zmK : Func:=Tryz.f88
theorem zm3 : PP.funcs[zgu]?=some zmK:=Tryz.func88
abbrev zdv : FuncId:=89
noncomputable abbrev zhk : Func:=Tryz.f89
theorem zhx : PP.funcs[zdv]?=some zhk:=Tryz.func89
abbrev zeE : FuncId:=90
noncomputable abbrev zjD : Func:=Tryz.f90
theorem zjW : PP.funcs[zeE]?=some zjD:=Tryz.func90
abbrev zaF : FuncId:=91
abbrev zaS : FuncId:=92
noncomputable abbrev zgK : Func:=Tryz.f92
theorem zgN : PP.funcs[zaS]?=some zgK:=Tryz.func92
abbrev zml : FuncId:=93
noncomputable abbrev zsy : Func:=Tryz.f93
theorem zsq : PP.funcs[zml]?=some zsy:=Tryz.func93
abbrev zfY : FuncId:=94
noncomputable abbrev zlP : Func:=Tryz.f94
theorem zlS : PP.funcs[zfY]?=some zlP:=Tryz.func94
abbrev zdd : FuncId:=95
noncomputable abbrev zgE : Func:=Tryz.f95
theorem zgz : PP.funcs[zdd]?=some zgE:=Tryz.func95
abbrev zdZ : FuncId:=96
noncomputable abbrev ziJ : Func:=Tryz.f96
theorem ziV : PP.funcs[zdZ]?=some ziJ:=Tryz.func96
abbrev zeF : FuncId:=97
noncomputable abbrev zjN : Func:=Tryz.f97
theorem zjT : PP.funcs[zeF]?=some zjN:=Tryz.func97
abbrev zel : FuncId:=98
noncomputable abbrev ziE : Func:=Tryz.f98
theorem zii : PP.funcs[zel]?=some ziE:=Tryz.func98
abbrev zbs : FuncId:=99
noncomputable abbrev zaU : Func:=Tryz.f99
theorem zg2 : PP.funcs[zbs]?=some zaU:=Tryz.func99
abbrev zeC : FuncId:=100
noncomputable abbrev zjq : Func:=Tryz.f100
theorem zjp : PP.funcs[zeC]?=some zjq:=Tryz.func100
abbrev zd4 : FuncId:=101
noncomputable abbrev ziz : Func:=Tryz.f101
theorem zix : PP.funcs[zd4]?=some ziz:=Tryz.func101
abbrev zdE : FuncId:=102
noncomputable abbrev zhI : Func:=Tryz.f102
theorem zhw : PP.funcs[zdE]?=some zhI:=Tryz.func102
abbrev za7 : FuncId:=103
noncomputable abbrev zce : Func:=Tryz.f103
theorem zcd : PP.funcs[za7]?=some zce:=Tryz.func103
abbrev zg4 : FuncId:=104
noncomputable abbrev zrN : Func:=Tryz.f104
theorem zrJ : PP.funcs[zg4]?=some zrN:=Tryz.func104
abbrev zi4 : FuncId:=105
noncomputable abbrev zpo : Func:=Tryz.f105
theorem zo7 : PP.funcs[zi4]?=some zpo:=Tryz.func105
abbrev zbP : FuncId:=106
noncomputable abbrev zmG : Func:=Tryz.f106
theorem zm4 : PP.funcs[zbP]?=some zmG:=Tryz.func106
abbrev zji : FuncId:=107
noncomputable abbrev zoQ : Func:=Tryz.f107
theorem zoU : PP.funcs[zji]?=some zoQ:=Tryz.func107
abbrev zbM : FuncId:=108
noncomputable abbrev zmI : Func:=Tryz.f108
theorem zm8 : PP.funcs[zbM]?=some zmI:=Tryz.func108
abbrev zpj : FuncId:=109
abbrev zo4 : FuncId:=110
abbrev zpv : FuncId:=111
abbrev zpf : FuncId:=112
abbrev zo8 : FuncId:=113
abbrev zoW : FuncId:=115
abbrev zqr : FuncId:=116
abbrev zoP : FuncId:=117
abbrev zfk : FuncId:=119
noncomputable abbrev zpA : Func:=Tryz.f119
theorem zoR : PP.funcs[zfk]?=some zpA:=Tryz.func119
abbrev zi1 : FuncId:=120
noncomputable abbrev zpb : Func:=Tryz.f120
theorem zph : PP.funcs[zi1]?=some zpb:=Tryz.func120
abbrev zgo : FuncId:=121
noncomputable abbrev zmE : Func:=Tryz.f121
theorem zmM : PP.funcs[zgo]?=some zmE:=Tryz.func121
abbrev zeA : FuncId:=122
noncomputable abbrev zjt : Func:=Tryz.f122
theorem zjI : PP.funcs[zeA]?=some zjt:=Tryz.func122
abbrev zcs : FuncId:=123
noncomputable abbrev ziu : Func:=Tryz.f123
theorem ziO : PP.funcs[zcs]?=some ziu:=Tryz.func123
abbrev zct : FuncId:=124
noncomputable abbrev ziY : Func:=Tryz.f124
theorem zij : PP.funcs[zct]?=some ziY:=Tryz.func124
abbrev zdU : FuncId:=125
noncomputable abbrev zm5 : Func:=Tryz.f125
theorem zmQ : PP.funcs[zdU]?=some zm5:=Tryz.func125
abbrev zcS : FuncId:=126
noncomputable abbrev zsM : Func:=Tryz.f126
theorem zsh : PP.funcs[zcS]?=some zsM:=Tryz.func126
abbrev zoE : FuncId:=127
noncomputable abbrev zsY : Func:=Tryz.f127
theorem zs9 : PP.funcs[zoE]?=some zsY:=Tryz.func127
abbrev za3 : FuncId:=128
noncomputable abbrev zeX : Func:=Tryz.f128
theorem zeT : PP.funcs[za3]?=some zeX:=Tryz.func128
abbrev zch : FuncId:=129
noncomputable abbrev zlt : Func:=Tryz.f129
theorem zl2 : PP.funcs[zch]?=some zlt:=Tryz.func129
abbrev zcl : FuncId:=130
noncomputable abbrev zlR : Func:=Tryz.f130
theorem zlX : PP.funcs[zcl]?=some zlR:=Tryz.func130
abbrev zcn : FuncId:=131
noncomputable abbrev zlT : Func:=Tryz.f131
theorem zlF : PP.funcs[zcn]?=some zlT:=Tryz.func131
abbrev zcg : FuncId:=132
noncomputable abbrev zlG : Func:=Tryz.f132
theorem zl3 : PP.funcs[zcg]?=some zlG:=Tryz.func132
abbrev zln : FuncId:=133
noncomputable abbrev zrd : Func:=Tryz.f133
theorem zq4 : PP.funcs[zln]?=some zrd:=Tryz.func133
abbrev zi9 : FuncId:=134
noncomputable abbrev zoV : Func:=Tryz.f134
theorem zo6 : PP.funcs[zi9]?=some zoV:=Tryz.func134
abbrev zmu : FuncId:=135
noncomputable abbrev zrv : Func:=Tryz.f135
theorem zsT : PP.funcs[zmu]?=some zrv:=Tryz.func135
abbrev zjf : FuncId:=136
noncomputable abbrev zo1 : Func:=Tryz.f136
theorem zpk : PP.funcs[zjf]?=some zo1:=Tryz.func136
abbrev zmv : FuncId:=137
noncomputable abbrev zsl : Func:=Tryz.f137
theorem zrK : PP.funcs[zmv]?=some zsl:=Tryz.func137
abbrev zcX : FuncId:=142
noncomputable abbrev zgh : Func:=Tryz.f142
theorem zf9 : PP.funcs[zcX]?=some zgh:=Tryz.func142
abbrev zdQ : FuncId:=143
noncomputable abbrev zm0 : Func:=Tryz.f143
theorem zmF : PP.funcs[zdQ]?=some zm0:=Tryz.func143
abbrev zgx : FuncId:=144
noncomputable abbrev zmW : Func:=Tryz.f144
theorem zm1 : PP.funcs[zgx]?=some zmW:=Tryz.func144
abbrev zdR : FuncId:=145
noncomputable abbrev zm7 : Func:=Tryz.f145
theorem zmN : PP.funcs[zdR]?=some zm7:=Tryz.func145
abbrev zfb : FuncId:=146
noncomputable abbrev zkd : Func:=Tryz.f146
theorem zkf : PP.funcs[zfb]?=some zkd:=Tryz.func146
abbrev zfc : FuncId:=147
noncomputable abbrev zkK : Func:=Tryz.f147
theorem zk9 : PP.funcs[zfc]?=some zkK:=Tryz.func147
abbrev zfH : FuncId:=148
noncomputable abbrev zmb : Func:=Tryz.f148
theorem zly : PP.funcs[zfH]?=some zmb:=Tryz.func148
abbrev zd7 : FuncId:=149
noncomputable abbrev zi0 : Func:=Tryz.f149
theorem ziN : PP.funcs[zd7]?=some zi0:=Tryz.func149
abbrev zeM : FuncId:=150
noncomputable abbrev zjl : Func:=Tryz.f150
theorem zjY : PP.funcs[zeM]?=some zjl:=Tryz.func150
abbrev zd6 : FuncId:=151
noncomputable abbrev zil : Func:=Tryz.f151
theorem zis : PP.funcs[zd6]?=some zil:=Tryz.func151
abbrev zdO : FuncId:=152
noncomputable abbrev zg8 : Func:=Tryz.f152
theorem zgU : PP.funcs[zdO]?=some zg8:=Tryz.func152
abbrev zc0 : FuncId:=153
noncomputable abbrev zkC : Func:=Tryz.f153
theorem zkI : PP.funcs[zc0]?=some zkC:=Tryz.func153
abbrev zdH : FuncId:=154
noncomputable abbrev zhr : Func:=Tryz.f154
theorem zhN : PP.funcs[zdH]?=some zhr:=Tryz.func154
abbrev zdg : FuncId:=155
noncomputable abbrev zgL : Func:=Tryz.f155
theorem zgO : PP.funcs[zdg]?=some zgL:=Tryz.func155
abbrev zeN : FuncId:=156
noncomputable abbrev zjm : Func:=Tryz.f156
theorem zjw : PP.funcs[zeN]?=some zjm:=Tryz.func156
abbrev zhM : FuncId:=157
noncomputable abbrev zoB : Func:=Tryz.f157
theorem znI : PP.funcs[zhM]?=some zoB:=Tryz.func157
abbrev zi8 : FuncId:=158
noncomputable abbrev zpp : Func:=Tryz.f158
theorem zpB : PP.funcs[zi8]?=some zpp:=Tryz.func158
abbrev zcA : FuncId:=159
abbrev zbl : FuncId:=160
noncomputable abbrev zcO : Func:=Tryz.f160
theorem zcN : PP.funcs[zbl]?=some zcO:=Tryz.func160
abbrev zgn : FuncId:=161
noncomputable abbrev zmV : Func:=Tryz.f161
theorem zmO : PP.funcs[zgn]?=some zmV:=Tryz.func161
abbrev zhf : FuncId:=164
noncomputable abbrev znP : Func:=Tryz.f164
theorem znL : PP.funcs[zhf]?=some znP:=Tryz.func164
abbrev zdh : FuncId:=165
noncomputable abbrev zgH : Func:=Tryz.f165
theorem zgC : PP.funcs[zdh]?=some zgH:=Tryz.func165
abbrev zdD : FuncId:=166
noncomputable abbrev zgZ : Func:=Tryz.f166
theorem zhe : PP.funcs[zdD]?=some zgZ:=Tryz.func166
abbrev zea : FuncId:=167
noncomputable abbrev ziF : Func:=Tryz.f167
theorem zih : PP.funcs[zea]?=some ziF:=Tryz.func167
abbrev ze2 : FuncId:=168
noncomputable abbrev zle : Func:=Tryz.f168
theorem zkl : PP.funcs[ze2]?=some zle:=Tryz.func168
abbrev zfh : FuncId:=169
noncomputable abbrev zkU : Func:=Tryz.f169
theorem zka : PP.funcs[zfh]?=some zkU:=Tryz.func169
abbrev zfg : FuncId:=170
noncomputable abbrev zky : Func:=Tryz.f170
theorem zj7 : PP.funcs[zfg]?=some zky:=Tryz.func170
abbrev zfz : FuncId:=171
noncomputable abbrev zl8 : Func:=Tryz.f171
theorem zls : PP.funcs[zfz]?=some zl8:=Tryz.func171
abbrev zdf : FuncId:=172
noncomputable abbrev zgJ : Func:=Tryz.f172
theorem zgR : PP.funcs[zdf]?=some zgJ:=Tryz.func172
abbrev zcQ : FuncId:=173
noncomputable abbrev zfJ : Func:=Tryz.f173
theorem zfK : PP.funcs[zcQ]?=some zfJ:=Tryz.func173
abbrev zd8 : FuncId:=174
noncomputable abbrev ziI : Func:=Tryz.f174
theorem ziX : PP.funcs[zd8]?=some ziI:=Tryz.func174
abbrev zeO : FuncId:=175
noncomputable abbrev zjM : Func:=Tryz.f175
theorem zjK : PP.funcs[zeO]?=some zjM:=Tryz.func175
abbrev zde : FuncId:=176
noncomputable abbrev zgG : Func:=Tryz.f176
theorem zgM : PP.funcs[zde]?=some zgG:=Tryz.func176
abbrev zdy : FuncId:=177
noncomputable abbrev zhh : Func:=Tryz.f177
theorem zhA : PP.funcs[zdy]?=some zhh:=Tryz.func177
abbrev ze1 : FuncId:=178
noncomputable abbrev zki : Func:=Tryz.f178
theorem zj6 : PP.funcs[ze1]?=some zki:=Tryz.func178
abbrev zef : FuncId:=179
noncomputable abbrev zie : Func:=Tryz.f179
theorem ziU : PP.funcs[zef]?=some zie:=Tryz.func179
abbrev zdT : FuncId:=184
noncomputable abbrev zmX : Func:=Tryz.f184
theorem zmR : PP.funcs[zdT]?=some zmX:=Tryz.func184
abbrev zdS : FuncId:=185
noncomputable abbrev zmH : Func:=Tryz.f185
theorem zmL : PP.funcs[zdS]?=some zmH:=Tryz.func185
abbrev zhl : FuncId:=186
noncomputable abbrev zhK : Func:=Tryz.f186
theorem zsi : PP.funcs[zhl]?=some zhK:=Tryz.func186
abbrev zdX : FuncId:=187
noncomputable abbrev zmP : Func:=Tryz.f187
theorem zmY : PP.funcs[zdX]?=some zmP:=Tryz.func187
abbrev zff : FuncId:=188
noncomputable abbrev zkM : Func:=Tryz.f188
theorem zke : PP.funcs[zff]?=some zkM:=Tryz.func188
abbrev zeq : FuncId:=189
noncomputable abbrev zqI : Func:=Tryz.f189
theorem zq8 : PP.funcs[zeq]?=some zqI:=Tryz.func189
abbrev zbo : FuncId:=190
noncomputable abbrev zgB : Func:=Tryz.f190
theorem zgS : PP.funcs[zbo]?=some zgB:=Tryz.func190
abbrev zc7 : FuncId:=191
noncomputable abbrev zqL : Func:=Tryz.f191
theorem zp6 : PP.funcs[zc7]?=some zqL:=Tryz.func191
abbrev zcy : FuncId:=192
noncomputable abbrev zin : Func:=Tryz.f192
theorem ziP : PP.funcs[zcy]?=some zin:=Tryz.func192
abbrev zlr : FuncId:=193
noncomputable abbrev zqf : Func:=Tryz.f193
theorem zqO : PP.funcs[zlr]?=some zqf:=Tryz.func193
abbrev zmi : FuncId:=194
noncomputable abbrev zst : Func:=Tryz.f194
theorem zr1 : PP.funcs[zmi]?=some zst:=Tryz.func194
abbrev zmq : FuncId:=195
noncomputable abbrev zsR : Func:=Tryz.f195
theorem zsx : PP.funcs[zmq]?=some zsR:=Tryz.func195
abbrev ze0 : FuncId:=196
noncomputable abbrev zkR : Func:=Tryz.f196
theorem zk0 : PP.funcs[ze0]?=some zkR:=Tryz.func196
abbrev zhq : FuncId:=197
noncomputable abbrev zsm : Func:=Tryz.f197
theorem zre : PP.funcs[zhq]?=some zsm:=Tryz.func197
abbrev zko : FuncId:=198
noncomputable abbrev zqv : Func:=Tryz.f198
theorem zqy : PP.funcs[zko]?=some zqv:=Tryz.func198
abbrev zi5 : FuncId:=199
noncomputable abbrev zoT : Func:=Tryz.f199
theorem zpe : PP.funcs[zi5]?=some zoT:=Tryz.func199
abbrev zhQ : FuncId:=200
noncomputable abbrev znK : Func:=Tryz.f200
theorem znV : PP.funcs[zhQ]?=some znK:=Tryz.func200
abbrev zbr : FuncId:=201
noncomputable abbrev zks : Func:=Tryz.f201
theorem zj5 : PP.funcs[zbr]?=some zks:=Tryz.func201
abbrev zdm : FuncId:=202
noncomputable abbrev zlH : Func:=Tryz.f202
theorem zlZ : PP.funcs[zdm]?=some zlH:=Tryz.func202
abbrev zdM : FuncId:=203
noncomputable abbrev zgX : Func:=Tryz.f203
theorem zgY : PP.funcs[zdM]?=some zgX:=Tryz.func203
abbrev zdN : FuncId:=204
noncomputable abbrev zgT : Func:=Tryz.f204
theorem zg3 : PP.funcs[zdN]?=some zgT:=Tryz.func204
abbrev zc4 : FuncId:=205
noncomputable abbrev zk3 : Func:=Tryz.f205
theorem zkB : PP.funcs[zc4]?=some zk3:=Tryz.func205
abbrev ze3 : FuncId:=206
noncomputable abbrev zkH : Func:=Tryz.f206
theorem zkj : PP.funcs[ze3]?=some zkH:=Tryz.func206
abbrev zeY : FuncId:=207
noncomputable abbrev zlg : Func:=Tryz.f207
theorem zk1 : PP.funcs[zeY]?=some zlg:=Tryz.func207
abbrev zcV : FuncId:=208
noncomputable abbrev zfL : Func:=Tryz.f208
theorem zfX : PP.funcs[zcV]?=some zfL:=Tryz.func208
abbrev zcv : FuncId:=209
noncomputable abbrev ziw : Func:=Tryz.f209
theorem ziH : PP.funcs[zcv]?=some ziw:=Tryz.func209
abbrev zdz : FuncId:=210
noncomputable abbrev zhE : Func:=Tryz.f210
theorem zhP : PP.funcs[zdz]?=some zhE:=Tryz.func210
abbrev zeI : FuncId:=211
noncomputable abbrev zjR : Func:=Tryz.f211
theorem zjQ : PP.funcs[zeI]?=some zjR:=Tryz.func211
abbrev zi6 : FuncId:=212
noncomputable abbrev zoS : Func:=Tryz.f212
theorem zo2 : PP.funcs[zi6]?=some zoS:=Tryz.func212
abbrev zfM : FuncId:=213
noncomputable abbrev zlC : Func:=Tryz.f213
theorem zl4 : PP.funcs[zfM]?=some zlC:=Tryz.func213
abbrev zgr : FuncId:=214
noncomputable abbrev zm2 : Func:=Tryz.f214
theorem zmT : PP.funcs[zgr]?=some zm2:=Tryz.func214
abbrev zfB : FuncId:=224
noncomputable abbrev zlE : Func:=Tryz.f224
theorem zlN : PP.funcs[zfB]?=some zlE:=Tryz.func224
abbrev zcC : FuncId:=226
noncomputable abbrev zfp : Func:=Tryz.f226
theorem zfo : PP.funcs[zcC]?=some zfp:=Tryz.func226
abbrev zhC : FuncId:=228
noncomputable abbrev znN : Func:=Tryz.f228
theorem zoo : PP.funcs[zhC]?=some znN:=Tryz.func228
abbrev zbH : FuncId:=229
noncomputable abbrev zj1 : Func:=Tryz.f229
theorem zjO : PP.funcs[zbH]?=some zj1:=Tryz.func229
abbrev zby : FuncId:=230
noncomputable abbrev ziZ : Func:=Tryz.f230
theorem zik : PP.funcs[zby]?=some ziZ:=Tryz.func230
abbrev zfU : FuncId:=231
noncomputable abbrev zmf : Func:=Tryz.f231
theorem zlz : PP.funcs[zfU]?=some zmf:=Tryz.func231
abbrev zjd : FuncId:=232
noncomputable abbrev zpl : Func:=Tryz.f232
theorem zpn : PP.funcs[zjd]?=some zpl:=Tryz.func232
abbrev zez : FuncId:=233
noncomputable abbrev zjs : Func:=Tryz.f233
theorem zjJ : PP.funcs[zez]?=some zjs:=Tryz.func233
abbrev zee : FuncId:=234
noncomputable abbrev ziD : Func:=Tryz.f234
theorem zim : PP.funcs[zee]?=some ziD:=Tryz.func234
abbrev zdJ : FuncId:=235
noncomputable abbrev zg5 : Func:=Tryz.f235
theorem zhG : PP.funcs[zdJ]?=some zg5:=Tryz.func235
abbrev zhF : FuncId:=236
noncomputable abbrev zrq : Func:=Tryz.f236
theorem zrU : PP.funcs[zhF]?=some zrq:=Tryz.func236
abbrev zdB : FuncId:=237
noncomputable abbrev zhB : Func:=Tryz.f237
theorem zht : PP.funcs[zdB]?=some zhB:=Tryz.func237
abbrev zdw : FuncId:=238
noncomputable abbrev zg7 : Func:=Tryz.f238
theorem zhu : PP.funcs[zdw]?=some zg7:=Tryz.func238
abbrev ze5 : FuncId:=239
noncomputable abbrev zkt : Func:=Tryz.f239
theorem zlf : PP.funcs[ze5]?=some zkt:=Tryz.func239
abbrev zeG : FuncId:=240
noncomputable abbrev zjz : Func:=Tryz.f240
theorem zjA : PP.funcs[zeG]?=some zjz:=Tryz.func240
abbrev zdI : FuncId:=241
noncomputable abbrev zhz : Func:=Tryz.f241
theorem zhJ : PP.funcs[zdI]?=some zhz:=Tryz.func241
abbrev zek : FuncId:=242
noncomputable abbrev zif : Func:=Tryz.f242
theorem zir : PP.funcs[zek]?=some zif:=Tryz.func242
abbrev zc5 : FuncId:=243
noncomputable abbrev zkc : Func:=Tryz.f243
theorem zk5 : PP.funcs[zc5]?=some zkc:=Tryz.func243
abbrev zfO : FuncId:=265
noncomputable abbrev zlU : Func:=Tryz.f265
theorem zl7 : PP.funcs[zfO]?=some zlU:=Tryz.func265
abbrev zd0 : FuncId:=266
noncomputable abbrev ziA : Func:=Tryz.f266
theorem zig : PP.funcs[zd0]?=some ziA:=Tryz.func266
abbrev zco : FuncId:=267
noncomputable abbrev zeW : Func:=Tryz.f267
theorem zeV : PP.funcs[zco]?=some zeW:=Tryz.func267
abbrev zd9 : FuncId:=268
noncomputable abbrev ziv : Func:=Tryz.f268
theorem ziC : PP.funcs[zd9]?=some ziv:=Tryz.func268
abbrev zcx : FuncId:=269
noncomputable abbrev zd3 : Func:=Tryz.f269
theorem ziL : PP.funcs[zcx]?=some zd3:=Tryz.func269
abbrev zbW : FuncId:=270
noncomputable abbrev zgD : Func:=Tryz.f270
theorem zgP : PP.funcs[zbW]?=some zgD:=Tryz.func270
abbrev zfT : FuncId:=278
noncomputable abbrev zlw : Func:=Tryz.f278
theorem zlu : PP.funcs[zfT]?=some zlw:=Tryz.func278
abbrev zfN : FuncId:=279
noncomputable abbrev zlI : Func:=Tryz.f279
theorem zlW : PP.funcs[zfN]?=some zlI:=Tryz.func279
abbrev zen : TypeId:=3
def ty3 : TyE:={ size:=1,bytes:=8,desc:=.int .i64,zero:=.int .i64 0,eqv:=none }
theorem ok3 : TyOk PP 3 ty3:=⟨by kernel_rfl,Tryz.underlying3⟩
abbrev zsb : TypeId:=4
def ty4 : TyE:={ size:=1,bytes:=1,desc:=.bool,zero:=.bool false,eqv:=none }
theorem ok4 : TyOk PP 4 ty4:=⟨by kernel_rfl,Tryz.underlying4⟩
abbrev zaI : TypeId:=5
def ty5 : TyE:={ size:=1,bytes:=1,desc:=.int .u8,zero:=.int .u8 0,eqv:=none }
theorem ok5 : TyOk PP 5 ty5:=⟨by kernel_rfl,Tryz.underlying5⟩
abbrev zf8 : TypeId:=9
def ty9 : TyE:={ size:=1,bytes:=16,desc:=.string,zero:=.string (⟨#[]⟩ : ByteArray),eqv:=none }
theorem ok9 : TyOk PP 9 ty9:=⟨by kernel_rfl,Tryz.underlying9⟩
abbrev zaq : TypeId:=23
def ty23 : TyE := { size := 3, bytes := 40, desc := .struct #[{ name := "Neg", type := 4, offset := 0, embedded := false, tag := "", pkgPath := "", byteOffset := 0 }, { name := "Num", type := 9, offset := 1, embedded := false, tag := "", pkgPath := "", byteOffset := 8 }, { name := "Den", type := 9, offset := 2, embedded := false, tag := "", pkgPath := "", byteOffset := 24 }], zero := .agg #[.bool false, .string (⟨#[]⟩ : ByteArray), .string (⟨#[]⟩ : ByteArray)], eqv := some [.b, .s, .s] }
theorem ok23 : TyOk PP 23 ty23:=⟨by kernel_rfl,Tryz.underlying23⟩
abbrev za5 : TypeId:=25
def ty25 : TyE := { size := 6, bytes := 80, desc := .struct #[{ name := "X", type := 23, offset := 0, embedded := false, tag := "", pkgPath := "", byteOffset := 0 }, { name := "Y", type := 23, offset := 3, embedded := false, tag := "", pkgPath := "", byteOffset := 40 }], zero := .agg #[.bool false, .string (⟨#[]⟩ : ByteArray), .string (⟨#[]⟩ : ByteArray), .bool false, .string (⟨#[]⟩ : ByteArray), .string (⟨#[]⟩ : ByteArray)], eqv := some [.b, .s, .s, .b, .s, .s] }
theorem ok25 : TyOk PP 25 ty25:=⟨by kernel_rfl,Tryz.underlying25⟩
abbrev zaG : TypeId:=27
def ty27 : TyE := { size := 12, bytes := 160, desc := .struct #[{ name := "Min", type := 25, offset := 0, embedded := false, tag := "", pkgPath := "", byteOffset := 0 }, { name := "Max", type := 25, offset := 6, embedded := false, tag := "", pkgPath := "", byteOffset := 80 }], zero := .agg #[.bool false, .string (⟨#[]⟩ : ByteArray), .string (⟨#[]⟩ : ByteArray), .bool false, .string (⟨#[]⟩ : ByteArray), .string (⟨#[]⟩ : ByteArray), .bool false, .string (⟨#[]⟩ : ByteArray), .string (⟨#[]⟩ : ByteArray), .bool false, .string (⟨#[]⟩ : ByteArray), .string (⟨#[]⟩ : ByteArray)], eqv := some [.b, .s, .s, .b, .s, .s, .b, .s, .s, .b, .s, .s] }
theorem ok27 : TyOk PP 27 ty27:=⟨by kernel_rfl,Tryz.underlying27⟩
abbrev zbR : TypeId:=28
def ty28 : TyE:={ size:=1,bytes:=24,desc:=.slice 57,zero:=.slice none 0 0,eqv:=none }
theorem ok28 : TyOk PP 28 ty28:=⟨by kernel_rfl,Tryz.underlying28⟩
abbrev zcP : TypeId:=31
def ty31 : TyE:={ size:=1,bytes:=24,desc:=.slice 23,zero:=.slice none 0 0,eqv:=none }
theorem ok31 : TyOk PP 31 ty31:=⟨by kernel_rfl,Tryz.underlying31⟩
def ty32 : TyE:={ size:=1,bytes:=24,desc:=.slice 31,zero:=.slice none 0 0,eqv:=none }
theorem ok32 : TyOk PP 32 ty32:=⟨by kernel_rfl,Tryz.underlying32⟩
def ty33 : TyE:={ size:=1,bytes:=24,desc:=.slice 53,zero:=.slice none 0 0,eqv:=none }
theorem ok33 : TyOk PP 33 ty33:=⟨by kernel_rfl,Tryz.underlying33⟩
abbrev zaD : TypeId:=35
def ty35 : TyE := { size := 16, bytes := 256, desc := .struct #[{ name := "Box", type := 27, offset := 0, embedded := false, tag := "", pkgPath := "", byteOffset := 0 }, { name := "Segments", type := 28, offset := 12, embedded := false, tag := "", pkgPath := "", byteOffset := 160 }, { name := "Xs", type := 31, offset := 13, embedded := false, tag := "", pkgPath := "", byteOffset := 184 }, { name := "Lines", type := 32, offset := 14, embedded := false, tag := "", pkgPath := "", byteOffset := 208 }, { name := "Strips", type := 33, offset := 15, embedded := false, tag := "", pkgPath := "", byteOffset := 232 }], zero := .agg #[.bool false, .string (⟨#[]⟩ : ByteArray), .string (⟨#[]⟩ : ByteArray), .bool false, .string (⟨#[]⟩ : ByteArray), .string (⟨#[]⟩ : ByteArray), .bool false, .string (⟨#[]⟩ : ByteArray), .string (⟨#[]⟩ : ByteArray), .bool false, .string (⟨#[]⟩ : ByteArray), .string (⟨#[]⟩ : ByteArray), .slice none 0 0, .slice none 0 0, .slice none 0 0, .slice none 0 0], eqv := none }
theorem ok35 : TyOk PP 35 ty35:=⟨by kernel_rfl,Tryz.underlying35⟩
def ty36 : TyE:={ size:=1,bytes:=8,desc:=.int .i64,zero:=.int .i64 0,eqv:=none }
theorem ok36 : TyOk PP 36 ty36:=⟨by kernel_rfl,Tryz.underlying36⟩
abbrev zku : TypeId:=41
def ty41 : TyE:={ size:=1,bytes:=24,desc:=.slice 47,zero:=.slice none 0 0,eqv:=none }
theorem ok41 : TyOk PP 41 ty41:=⟨by kernel_rfl,Tryz.underlying41⟩
abbrev zaZ : TypeId:=47
def ty47 : TyE := { size := 3, bytes := 24, desc := .struct #[{ name := "Kind", type := 3, offset := 0, embedded := false, tag := "", pkgPath := "", byteOffset := 0 }, { name := "Column", type := 3, offset := 1, embedded := false, tag := "", pkgPath := "", byteOffset := 8 }, { name := "Row", type := 3, offset := 2, embedded := false, tag := "", pkgPath := "", byteOffset := 16 }], zero := .agg #[.int .i64 0, .int .i64 0, .int .i64 0], eqv := some [.i .i64, .i .i64, .i .i64] }
theorem ok47 : TyOk PP 47 ty47:=⟨by kernel_rfl,Tryz.underlying47⟩
def ty48 : TyE:={ size:=1,bytes:=24,desc:=.slice 25,zero:=.slice none 0 0,eqv:=none }
theorem ok48 : TyOk PP 48 ty48:=⟨by kernel_rfl,Tryz.underlying48⟩
abbrev zhW : TypeId:=53
def ty53 : TyE:={ size:=1,bytes:=24,desc:=.slice 3,zero:=.slice none 0 0,eqv:=none }
theorem ok53 : TyOk PP 53 ty53:=⟨by kernel_rfl,Tryz.underlying53⟩
abbrev zbe : TypeId:=57
def ty57 : TyE := { size := 12, bytes := 160, desc := .struct #[{ name := "A", type := 25, offset := 0, embedded := false, tag := "", pkgPath := "", byteOffset := 0 }, { name := "B", type := 25, offset := 6, embedded := false, tag := "", pkgPath := "", byteOffset := 80 }], zero := .agg #[.bool false, .string (⟨#[]⟩ : ByteArray), .string (⟨#[]⟩ : ByteArray), .bool false, .string (⟨#[]⟩ : ByteArray), .string (⟨#[]⟩ : ByteArray), .bool false, .string (⟨#[]⟩ : ByteArray), .string (⟨#[]⟩ : ByteArray), .bool false, .string (⟨#[]⟩ : ByteArray), .string (⟨#[]⟩ : ByteArray)], eqv := some [.b, .s, .s, .b, .s, .s, .b, .s, .s, .b, .s, .s] }
theorem ok57 : TyOk PP 57 ty57:=⟨by kernel_rfl,Tryz.underlying57⟩
abbrev zwq : TypeId:=73
def ty73 : TyE:={ size:=4,bytes:=32,desc:=.array 4 3,zero:=.agg #[.int .i64 0,.int .i64 0,.int .i64 0,.int .i64 0],eqv:=some [.i .i64,.i .i64,.i .i64,.i .i64] }
theorem ok73 : TyOk PP 73 ty73:=⟨by kernel_rfl,Tryz.underlying73⟩
def ty76 : TyE:={ size:=1,bytes:=24,desc:=.slice 106,zero:=.slice none 0 0,eqv:=none }
theorem ok76 : TyOk PP 76 ty76:=⟨by kernel_rfl,Tryz.underlying76⟩
abbrev zoZ : TypeId:=79
def ty79 : TyE := { size := 13, bytes := 184, desc := .struct #[{ name := "box", type := 27, offset := 0, embedded := false, tag := "", pkgPath := "narrows/slab", byteOffset := 0 }, { name := "pieces", type := 76, offset := 12, embedded := false, tag := "", pkgPath := "narrows/slab", byteOffset := 160 }], zero := .agg #[.bool false, .string (⟨#[]⟩ : ByteArray), .string (⟨#[]⟩ : ByteArray), .bool false, .string (⟨#[]⟩ : ByteArray), .string (⟨#[]⟩ : ByteArray), .bool false, .string (⟨#[]⟩ : ByteArray), .string (⟨#[]⟩ : ByteArray), .bool false, .string (⟨#[]⟩ : ByteArray), .string (⟨#[]⟩ : ByteArray), .slice none 0 0], eqv := none }
theorem ok79 : TyOk PP 79 ty79:=⟨by kernel_rfl,Tryz.underlying79⟩
def ty94 : TyE:={ size:=1,bytes:=8,desc:=.func #[35,3] #[3] false,zero:=.nilFunc,eqv:=none }
theorem ok94 : TyOk PP 94 ty94:=⟨by kernel_rfl,Tryz.underlying94⟩
def ty95 : TyE:={ size:=1,bytes:=8,desc:=.func #[35,47] #[41] false,zero:=.nilFunc,eqv:=none }
theorem ok95 : TyOk PP 95 ty95:=⟨by kernel_rfl,Tryz.underlying95⟩
def ty96 : TyE:={ size:=1,bytes:=8,desc:=.func #[35,47] #[48] false,zero:=.nilFunc,eqv:=none }
theorem ok96 : TyOk PP 96 ty96:=⟨by kernel_rfl,Tryz.underlying96⟩
def ty98 : TyE := { size := 3, bytes := 24, desc := .struct #[{ name := "count", type := 94, offset := 0, embedded := false, tag := "", pkgPath := "narrows/slab", byteOffset := 0 }, { name := "faces", type := 95, offset := 1, embedded := false, tag := "", pkgPath := "narrows/slab", byteOffset := 8 }, { name := "corners", type := 96, offset := 2, embedded := false, tag := "", pkgPath := "narrows/slab", byteOffset := 16 }], zero := .agg #[.nilFunc, .nilFunc, .nilFunc], eqv := none }
theorem ok98 : TyOk PP 98 ty98:=⟨by kernel_rfl,Tryz.underlying98⟩
abbrev zbB : TypeId:=99
def ty99 : TyE:={ size:=12,bytes:=96,desc:=.array 4 98,zero:=.agg #[.nilFunc,.nilFunc,.nilFunc,.nilFunc,.nilFunc,.nilFunc,.nilFunc,.nilFunc,.nilFunc,.nilFunc,.nilFunc,.nilFunc],eqv:=none }
theorem ok99 : TyOk PP 99 ty99:=⟨by kernel_rfl,Tryz.underlying99⟩
abbrev zfe : TypeId:=106
def zAb : TyE := { size := 13, bytes := 168, desc := .struct #[{ name := "Segment", type := 57, offset := 0, embedded := true, tag := "", pkgPath := "", byteOffset := 0 }, { name := "index", type := 3, offset := 12, embedded := false, tag := "", pkgPath := "narrows/slab", byteOffset := 160 }], zero := .agg #[.bool false, .string (⟨#[]⟩ : ByteArray), .string (⟨#[]⟩ : ByteArray), .bool false, .string (⟨#[]⟩ : ByteArray), .string (⟨#[]⟩ : ByteArray), .bool false, .string (⟨#[]⟩ : ByteArray), .string (⟨#[]⟩ : ByteArray), .bool false, .string (⟨#[]⟩ : ByteArray), .string (⟨#[]⟩ : ByteArray), .int .i64 0], eqv := some [.b, .s, .s, .b, .s, .s, .b, .s, .s, .b, .s, .s, .i .i64] }
theorem zCi : TyOk PP 106 zAb:=⟨by kernel_rfl,Tryz.underlying106⟩
def zxK : TyE:={ size:=1,bytes:=8,desc:=.func #[25] #[23] false,zero:=.nilFunc,eqv:=none }
theorem zCm : TyOk PP 111 zxK:=⟨by kernel_rfl,Tryz.underlying111⟩
def zym : TyE:={ size:=4,bytes:=32,desc:=.array 4 111,zero:=.agg #[.nilFunc,.nilFunc,.nilFunc,.nilFunc],eqv:=none }
theorem zCj : TyOk PP 112 zym:=⟨by kernel_rfl,Tryz.underlying112⟩
def zxU : TyE:={ size:=1,bytes:=24,desc:=.slice 133,zero:=.slice none 0 0,eqv:=none }
theorem zCg : TyOk PP 131 zxU:=⟨by kernel_rfl,Tryz.underlying131⟩
abbrev zaV : TypeId:=133
def zAz : TyE := { size := 4, bytes := 48, desc := .struct #[{ name := "y", type := 23, offset := 0, embedded := false, tag := "", pkgPath := "narrows/slab", byteOffset := 0 }, { name := "index", type := 3, offset := 3, embedded := false, tag := "", pkgPath := "narrows/slab", byteOffset := 40 }], zero := .agg #[.bool false, .string (⟨#[]⟩ : ByteArray), .string (⟨#[]⟩ : ByteArray), .int .i64 0], eqv := some [.b, .s, .s, .i .i64] }
theorem zCp : TyOk PP 133 zAz:=⟨by kernel_rfl,Tryz.underlying133⟩
abbrev zbF : TypeId:=152
def zzO : TyE := { size := 2, bytes := 24, desc := .struct #[{ name := "Neg", type := 4, offset := 0, embedded := false, tag := "", pkgPath := "", byteOffset := 0 }, { name := "Mag", type := 9, offset := 1, embedded := false, tag := "", pkgPath := "", byteOffset := 8 }], zero := .agg #[.bool false, .string (⟨#[]⟩ : ByteArray)], eqv := some [.b, .s] }
theorem zCd : TyOk PP 152 zzO:=⟨by kernel_rfl,Tryz.underlying152⟩
def zAd : TyE := { size := 4, bytes := 48, desc := .struct #[{ name := "n", type := 152, offset := 0, embedded := false, tag := "", pkgPath := "narrows/rational", byteOffset := 0 }, { name := "d", type := 152, offset := 2, embedded := false, tag := "", pkgPath := "narrows/rational", byteOffset := 24 }], zero := .agg #[.bool false, .string (⟨#[]⟩ : ByteArray), .bool false, .string (⟨#[]⟩ : ByteArray)], eqv := some [.b, .s, .b, .s] }
theorem zCO : TyOk PP 154 zAd:=⟨by kernel_rfl,Tryz.underlying154⟩
def zAE : TyE:={ size:=1,bytes:=8,desc:=.int .u64,zero:=.int .u64 0,eqv:=none }
theorem zCD : TyOk PP 182 zAE:=⟨by kernel_rfl,Tryz.underlying182⟩
def zxF : TyE:={ size:=1,bytes:=24,desc:=.slice 199,zero:=.slice none 0 0,eqv:=none }
theorem zCw : TyOk PP 193 zxF:=⟨by kernel_rfl,Tryz.underlying193⟩
def zx9 : TyE:={ size:=1,bytes:=8,desc:=.int .u64,zero:=.int .u64 0,eqv:=none }
theorem zCB : TyOk PP 198 zx9:=⟨by kernel_rfl,Tryz.underlying198⟩
abbrev zat : TypeId:=199
def zyv : TyE:={ size:=1,bytes:=4,desc:=.int .u32,zero:=.int .u32 0,eqv:=none }
theorem zCy : TyOk PP 199 zyv:=⟨by kernel_rfl,Tryz.underlying199⟩
def zzX : TyE:={ size:=1,bytes:=8,desc:=.int .i64,zero:=.int .i64 0,eqv:=none }
theorem zCn : TyOk PP 213 zzX:=⟨by kernel_rfl,Tryz.underlying213⟩
abbrev zoc : TypeId:=230
def zxJ : TyE:={ size:=8,bytes:=8,desc:=.array 8 5,zero:=.agg #[.int .u8 0,.int .u8 0,.int .u8 0,.int .u8 0,.int .u8 0,.int .u8 0,.int .u8 0,.int .u8 0],eqv:=some [.i .u8,.i .u8,.i .u8,.i .u8,.i .u8,.i .u8,.i .u8,.i .u8] }
theorem zCu : TyOk PP 230 zxJ:=⟨by kernel_rfl,Tryz.underlying230⟩
def zxG : TyE:={ size:=1,bytes:=24,desc:=.slice 5,zero:=.slice none 0 0,eqv:=none }
theorem zCe : TyOk PP 231 zxG:=⟨by kernel_rfl,Tryz.underlying231⟩
def zAR : TyE:={ size:=1,bytes:=8,desc:=.int .u64,zero:=.int .u64 0,eqv:=none }
theorem zCo : TyOk PP 239 zAR:=⟨by kernel_rfl,Tryz.underlying239⟩
abbrev zhs : TypeId:=256
def zxx : TyE:={ size:=8,bytes:=128,desc:=.array 8 9,zero:=.agg #[.string (⟨#[]⟩ : ByteArray),.string (⟨#[]⟩ : ByteArray),.string (⟨#[]⟩ : ByteArray),.string (⟨#[]⟩ : ByteArray),.string (⟨#[]⟩ : ByteArray),.string (⟨#[]⟩ : ByteArray),.string (⟨#[]⟩ : ByteArray),.string (⟨#[]⟩ : ByteArray)],eqv:=some [.s,.s,.s,.s,.s,.s,.s,.s] }
theorem zCh : TyOk PP 256 zxx:=⟨by kernel_rfl,Tryz.underlying256⟩
theorem eq4 (d : Nat) : EqIn PP (d+1) 4 [.b]:=EqIn.bool d Tryz.underlying4 (by kernel_rfl)
theorem eq9 (d : Nat) : EqIn PP (d+1) 9 [.s]:=EqIn.str d Tryz.underlying9 (by kernel_rfl)
theorem eq23 (d : Nat) : EqIn PP (d+2) 23 [.b,.s,.s]:=EqIn.struct (ks:=[.b,.s,.s]) Tryz.underlying23 (by kernel_rfl) (by kernel_rfl) (.cons (k1:=[.b]) (k2:=[.s,.s]) (by rfl) rfl (eq4 (d+0)) (.cons (k1:=[.s]) (k2:=[.s]) (by rfl) rfl (eq9 (d+0)) (.cons (k1:=[.s]) (k2:=[]) (by rfl) rfl (eq9 (d+0)) (.nil _))))
theorem zCK : zcW PP 23 [.b,.s,.s]:=zcW.of Tryz.underlying23 (by kernel_rfl) (eq23 9998)
theorem eq25 (d : Nat) : EqIn PP (d+3) 25 [.b,.s,.s,.b,.s,.s]:=EqIn.struct (ks:=[.b,.s,.s,.b,.s,.s]) Tryz.underlying25 (by kernel_rfl) (by kernel_rfl) (.cons (k1:=[.b,.s,.s]) (k2:=[.b,.s,.s]) (by rfl) rfl (eq23 (d+0)) (.cons (k1:=[.b,.s,.s]) (k2:=[]) (by rfl) rfl (eq23 (d+0)) (.nil _)))
theorem zCJ : zcW PP 25 [.b,.s,.s,.b,.s,.s]:=zcW.of Tryz.underlying25 (by kernel_rfl) (eq25 9997)
theorem eq27 (d : Nat) : EqIn PP (d+4) 27 [.b,.s,.s,.b,.s,.s,.b,.s,.s,.b,.s,.s]:=EqIn.struct (ks:=[.b,.s,.s,.b,.s,.s,.b,.s,.s,.b,.s,.s]) Tryz.underlying27 (by kernel_rfl) (by kernel_rfl) (.cons (k1:=[.b,.s,.s,.b,.s,.s]) (k2:=[.b,.s,.s,.b,.s,.s]) (by rfl) rfl (eq25 (d+0)) (.cons (k1:=[.b,.s,.s,.b,.s,.s]) (k2:=[]) (by rfl) rfl (eq25 (d+0)) (.nil _)))
theorem zCM : zcW PP 27 [.b,.s,.s,.b,.s,.s,.b,.s,.s,.b,.s,.s]:=zcW.of Tryz.underlying27 (by kernel_rfl) (eq27 9996)
theorem eq3 (d : Nat) : EqIn PP (d+1) 3 [.i .i64]:=EqIn.int d Tryz.underlying3 (by kernel_rfl)
theorem eq47 (d : Nat) : EqIn PP (d+2) 47 [.i .i64,.i .i64,.i .i64]:=EqIn.struct (ks:=[.i .i64,.i .i64,.i .i64]) Tryz.underlying47 (by kernel_rfl) (by kernel_rfl) (.cons (k1:=[.i .i64]) (k2:=[.i .i64,.i .i64]) (by rfl) rfl (eq3 (d+0)) (.cons (k1:=[.i .i64]) (k2:=[.i .i64]) (by rfl) rfl (eq3 (d+0)) (.cons (k1:=[.i .i64]) (k2:=[]) (by rfl) rfl (eq3 (d+0)) (.nil _))))
theorem zCP : zcW PP 47 [.i .i64,.i .i64,.i .i64]:=zcW.of Tryz.underlying47 (by kernel_rfl) (eq47 9998)
theorem eq57 (d : Nat) : EqIn PP (d+4) 57 [.b,.s,.s,.b,.s,.s,.b,.s,.s,.b,.s,.s]:=EqIn.struct (ks:=[.b,.s,.s,.b,.s,.s,.b,.s,.s,.b,.s,.s]) Tryz.underlying57 (by kernel_rfl) (by kernel_rfl) (.cons (k1:=[.b,.s,.s,.b,.s,.s]) (k2:=[.b,.s,.s,.b,.s,.s]) (by rfl) rfl (eq25 (d+0)) (.cons (k1:=[.b,.s,.s,.b,.s,.s]) (k2:=[]) (by rfl) rfl (eq25 (d+0)) (.nil _)))
theorem zCf : zcW PP 57 [.b,.s,.s,.b,.s,.s,.b,.s,.s,.b,.s,.s]:=zcW.of Tryz.underlying57 (by kernel_rfl) (eq57 9996)
theorem eq73 (d : Nat) : EqIn PP (d+2) 73 [.i .i64,.i .i64,.i .i64,.i .i64]:=EqIn.array (n:=4) (ks:=[.i .i64]) Tryz.underlying73 (by kernel_rfl) (eq3 d)
theorem zCG : zcW PP 73 [.i .i64,.i .i64,.i .i64,.i .i64]:=zcW.ofArr Tryz.underlying73 (by kernel_rfl) (eq73 9998)
theorem zCQ (d : Nat) : EqIn PP (d+5) 106 [.b,.s,.s,.b,.s,.s,.b,.s,.s,.b,.s,.s,.i .i64]:=EqIn.struct (ks:=[.b,.s,.s,.b,.s,.s,.b,.s,.s,.b,.s,.s,.i .i64]) Tryz.underlying106 (by kernel_rfl) (by kernel_rfl) (.cons (k1:=[.b,.s,.s,.b,.s,.s,.b,.s,.s,.b,.s,.s]) (k2:=[.i .i64]) (by rfl) rfl (eq57 (d+0)) (.cons (k1:=[.i .i64]) (k2:=[]) (by rfl) rfl (eq3 (d+3)) (.nil _)))
theorem zBI : zcW PP 106 [.b,.s,.s,.b,.s,.s,.b,.s,.s,.b,.s,.s,.i .i64]:=zcW.of Tryz.underlying106 (by kernel_rfl) (zCQ 9995)
theorem zCv (d : Nat) : EqIn PP (d+3) 133 [.b,.s,.s,.i .i64]:=EqIn.struct (ks:=[.b,.s,.s,.i .i64]) Tryz.underlying133 (by kernel_rfl) (by kernel_rfl) (.cons (k1:=[.b,.s,.s]) (k2:=[.i .i64]) (by rfl) rfl (eq23 (d+0)) (.cons (k1:=[.i .i64]) (k2:=[]) (by rfl) rfl (eq3 (d+1)) (.nil _)))
theorem zB8 : zcW PP 133 [.b,.s,.s,.i .i64]:=zcW.of Tryz.underlying133 (by kernel_rfl) (zCv 9997)
theorem zzH (d : Nat) : EqIn PP (d+2) 152 [.b,.s]:=EqIn.struct (ks:=[.b,.s]) Tryz.underlying152 (by kernel_rfl) (by kernel_rfl) (.cons (k1:=[.b]) (k2:=[.s]) (by rfl) rfl (eq4 (d+0)) (.cons (k1:=[.s]) (k2:=[]) (by rfl) rfl (eq9 (d+0)) (.nil _)))
theorem zB4 : zcW PP 152 [.b,.s]:=zcW.of Tryz.underlying152 (by kernel_rfl) (zzH 9998)
theorem zCH (d : Nat) : EqIn PP (d+3) 154 [.b,.s,.b,.s]:=EqIn.struct (ks:=[.b,.s,.b,.s]) Tryz.underlying154 (by kernel_rfl) (by kernel_rfl) (.cons (k1:=[.b,.s]) (k2:=[.b,.s]) (by rfl) rfl (zzH (d+0)) (.cons (k1:=[.b,.s]) (k2:=[]) (by rfl) rfl (zzH (d+0)) (.nil _)))
theorem zBP : zcW PP 154 [.b,.s,.b,.s]:=zcW.of Tryz.underlying154 (by kernel_rfl) (zCH 9997)
theorem eq5 (d : Nat) : EqIn PP (d+1) 5 [.i .u8]:=EqIn.int d Tryz.underlying5 (by kernel_rfl)
theorem zCS (d : Nat) : EqIn PP (d+2) 230 [.i .u8,.i .u8,.i .u8,.i .u8,.i .u8,.i .u8,.i .u8,.i .u8]:=EqIn.array (n:=8) (ks:=[.i .u8]) Tryz.underlying230 (by kernel_rfl) (eq5 d)
theorem zBa : zcW PP 230 [.i .u8,.i .u8,.i .u8,.i .u8,.i .u8,.i .u8,.i .u8,.i .u8]:=zcW.ofArr Tryz.underlying230 (by kernel_rfl) (zCS 9998)
theorem zCc (d : Nat) : EqIn PP (d+2) 256 [.s,.s,.s,.s,.s,.s,.s,.s]:=EqIn.array (n:=8) (ks:=[.s]) Tryz.underlying256 (by kernel_rfl) (eq9 d)
theorem zB2 : zcW PP 256 [.s,.s,.s,.s,.s,.s,.s,.s]:=zcW.ofArr Tryz.underlying256 (by kernel_rfl) (zCc 9998)
def TB : TT:=[(23,ty23),(25,ty25),(27,ty27),(35,ty35),(47,ty47),(57,ty57),(79,ty79),(98,ty98),(106,zAb),(133,zAz),(152,zzO),(154,zAd),(36,ty36),(213,zzX),(239,zAR),(3,ty3),(4,ty4),(5,ty5),(9,ty9),(182,zAE),(198,zx9),(199,zyv),(193,zxF),(28,ty28),(31,ty31),(32,ty32),(33,ty33),(41,ty41),(48,ty48),(53,ty53),(76,ty76),(131,zxU),(231,zxG),(73,ty73),(99,ty99),(112,zym),(230,zxJ),(256,zxx),(111,zxK),(94,ty94),(95,ty95),(96,ty96)]
theorem zaw {t : TypeId} {e : TyE} {r : TT} (h : TyOk PP t e∧(∀ ks,e.eqv=some ks→zcW PP t ks)) (hr : zaQ PP r) : zaQ PP ((t,e)::r):=fun t' e' he=>by
 rw [zax] at he
 split at he
 ·rename_i e2; subst e2; cases he; exact h
 ·exact hr t' e' he
theorem zyP : zaQ PP []:=fun _ _ h=>by cases h
theorem zCb : zaQ PP [(95,ty95),(96,ty96)]:=zaw ⟨ok95,fun _ h=>by cases h⟩ (zaw ⟨ok96,fun _ h=>by cases h⟩ (zyP))
theorem zCq : zaQ PP [(198,zx9),(199,zyv),(193,zxF),(28,ty28),(31,ty31),(32,ty32),(33,ty33),(41,ty41),(48,ty48),(53,ty53),(76,ty76),(131,zxU),(231,zxG),(73,ty73),(99,ty99),(112,zym),(230,zxJ),(256,zxx),(111,zxK),(94,ty94),(95,ty95),(96,ty96)]:=zaw ⟨zCB,fun _ h=>by cases h⟩ (zaw ⟨zCy,fun _ h=>by cases h⟩ (zaw ⟨zCw,fun _ h=>by cases h⟩ (zaw ⟨ok28,fun _ h=>by cases h⟩ (zaw ⟨ok31,fun _ h=>by cases h⟩ (zaw ⟨ok32,fun _ h=>by cases h⟩ (zaw ⟨ok33,fun _ h=>by cases h⟩ (zaw ⟨ok41,fun _ h=>by cases h⟩ (zaw ⟨ok48,fun _ h=>by cases h⟩ (zaw ⟨ok53,fun _ h=>by cases h⟩ (zaw ⟨ok76,fun _ h=>by cases h⟩ (zaw ⟨zCg,fun _ h=>by cases h⟩ (zaw ⟨zCe,fun _ h=>by cases h⟩ (zaw ⟨ok73,fun _ h=>by cases h; exact zCG⟩ (zaw ⟨ok99,fun _ h=>by cases h⟩ (zaw ⟨zCj,fun _ h=>by cases h⟩ (zaw ⟨zCu,fun _ h=>by cases h; exact zBa⟩ (zaw ⟨zCh,fun _ h=>by cases h; exact zB2⟩ (zaw ⟨zCm,fun _ h=>by cases h⟩ (zaw ⟨ok94,fun _ h=>by cases h⟩ (zCb))))))))))))))))))))
theorem zCr : zaQ PP [(23,ty23),(25,ty25),(27,ty27),(35,ty35),(47,ty47),(57,ty57),(79,ty79),(98,ty98),(106,zAb),(133,zAz),(152,zzO),(154,zAd),(36,ty36),(213,zzX),(239,zAR),(3,ty3),(4,ty4),(5,ty5),(9,ty9),(182,zAE),(198,zx9),(199,zyv),(193,zxF),(28,ty28),(31,ty31),(32,ty32),(33,ty33),(41,ty41),(48,ty48),(53,ty53),(76,ty76),(131,zxU),(231,zxG),(73,ty73),(99,ty99),(112,zym),(230,zxJ),(256,zxx),(111,zxK),(94,ty94),(95,ty95),(96,ty96)]:=zaw ⟨ok23,fun _ h=>by cases h; exact zCK⟩ (zaw ⟨ok25,fun _ h=>by cases h; exact zCJ⟩ (zaw ⟨ok27,fun _ h=>by cases h; exact zCM⟩ (zaw ⟨ok35,fun _ h=>by cases h⟩ (zaw ⟨ok47,fun _ h=>by cases h; exact zCP⟩ (zaw ⟨ok57,fun _ h=>by cases h; exact zCf⟩ (zaw ⟨ok79,fun _ h=>by cases h⟩ (zaw ⟨ok98,fun _ h=>by cases h⟩ (zaw ⟨zCi,fun _ h=>by cases h; exact zBI⟩ (zaw ⟨zCp,fun _ h=>by cases h; exact zB8⟩ (zaw ⟨zCd,fun _ h=>by cases h; exact zB4⟩ (zaw ⟨zCO,fun _ h=>by cases h; exact zBP⟩ (zaw ⟨ok36,fun _ h=>by cases h⟩ (zaw ⟨zCn,fun _ h=>by cases h⟩ (zaw ⟨zCo,fun _ h=>by cases h⟩ (zaw ⟨ok3,fun _ h=>by cases h⟩ (zaw ⟨ok4,fun _ h=>by cases h⟩ (zaw ⟨ok5,fun _ h=>by cases h⟩ (zaw ⟨ok9,fun _ h=>by cases h⟩ (zaw ⟨zCD,fun _ h=>by cases h⟩ (zCq))))))))))))))))))))
theorem zab : zaQ PP TB:=zCr
theorem mixed : PP.follows .mixedOrders=true:=by kernel_rfl
end Go.Sx
end
section
set_option maxRecDepth 10000
namespace Go.Sx
open Go Go.Proofs
theorem zwo (l : List UInt8) : Fn PP zjd [.string (bs l)] (.string (bs (zcp l))):=by
 refine Fn.of zab mixed zpn rfl rfl (Nat.le_of_ble_eq_true rfl) ?_
 intro w
 conv=>whnf
 refine zak (ι:=List UInt8) (fun k=>⟨[(0,.o (.v (.string (bs k))))],[],[]⟩) (fun k=>zcp k=zcp l) (fun k=>k.length) l rfl (SLe.id ⟨rfl,trivial⟩ trivial (by simp)) ?_
 intro k hk
 conv=>whnf
 refine zah ?_ ?_
 ·intro h
  conv=>whnf
  rcases k with _ | ⟨x,r⟩
  ·simp [bs] at h
  refine ⟨by simp [zfr],?_⟩
  conv=>whnf
  refine zah ?_ ?_
  ·intro h2
   conv=>whnf
   refine ⟨by simp [zfr]; omega,?_⟩
   conv=>whnf
   refine ⟨r,?_,by simp,?_⟩
   ·rw [←hk,zcp,if_pos]
    have h3 : x.toNat=0:=by simpa [zm9] using h2
    exact UInt8.toNat_inj.1 h3
   ·refine SLe.id ⟨?_,trivial⟩ trivial (by simp)
    show some _=some _
    simp [SV.ren,AV.ren,zlL,zfr]
  ·intro h2
   conv=>whnf
   refine zaa ?_
   show Value.string (bs (x::r))=_
   rw [←hk,zcp,if_neg]
   intro h3
   subst h3
   simp [zm9] at h2
 ·intro h
  conv=>whnf
  refine zaa ?_
  have : k=[]:=by
   have h2 : (bs k).data=#[]:=by simpa [ByteArray.toList_eq] using h
   exact congrArg Array.toList h2
  subst this
  show Value.string (bs [])=_
  rw [←hk]; rfl
end Go.Sx
end
section
set_option maxRecDepth 10000
namespace Go.Sx
open Go Go.Proofs
def u32c (x : Nat) : List Value:=[.int .u32 (x : Int)]
abbrev u32V (l : List Nat) : List Value:=rowV u32c l
theorem zau (x : Nat) : (u32c x).length=1:=rfl
theorem zar (l : List Nat) : (u32V l).length=l.length:=by rw [zag zau]; omega
theorem zvY (l : List Nat) (x : Nat) : tr (l++[x])=if x=0 then tr l else l++[x]:=by
 induction l with
 | nil=>simp only [List.nil_append,tr]
 | cons y r ih =>
  by_cases hx : x=0
  ·subst hx
   rw [if_pos rfl] at ih ⊢
   simp only [List.cons_append,tr,ih]
  ·rw [if_neg hx] at ih ⊢
   simp only [List.cons_append,tr,ih]
   cases r <;> rfl
theorem zhy (A : Option Addr) (c : Nat) (l : List Nat) (hc : l.length≤c) (hl : l.length≤1000000000000) : FnM PP zez [.slice A l.length c] (facts [zaf A (u32V l)]) (zbu (.slice A (tr l).length c)):=by
 refine FnS.of zab mixed zjJ rfl rfl (Nat.le_of_ble_eq_true rfl) (by simp [zaf.ok]) ?_
 intro w hw
 conv=>whnf
 refine zak (ι:=Nat) (fun k=>⟨[(0,.o (.v (.slice A k c)))],[],[zaf A (u32V l)]⟩) (fun k=>tr (l.take k)=tr l∧k≤l.length) (fun k=>k) l.length ⟨by rw [List.take_length],Nat.le_refl _⟩ (SLe.id ⟨rfl,trivial⟩ trivial (fun R hR=>hR)) ?_
 rintro k ⟨hk,hkl⟩
 conv=>whnf
 refine zah ?_ ?_
 ·intro h
  have hk0 : 0<k:=by simpa using h
  have hwr : IntKind.i64.wrap ((k : Int)-1)=((k-1 : Nat) : Int):=by rw [wrap_i64 (by omega) (by omega)]; omega
  have hsome : A.isSome=true:=zap (zaK hw) (by rw [zar]; omega)
  conv=>whnf
  refine ⟨⟨by rw [hwr]; omega,by rw [hwr]; omega,hsome⟩,?_⟩
  conv=>whnf
  refine zao.elem u32c zau (List.mem_singleton.2 rfl) rfl (by rw [hwr]; omega) (by decide) (fun _=>rfl) ?_
  rw [hwr]
  intro x hx
  simp only [Int.toNat_natCast] at hx
  have htk : l.take k=l.take (k-1)++[x]:=by
   have:=List.take_add_one (l:=l) (i:=k-1)
   rw [show k-1+1=k by omega,hx] at this
   exact this
  conv=>whnf
  refine zah ?_ ?_
  ·intro h2
   conv=>whnf
   refine ⟨⟨by omega,by rw [hwr]; omega,by rw [hwr]; omega⟩,?_⟩
   conv=>whnf
   refine ⟨k-1,⟨?_,by omega⟩,by omega,?_⟩
   ·rw [htk,zvY,if_pos (by simpa using h2)] at hk
    exact hk
   ·refine SLe.id ⟨?_,trivial⟩ trivial (fun R hR=>hR)
    show some _=some _
    rw [hwr]
    simp only [SV.ren,AV.ren,Option.some.injEq,SV.o.injEq,AV.v.injEq,Value.slice.injEq]
    refine ⟨?_,by omega,by simp⟩
    split
    ·rfl
    ·cases A <;> simp [Addr.add]
  ·intro h2
   conv=>whnf
   refine zaa ?_
   rw [htk,zvY,if_neg (by simpa using h2)] at hk
   rw [←hk,←htk]
   simp [Nat.min_eq_left hkl]
 ·intro h
  conv=>whnf
  refine zaa ?_
  have hk0 : k=0:=by simpa using h
  subst hk0
  rw [←hk]; rfl
end Go.Sx
end
section
set_option maxRecDepth 10000
namespace Go.Sx
open Go Go.Proofs
def pad (B K v : Nat) : List Nat:=(List.range K).map fun j=>v/B ^ j%B
theorem zay (B K v : Nat) : (pad B K v).length=K:=by simp [pad]
theorem zot (B K v j : Nat) (hj : j<K) : (pad B K v)[j]?=some (v/B ^ j%B):=by simp [pad,hj]
theorem znQ {B : Nat} (hB : 0<B) (K v : Nat) : ∀ x∈pad B K v,x<B:=by
 intro x hx
 obtain ⟨j,_,rfl⟩:=List.mem_map.1 hx
 exact Nat.mod_lt _ hB
theorem zxD (B K : Nat) : pad B K 0=List.replicate K 0:=by
 apply List.ext_getElem?
 intro j
 by_cases hj : j<K
 ·rw [zot _ _ _ _ hj]; simp [hj]
 ·rw [List.getElem?_eq_none (by rw [zay]; omega),List.getElem?_eq_none (by simp; omega)]
theorem zqK (B K v : Nat) : pad B (K+1) v=v%B::pad B K (v/B):=by
 simp only [pad,List.range_succ_eq_map,List.map_cons,List.map_map]
 congr 1
 ·simp
 ·apply List.map_congr_left
  intro j _
  simp only [Function.comp,Nat.succ_eq_add_one,Nat.pow_succ]
  rw [Nat.mul_comm,Nat.div_div_eq_div_mul]
theorem zmo {B : Nat} (hB : 0<B) : ∀ (K v : Nat),lv B (pad B K v)=v%B ^ K
 | 0,v=>by simp [pad,lv,Nat.mod_one]
 | K+1,v=>by
  rw [zqK,lv,zmo hB K,Nat.pow_succ,Nat.mul_comm (B ^ K),Nat.mod_mul]
theorem zt6 {B K v : Nat} (hB : 2≤B) (h1 : v<B ^ K) (h2 : K=0∨B ^ (K-1)≤v) : pad B K v=digs B v:=by
 have hlv : lv B (pad B K v)=v:=by rw [zmo (by omega),Nat.mod_eq_of_lt h1]
 have:=zoN hB (pad B K v) (znQ (by omega) K v) (by
   rcases Nat.eq_zero_or_pos K with rfl | hK
   · simp [pad]
   · rw [List.getLast?_eq_getElem?,zay,zot _ _ _ _ (by omega)]
     have h3 : 0<v/B ^ (K-1):=Nat.div_pos (by rcases h2 with h | h; omega; exact h) (Nat.pow_pos (by omega))
     have h4 : v/B ^ (K-1)<B:=by
       apply Nat.div_lt_of_lt_mul
       rw [←Nat.pow_succ,show (K-1).succ=K by omega]; exact h1
     rw [Nat.mod_eq_of_lt h4]
     simp; omega)
 rw [hlv] at this
 exact this.symm
theorem zyo (K i v b : Nat) (hv : v<256 ^ i) (hb : b<256) (hK : i/4<K) :
  pad (2 ^ 32) K (v+b*256 ^ i)=(pad (2 ^ 32) K v).set (i/4) (v/(2 ^ 32) ^ (i/4)%2 ^ 32+b*2 ^ (8*(i%4)))∧v/(2 ^ 32) ^ (i/4)%2 ^ 32<2 ^ (8*(i%4)):=by
 have hi : 4*(i/4)+i%4=i:=Nat.div_add_mod i 4
 have hr : i%4<4:=Nat.mod_lt _ (by omega)
 have h256 : (256 : Nat) ^ i=(2 ^ 32) ^ (i/4)*2 ^ (8*(i%4)):=by
  rw [show (256 : Nat)=2 ^ 8 by rfl,←Nat.pow_mul,←Nat.pow_mul,←Nat.pow_add]
  congr 1; omega
 have hP : 0<(2 ^ 32 : Nat) ^ (i/4):=Nat.pow_pos (by decide)
 have hlow : v/(2 ^ 32) ^ (i/4)<2 ^ (8*(i%4)):=by
  apply Nat.div_lt_of_lt_mul
  rw [←h256]; exact hv
 have hle : 2 ^ (8*(i%4))≤(2 ^ 32 : Nat):=Nat.pow_le_pow_right (by decide) (by omega)
 have hdiv : (v+b*256 ^ i)/(2 ^ 32) ^ (i/4)=v/(2 ^ 32) ^ (i/4)+b*2 ^ (8*(i%4)):=by
  rw [h256,show b*((2 ^ 32) ^ (i/4)*2 ^ (8*(i%4)))=(2 ^ 32) ^ (i/4)*(b*2 ^ (8*(i%4))) by rw [Nat.mul_left_comm],Nat.add_mul_div_left _ _ hP]
 have hb2 : b*2 ^ (8*(i%4))+2 ^ (8*(i%4))≤2 ^ 32:=by
  have h1 : (b+1)*2 ^ (8*(i%4))≤256*2 ^ (8*(i%4)):=Nat.mul_le_mul_right _ hb
  have h2 : 256*2 ^ (8*(i%4))=2 ^ (8+8*(i%4)):=by rw [Nat.pow_add]
  have h3 : (2 : Nat) ^ (8+8*(i%4))≤2 ^ 32:=Nat.pow_le_pow_right (by decide) (by omega)
  rw [Nat.add_mul,Nat.one_mul] at h1
  omega
 rw [Nat.mod_eq_of_lt (Nat.lt_of_lt_of_le hlow hle)]
 refine ⟨?_,hlow⟩
 apply List.ext_getElem?
 intro j
 by_cases hj : j<K
 ·rw [zot _ _ _ _ hj,List.getElem?_set]
  by_cases he : i/4=j
  ·subst he
   rw [if_pos rfl,if_pos (by rw [zay]; exact hK),hdiv,Nat.mod_eq_of_lt (by omega)]
  ·rw [if_neg he,zot _ _ _ _ hj]
   congr 1
   rcases Nat.lt_or_ge j (i/4) with hlt | hge
   ·-- below: a multiple is added
    have : (2 ^ 32 : Nat) ^ (i/4)=(2 ^ 32) ^ j*((2 ^ 32) ^ (i/4-j-1)*2 ^ 32):=by
     rw [←Nat.pow_succ,←Nat.pow_add]; congr 1; omega
    rw [h256,this]
    have h5 : b*((2 ^ 32) ^ j*((2 ^ 32) ^ (i/4-j-1)*2 ^ 32)*2 ^ (8*(i%4)))=(2 ^ 32) ^ j*(2 ^ 32*(b*(2 ^ 32) ^ (i/4-j-1)*2 ^ (8*(i%4)))):=by
     simp only [Nat.mul_assoc,Nat.mul_left_comm,Nat.mul_comm]
    rw [h5,Nat.add_mul_div_left _ _ (Nat.pow_pos (by decide)),Nat.add_mul_mod_self_left]
   ·-- above: nothing is there
    have hz : ∀ u,u<(2 ^ 32 : Nat) ^ (i/4+1)→u/(2 ^ 32) ^ j=0:=fun u hu=>by
     apply Nat.div_eq_of_lt
     exact Nat.lt_of_lt_of_le hu (Nat.pow_le_pow_right (by decide) (by omega))
    have hcap : v+b*256 ^ i<(2 ^ 32 : Nat) ^ (i/4+1):=by
     have h6 : v+b*256 ^ i<(b+1)*256 ^ i:=by rw [Nat.add_mul,Nat.one_mul]; omega
     have h7 : (b+1)*256 ^ i≤(2 ^ 32) ^ (i/4)*2 ^ 32:=by
      rw [h256,Nat.mul_left_comm]
      apply Nat.mul_le_mul_left
      rw [Nat.add_mul,Nat.one_mul]; omega
     rw [Nat.pow_succ]; omega
    rw [hz _ hcap,hz v (by omega)]
 ·rw [List.getElem?_eq_none (by rw [zay]; omega),List.getElem?_eq_none (by rw [List.length_set,zay]; omega)]

theorem zzd {a x s : Nat} (ha : a<2 ^ s) (h : a+x*2 ^ s<2 ^ 32) :
  IntKind.u32.wrap ((BitVec.ofInt IntKind.u32.bits (a : Int) ||| BitVec.ofInt IntKind.u32.bits ((x*2 ^ s : Nat) : Int)).toNat : Int)=((a+x*2 ^ s : Nat) : Int):=by
 rw [IntKind.wrap_u32]
 have h1 : (BitVec.ofInt IntKind.u32.bits (a : Int)).toNat=a:=by
  rw [BitVec.toNat_ofInt]; simp [IntKind.bits]; omega
 have h2 : (BitVec.ofInt IntKind.u32.bits ((x*2 ^ s : Nat) : Int)).toNat=x*2 ^ s:=by
  rw [BitVec.toNat_ofInt]; show ((((x*2 ^ s : Nat) : Int))%((2 ^ 32 : Nat) : Int)).toNat=_; omega
 rw [BitVec.toNat_or,h1,h2,Nat.or_comm,Nat.mul_comm x,←Nat.two_pow_add_eq_or_of_lt ha]
 rw [Nat.mul_comm x] at h
 omega

theorem zzq (l : List UInt8) (hl : l.length≤1000000000000) : FnM PP zeq [.string (bs l)] (facts []) (zdn zat 1 (digs (2 ^ 32) (nat l)).length (u32V (digs (2 ^ 32) (nat l)))):=by
 refine FnO.of zab mixed zq8 rfl rfl (Nat.le_of_ble_eq_true rfl) (by simp) ?_
 intro w hw
 conv=>whnf
 refine zac.fn (zwo l) rfl ?_
 obtain ⟨m,hm⟩ : ∃ m,m=zcp l:=⟨_,rfl⟩
 rw [←hm]
 have hml : m.length≤1000000000000:=by rw [hm]; have:=zlj l; omega
 obtain ⟨n,hn⟩ : ∃ n,n=m.length:=⟨_,rfl⟩
 have hK : IntKind.i64.wrap ((IntKind.i64.wrap (IntKind.i64.wrap (((bs m).size : Int)+4)-1)).tdiv 4)=(((n+3)/4 : Nat) : Int):=by
  rw [zfr,←hn,wrap_i64 (n:=(n : Int)+4) (by omega) (by omega),wrap_i64 (n:=(n : Int)+4-1) (by omega) (by omega),Int.tdiv_eq_ediv_of_nonneg (by omega),wrap_i64 (by omega) (by omega)]
  omega
 conv=>whnf
 refine ⟨by decide,?_⟩
 conv=>whnf
 refine ⟨by rw [hK]; refine ⟨by omega,by omega,?_,by omega⟩; show (4 : Int)*_≤_; omega,?_⟩
 conv=>whnf
 refine zak (ι:=Nat) (fun i=>⟨[(0,.o (.v (.string (bs m)))),(3,.o (.w 13)),(15,.o (.v (.int .i64 n))),(16,.o (.v (.int .i64 i)))],[(13,.own zat 1 ((n+3)/4) (u32V (pad (2 ^ 32) ((n+3)/4) (nat (m.drop (n-i))))))],[]⟩)
  (fun i=>i≤n) (fun i=>n-i) 0 (Nat.zero_le _) (SLe.id ⟨rfl,rfl,by rw [hn]; rfl,rfl,trivial⟩ ⟨⟨_,rfl,?_⟩,trivial⟩ (fun R hR=>hR)) ?_
 ·rw [hK]
  simp only [ME.ren,Int.toNat_natCast]
  rw [Nat.sub_zero,hn,List.drop_length,zgf,zxD]
  simp only [u32V,zb7]
  exact .refl _
 intro i hi
 conv=>whnf
 refine zah ?_ ?_
 ·intro h
  have hi' : i<n:=by simpa using h
  have hk1 : IntKind.i64.wrap (IntKind.i64.wrap (((bs m).size : Int)-1)-(i : Int))=((n-1-i : Nat) : Int):=by
   rw [zfr,←hn,wrap_i64 (n:=(n : Int)-1) (by omega) (by omega),wrap_i64 (by omega) (by omega)]; omega
  have hq : IntKind.i64.wrap ((i : Int).tdiv 4)=((i/4 : Nat) : Int):=by
   rw [Int.tdiv_eq_ediv_of_nonneg (by omega),wrap_i64 (by omega) (by omega)]; omega
  have hr : IntKind.i64.wrap (8*(i : Int).tmod 4)=((8*(i%4) : Nat) : Int):=by
   rw [Int.tmod_eq_emod_of_nonneg (by omega),wrap_i64 (by omega) (by omega)]; omega
  conv=>whnf
  refine zaj.quiet (by kernel_rfl) ?_
  conv=>whnf
  refine ⟨by decide,?_⟩
  conv=>whnf
  refine ⟨by rw [hq]; omega,?_⟩
  conv=>whnf
  refine zbU.elem u32c zau (k:=i/4) (by rw [hq]; rfl) (by rw [zay]; omega) (by decide) (fun _=>rfl) ?_
  intro x hx
  rw [zot _ _ _ _ (by omega),Option.some.injEq] at hx
  conv=>whnf
  refine ⟨by rw [hk1,zfr]; omega,?_⟩
  conv=>whnf
  refine ⟨by decide,?_⟩
  conv=>whnf
  refine ⟨by rw [hr]; omega,?_⟩
  conv=>whnf
  refine ⟨by rw [hq]; omega,?_⟩
  conv=>whnf
  refine ⟨by rw [hq,zar,zay]; exact ⟨by show (i/4)*1+1≤_; omega,by decide⟩,?_⟩
  conv=>whnf
  refine ⟨i+1,hi',by omega,?_⟩
  refine SLe.id ⟨rfl,rfl,rfl,?_,trivial⟩ ⟨⟨_,rfl,?_⟩,trivial⟩ (fun R hR=>hR)
  ·show some (SV.o (.v (.int _ (IntKind.i64.wrap ((i : Int)+1)))))=_
   rw [wrap_i64 (by omega) (by omega)]; rfl
  ·have hlt : n-1-i<m.length:=by omega
   obtain ⟨b,hb⟩ : ∃ b,b=m[n-1-i].toNat:=⟨_,rfl⟩
   have hb256 : b<256:=by rw [hb]; exact UInt8.toNat_lt _
   have hdrop : m.drop (n-(i+1))=m[n-1-i]::m.drop (n-i):=by
    rw [show n-(i+1)=n-1-i by omega,List.drop_eq_getElem_cons hlt,show n-1-i+1=n-i by omega]
   have hlen : (m.drop (n-i)).length=i:=by rw [List.length_drop]; omega
   have hv : nat (m.drop (n-i))<256 ^ i:=by have:=zdx (m.drop (n-i)); rwa [hlen] at this
   have hnat : nat (m.drop (n-(i+1)))=nat (m.drop (n-i))+b*256 ^ i:=by rw [hdrop,zcK,hlen,hb,Nat.add_comm]
   obtain ⟨h1,h2⟩:=zyo ((n+3)/4) i _ b hv hb256 (by omega)
   rw [hx] at h1 h2
   have hle : (2 : Nat) ^ (8*(i%4))*256≤2 ^ 32:=by
    rw [show (256 : Nat)=2 ^ 8 by rfl,←Nat.pow_add]
    exact Nat.pow_le_pow_right (by decide) (by omega)
   have hsum : x+b*2 ^ (8*(i%4))<2 ^ 32:=by
    have h3 : (b+1)*2 ^ (8*(i%4))≤256*2 ^ (8*(i%4)):=Nat.mul_le_mul_right _ hb256
    rw [Nat.add_mul,Nat.one_mul] at h3
    rw [Nat.mul_comm] at hle
    omega
   have hval : sb (bs m) (IntKind.i64.wrap (IntKind.i64.wrap (((bs m).size : Int)-1)-(i : Int)))=(b : Int):=by
    rw [hk1,zm9,Int.toNat_natCast,List.getD_eq_getElem?_getD,List.getElem?_eq_getElem hlt,hb]; rfl
   have hsh : IntKind.u32.wrap (IntKind.u32.wrap (b : Int)*2 ^ min (IntKind.i64.wrap (8*(i : Int).tmod 4)).toNat IntKind.u32.bits)=((b*2 ^ (8*(i%4)) : Nat) : Int):=by
    rw [hr,Int.toNat_natCast,IntKind.wrap_u32 (b : Int),Int.emod_eq_of_lt (by omega) (by omega),show min (8*(i%4)) IntKind.u32.bits=8*(i%4) from Nat.min_eq_left (by show _≤32; omega),IntKind.wrap_u32]
    have : ((b : Int)*2 ^ (8*(i%4)))=((b*2 ^ (8*(i%4)) : Nat) : Int):=by rw [Int.natCast_mul,Int.natCast_pow]; rfl
    rw [this]
    omega
   rw [hval,hsh,zzd h2 hsum,hq,hnat]
   simp only [ME.ren]
   rw [h1]
   have:=zci (f:=u32c) zau (k:=i/4) (l:=pad (2 ^ 32) ((n+3)/4) (nat (m.drop (n-i)))) (x+b*2 ^ (8*(i%4))) (by rw [zay]; omega)
   show MEle (ME.own _ _ _ (putN (i/4*1) (u32c _) (rowV u32c _))) (ME.own _ _ _ (rowV u32c _))
   rw [this]
   exact .refl _
 ·intro h
  have hi' : i=n:=by have : ¬i<n:=by simpa using h
                     omega
  conv=>whnf
  refine ⟨13,rfl,?_⟩
  show some (ME.own zat 1 ((n+3)/4) (u32V (pad (2 ^ 32) ((n+3)/4) (nat (m.drop (n-i))))))=_
  have hnm : nat m=nat l:=by rw [hm,zlD]
  have hdig : pad (2 ^ 32) ((n+3)/4) (nat m)=digs (2 ^ 32) (nat m):=by
   have hpw : ∀ k : Nat,((2 : Nat) ^ 32) ^ k=256 ^ (4*k):=fun k=>by rw [show (256 : Nat)=2 ^ 8 by rfl,←Nat.pow_mul,←Nat.pow_mul]; congr 1; omega
   refine zt6 (by decide) ?_ ?_
   ·rw [hpw]
    exact Nat.lt_of_lt_of_le (zdx m) (Nat.pow_le_pow_right (by decide) (by omega))
   ·rcases Nat.eq_zero_or_pos n with h0 | h0
    ·left; omega
    ·right
     rw [hpw]
     have hh : m.head?≠some 0:=by rw [hm]; exact zjv l
     rcases m with _ | ⟨y,r⟩
     ·simp at hn; omega
     ·have hy : 0<y.toNat:=by
       rcases Nat.eq_zero_or_pos y.toNat with h1 | h1
       ·exact absurd (by rw [UInt8.toNat_inj.1 (show y.toNat=(0 : UInt8).toNat from h1)]; rfl) hh
       ·exact h1
      rw [zcK]
      simp only [List.length_cons] at hn
      have h2 : 256 ^ (4*((n+3)/4-1))≤256 ^ r.length:=Nat.pow_le_pow_right (by decide) (by omega)
      have h3 : 1*256 ^ r.length≤y.toNat*256 ^ r.length:=Nat.mul_le_mul_right _ hy
      omega
  have hlen : (n+3)/4=(digs (2 ^ 32) (nat m)).length:=by rw [←hdig,zay]
  rw [hi',Nat.sub_self,List.drop_zero,hdig,←hnm,←hlen]
end Go.Sx
end
section
set_option maxRecDepth 10000
namespace Go.Sx
open Go Go.Proofs
def cmpN (x y : Nat) : Int:=if x<y then -1 else if y<x then 1 else 0
theorem zpH {B : Nat} (hB : 0<B) {a b : List Nat} {k x y : Nat} (ha : ∀ z∈a,z<B) (hlen : a.length=b.length) (hx : a[k]?=some x) (hy : b[k]?=some y) (hd : a.drop (k+1)=b.drop (k+1)) (hxy : x<y) : lv B a<lv B b:=by
 obtain ⟨hka,rfl⟩:=List.getElem?_eq_some_iff.1 hx
 obtain ⟨hkb,rfl⟩:=List.getElem?_eq_some_iff.1 hy
 have h1 : lv B a=lv B (a.take k)+B ^ k*(a[k]+B*lv B (a.drop (k+1))):=by
  conv=>lhs; rw [←List.take_append_drop k a,List.drop_eq_getElem_cons hka]
  rw [zbE,List.length_take,Nat.min_eq_left (by omega)]; rfl
 have h2 : lv B b=lv B (b.take k)+B ^ k*(b[k]+B*lv B (b.drop (k+1))):=by
  conv=>lhs; rw [←List.take_append_drop k b,List.drop_eq_getElem_cons hkb]
  rw [zbE,List.length_take,Nat.min_eq_left (by omega)]; rfl
 have h3 : lv B (a.take k)<B ^ k:=by
  have:=zkT hB (a.take k) (fun z hz=>ha z (List.mem_of_mem_take hz))
  rwa [List.length_take,Nat.min_eq_left (by omega)] at this
 rw [h1,h2,hd]
 have h4 : B ^ k*(a[k]+B*lv B (b.drop (k+1))+1)≤B ^ k*(b[k]+B*lv B (b.drop (k+1))):=Nat.mul_le_mul_left _ (by omega)
 rw [Nat.mul_add,Nat.mul_one] at h4
 omega
theorem zol (x y : Nat) (A B : Option Addr) (c d : Nat) (hx : (digs (2 ^ 32) x).length≤1000000000000) (hy : (digs (2 ^ 32) y).length≤1000000000000) :
  FnM PP zbo [.slice A (digs (2 ^ 32) x).length c,.slice B (digs (2 ^ 32) y).length d] (facts [zaf A (u32V (digs (2 ^ 32) x)),zaf B (u32V (digs (2 ^ 32) y))]) (zbu (.int .i64 (cmpN x y))):=by
 obtain ⟨a,ha⟩ : ∃ a,a=digs (2 ^ 32) x:=⟨_,rfl⟩
 obtain ⟨b,hb⟩ : ∃ b,b=digs (2 ^ 32) y:=⟨_,rfl⟩
 rw [←ha,←hb]
 rw [←ha] at hx
 rw [←hb] at hy
 have hlva : lv (2 ^ 32) a=x:=by rw [ha,zbD (by decide)]
 have hlvb : lv (2 ^ 32) b=y:=by rw [hb,zbD (by decide)]
 have hal : ∀ z∈a,z<2 ^ 32:=by rw [ha]; exact zbZ (by decide) x
 have hbl : ∀ z∈b,z<2 ^ 32:=by rw [hb]; exact zbZ (by decide) y
 have hshort : ∀ {u v : Nat},(digs (2 ^ 32) u).length<(digs (2 ^ 32) v).length→u<v:=by
  intro u v h
  rcases Nat.lt_or_ge u v with h1 | h1
  ·exact h1
  ·have h2 : v<(2 ^ 32) ^ (digs (2 ^ 32) u).length:=Nat.lt_of_le_of_lt h1 (zbG (by decide))
   have:=za6 (by decide) h2
   omega
 refine FnS.of zab mixed zgS rfl rfl (Nat.le_of_ble_eq_true rfl) (by simp [zaf.ok]) ?_
 intro w hw
 conv=>whnf
 refine zah ?_ ?_
 ·intro h
  have hne : a.length≠b.length:=by
   have : ¬((a.length : Int)=(b.length : Int)):=by simpa using h
   omega
  conv=>whnf
  refine zah ?_ ?_
  ·intro h2
   have hlt : a.length<b.length:=by simpa using h2
   conv=>whnf
   refine zaa ?_
   rw [ha,hb] at hlt
   rw [cmpN,if_pos (hshort hlt)]
  ·intro h2
   have hlt : ¬a.length<b.length:=by simpa using h2
   conv=>whnf
   refine zaa ?_
   have : b.length<a.length:=by omega
   rw [ha,hb] at this
   have:=hshort this
   rw [cmpN,if_neg (by omega),if_pos this]
 ·intro h
  have hlen : a.length=b.length:=by
   have : (a.length : Int)=(b.length : Int):=by simpa using h
   omega
  have hwr : IntKind.i64.wrap ((a.length : Int)-1)=(a.length : Int)-1:=wrap_i64 (by omega) (by omega)
  conv=>whnf
  refine zak (ι:=Nat) (fun k=>⟨[(0,.o (.v (.slice A a.length c))),(1,.o (.v (.slice B b.length d))),(5,.o (.v (.int .i64 ((k : Int)-1))))],[],[zaf A (u32V a),zaf B (u32V b)]⟩) (fun k=>k≤a.length∧a.drop k=b.drop k) (fun k=>k) a.length
   ⟨Nat.le_refl _,by rw [List.drop_length,hlen,List.drop_length]⟩ (SLe.id ⟨rfl,rfl,congrArg (fun z=>some (SV.o (.v (.int .i64 z)))) hwr,trivial⟩ trivial (fun R hR=>hR)) ?_
  rintro k ⟨hk,hdr⟩
  conv=>whnf
  refine zah ?_ ?_
  ·intro h2
   have hk0 : 0<k:=by have : (0 : Int)≤(k : Int)-1:=by simpa using h2
                      omega
   have hA : A.isSome=true:=zap (zbN hw).1 (by rw [zar]; omega)
   have hB : B.isSome=true:=zap (zbN hw).2 (by rw [zar]; omega)
   have hkn : ((k : Int)-1).toNat=k-1:=by omega
   conv=>whnf
   refine zaj.quiet (by kernel_rfl) ?_
   conv=>whnf
   refine ⟨⟨by omega,by omega,hA⟩,?_⟩
   conv=>whnf
   refine zao.elem u32c zau (List.mem_cons_self ..) rfl (by omega) (by decide) (fun _=>rfl) ?_
   intro u hu
   conv=>whnf
   refine ⟨⟨by omega,by omega,hB⟩,?_⟩
   conv=>whnf
   refine zao.elem u32c zau (List.mem_cons_of_mem _ (List.mem_singleton.2 rfl)) rfl (by omega) (by decide) (fun _=>rfl) ?_
   intro v hv
   rw [hkn] at hu hv
   have hdr' : a.drop (k-1+1)=b.drop (k-1+1):=by rw [show k-1+1=k by omega]; exact hdr
   conv=>whnf
   refine zah ?_ ?_
   ·intro h3
    have huv : u<v:=by simpa using h3
    conv=>whnf
    refine zaa ?_
    have:=zpH (by decide) hal hlen hu hv hdr' huv
    rw [hlva,hlvb] at this
    rw [cmpN,if_pos this]
   ·intro h3
    have huv : ¬u<v:=by simpa using h3
    conv=>whnf
    refine zaj.quiet (by kernel_rfl) ?_
    conv=>whnf
    refine ⟨⟨by omega,by omega,hA⟩,?_⟩
    conv=>whnf
    refine zao.elem u32c zau (List.mem_cons_self ..) rfl (by omega) (by decide) (fun _=>rfl) ?_
    intro u' hu'
    rw [hkn] at hu'
    have hu2 : u'=u:=by rw [hu] at hu'; exact (Option.some.inj hu').symm
    subst hu2
    conv=>whnf
    refine ⟨⟨by omega,by omega,hB⟩,?_⟩
    conv=>whnf
    refine zao.elem u32c zau (List.mem_cons_of_mem _ (List.mem_singleton.2 rfl)) rfl (by omega) (by decide) (fun _=>rfl) ?_
    intro v' hv'
    rw [hkn] at hv'
    have hv2 : v'=v:=by rw [hv] at hv'; exact (Option.some.inj hv').symm
    subst hv2
    conv=>whnf
    refine zah ?_ ?_
    ·intro h4
     have huv2 : v' < u':=by simpa using h4
     conv=>whnf
     refine zaa ?_
     have:=zpH (by decide) hbl hlen.symm hv hu hdr'.symm huv2
     rw [hlva,hlvb] at this
     rw [cmpN,if_neg (by omega),if_pos this]
    ·intro h4
     have huv2 : ¬v' < u':=by simpa using h4
     have e : u'=v':=by omega
     conv=>whnf
     refine ⟨k-1,⟨by omega,?_⟩,by omega,?_⟩
     ·obtain ⟨h5,h6⟩:=List.getElem?_eq_some_iff.1 hu
      obtain ⟨h7,h8⟩:=List.getElem?_eq_some_iff.1 hv
      rw [List.drop_eq_getElem_cons h5,List.drop_eq_getElem_cons h7,h6,h8,hdr',e]
     ·refine SLe.id ⟨rfl,rfl,?_,trivial⟩ trivial (fun R hR=>hR)
      show some (SV.o (.v (.int _ (IntKind.i64.wrap ((k : Int)-1-1)))))=_
      rw [wrap_i64 (by omega) (by omega)]
      simp only [SV.ren,AV.ren]
      congr 4; omega
  ·intro h2
   have hk0 : k=0:=by have : ¬(0 : Int)≤(k : Int)-1:=by simpa using h2
                      omega
   subst hk0
   conv=>whnf
   refine zaa ?_
   simp only [List.drop_zero] at hdr
   have : x=y:=by rw [←hlva,←hlvb,hdr]
   rw [cmpN,if_neg (by omega),if_neg (by omega)]
end Go.Sx
end
section
set_option maxRecDepth 10000
namespace Go.Sx
open Go Go.Proofs
def u8c (b : UInt8) : List Value:=[.int .u8 (b.toNat : Int)]
theorem zbA (b : UInt8) : (u8c b).length=1:=rfl
theorem zf5 : ∀ l : List UInt8,rowV u8c l=bytV l
 | []=>rfl
 | x::l=>by rw [rowV,zf5 l]; rfl
theorem zmc (a b : List UInt8) : nat (a++b)=nat a*256 ^ b.length+nat b:=by
 induction a with
 | nil=>simp [zgf]
 | cons x a ih =>
  rw [List.cons_append,zcK,zcK,ih,List.length_append,Nat.pow_add]
  rw [Nat.add_mul,Nat.mul_assoc]; omega
def be4 (x : Nat) : List UInt8:=[UInt8.ofNat (x/2 ^ 24),UInt8.ofNat (x/2 ^ 16),UInt8.ofNat (x/2 ^ 8),UInt8.ofNat x]
theorem zA0 {x : Nat} (hx : x<2 ^ 32) : nat (be4 x)=x:=by
 simp only [be4,zcK,List.length_cons,List.length_nil,zgf,UInt8.toNat_ofNat']
 omega
def be (l : List Nat) : List UInt8:=l.reverse.flatMap be4
theorem zze : ∀ l : List Nat,(∀ x∈l,x<2 ^ 32)→nat (be l)=lv (2 ^ 32) l
 | [],_=>rfl
 | x::l,h=>by
  have ih:=zze l (fun y hy=>h y (List.mem_cons_of_mem _ hy))
  rw [be] at ih ⊢
  rw [List.reverse_cons,List.flatMap_append,zmc,ih,List.flatMap_cons,List.flatMap_nil,List.append_nil,zA0 (h x (by simp)),lv]
  simp only [be4,List.length_cons,List.length_nil]
  omega
theorem zr3 (l : List Nat) : (be l).length=4*l.length:=by
 rw [be]
 have : ∀ r : List Nat,(r.flatMap be4).length=4*r.length:=by
  intro r
  induction r with
  | nil=>rfl
  | cons x r ih=>rw [List.flatMap_cons,List.length_append,ih]; simp [be4]; omega
 rw [this,List.length_reverse]
theorem zAl (x : Nat) (l : List Nat) : be (x::l)=be l++be4 x:=by simp [be]
theorem zqh (x k : Nat) (hx : x<2 ^ 32) : IntKind.u8.wrap ((x : Int).fdiv (2 ^ k))=((UInt8.ofNat (x/2 ^ k)).toNat : Int):=by
 have h2 : ((2 : Int) ^ k)=((2 ^ k : Nat) : Int):=by rw [Int.natCast_pow]; rfl
 rw [IntKind.wrap_u8,UInt8.toNat_ofNat',h2,Int.fdiv_eq_ediv_of_nonneg _ (Int.natCast_nonneg _)]
 have : ((x : Int)/((2 ^ k : Nat) : Int))=((x/2 ^ k : Nat) : Int):=rfl
 rw [this]; omega
theorem zBl (x : Nat) : IntKind.u8.wrap (x : Int)=((UInt8.ofNat x).toNat : Int):=by
 rw [IntKind.wrap_u8,UInt8.toNat_ofNat']; omega

theorem zAf (A : Option Addr) (c : Nat) (l : List Nat) (hl : ∀ x∈l,x<2 ^ 32) (hlen : l.length≤1000000000000) : FnM PP zee [.slice A l.length c] (facts [zaf A (u32V l)]) (zbu (.string (bs (bytes (lv (2 ^ 32) l))))):=by
 refine FnS.of zab mixed zim rfl rfl (Nat.le_of_ble_eq_true rfl) (by simp [zaf.ok]) ?_
 intro w hw
 have hwr : IntKind.i64.wrap ((l.length : Int)-1)=(l.length : Int)-1:=wrap_i64 (by omega) (by omega)
 conv=>whnf
 refine zak (ι:=Nat) (fun k=>⟨[(0,.o (.v (.slice A l.length c))),(3,.o (.w 100)),(4,.o (.v (.int .i64 ((k : Int)-1))))],[(100,.own zaI 1 (4*(l.length-k)) (rowV u8c (be (l.drop k))))],[zaf A (u32V l)]⟩) (fun k=>k≤l.length) (fun k=>k) l.length (Nat.le_refl _)
  ((SLe.nil 3 100 zaI 1 rfl rfl).trans (SLe.id ⟨rfl,rfl,congrArg (fun z=>some (SV.o (.v (.int .i64 z)))) hwr,trivial⟩ ⟨⟨_,rfl,?_⟩,trivial⟩ (fun R hR=>hR))) ?_
 ·rw [Nat.sub_self,List.drop_length]; exact .refl _
 intro k hk
 conv=>whnf
 refine zah ?_ ?_
 ·intro h
  have hk0 : 0<k:=by have : (0 : Int)≤(k : Int)-1:=by simpa using h
                     omega
  have hA : A.isSome=true:=zap (zaK hw) (by rw [zar]; omega)
  have hkn : ((k : Int)-1).toNat=k-1:=by omega
  have hget : l[k-1]?=some l[k-1]:=List.getElem?_eq_getElem (by omega)
  conv=>whnf
  refine zaj.quiet (by kernel_rfl) ?_
  conv=>whnf
  refine ⟨⟨by omega,by omega,hA⟩,?_⟩
  conv=>whnf
  refine zao.elem u32c zau (List.mem_singleton.2 rfl) rfl (by omega) (by decide) (fun _=>rfl) ?_
  rw [hkn]
  intro x hx
  conv=>whnf
  refine ⟨by decide,?_⟩
  conv=>whnf
  refine ⟨⟨by omega,by omega,hA⟩,?_⟩
  conv=>whnf
  refine zao.elem u32c zau (List.mem_singleton.2 rfl) rfl (by omega) (by decide) (fun _=>rfl) ?_
  rw [hkn]
  intro x2 hx2
  obtain rfl : x2=x:=by rw [hx] at hx2; exact (Option.some.inj hx2).symm
  conv=>whnf
  refine ⟨by decide,?_⟩
  conv=>whnf
  refine ⟨⟨by omega,by omega,hA⟩,?_⟩
  conv=>whnf
  refine zao.elem u32c zau (List.mem_singleton.2 rfl) rfl (by omega) (by decide) (fun _=>rfl) ?_
  rw [hkn]
  intro x3 hx3
  obtain rfl : x3=x2:=by rw [hx] at hx3; exact (Option.some.inj hx3).symm
  conv=>whnf
  refine ⟨by decide,?_⟩
  conv=>whnf
  refine ⟨⟨by omega,by omega,hA⟩,?_⟩
  conv=>whnf
  refine zao.elem u32c zau (List.mem_singleton.2 rfl) rfl (by omega) (by decide) (fun _=>rfl) ?_
  rw [hkn]
  intro x4 hx4
  obtain rfl : x4=x3:=by rw [hx] at hx4; exact (Option.some.inj hx4).symm
  have hxb : x4<2 ^ 32:=hl x4 (List.mem_of_getElem? hx)
  conv=>whnf
  refine ⟨⟨by omega,by show _*1≤_; omega⟩,?_⟩
  conv=>whnf
  refine ⟨k-1,by omega,by omega,?_⟩
  refine SLe.mk (fun _=>37) ⟨rfl,rfl,?_,trivial⟩ ⟨⟨_,rfl,?_⟩,trivial⟩ rfl (fun R hR=>hR)
  ·show some (SV.o (.v (.int _ (IntKind.i64.wrap ((k : Int)-1-1)))))=_
   rw [wrap_i64 (by omega) (by omega)]
   simp only [SV.ren,AV.ren]
   congr 4; omega
  ·have hle : be (l.drop (k-1))=be (l.drop k)++be4 x4:=by
    rw [List.drop_eq_getElem_cons (show k-1<l.length by omega),zAl,show k-1+1=k by omega]
    congr 2
    rw [hget] at hx; exact Option.some.inj hx
   show MEle (ME.own _ _ (4*(l.length-k)+4) (app (rowV u8c (be (l.drop k))) [Value.int _ (IntKind.u8.wrap ((x4 : Int).fdiv (2 ^ 24))),Value.int _ (IntKind.u8.wrap ((x4 : Int).fdiv (2 ^ 16))),Value.int _ (IntKind.u8.wrap ((x4 : Int).fdiv (2 ^ 8))),Value.int _ (IntKind.u8.wrap (x4 : Int))])) (ME.own _ _ (4*(l.length-(k-1))) (rowV u8c (be (l.drop (k-1)))))
   rw [zqh x4 24 hxb,zqh x4 16 hxb,zqh x4 8 hxb,zBl,za1,hle,zaC,show 4*(l.length-k)+4=4*(l.length-(k-1)) by omega]
   exact .refl _
 ·intro h
  have hk0 : k=0:=by have : ¬(0 : Int)≤(k : Int)-1:=by simpa using h
                     omega
  subst hk0
  conv=>whnf
  refine ⟨be l,?_,?_,?_⟩
  ·rw [zr3]; omega
  ·rw [List.drop_zero,←zf5,List.take_of_length_le]
   rw [zag zbA,zr3]; omega
  ·conv=>whnf
   refine zac.fn (zwo (be l)) rfl ?_
   conv=>whnf
   refine zaa ?_
   rw [zdL,zze l hl]
end Go.Sx
end
section
set_option maxRecDepth 10000
namespace Go.Sx
open Go Go.Proofs
abbrev intV (neg : Bool) (mag : ByteArray) : Value:=.agg ⟨[.bool neg,.string mag]⟩
abbrev zV (z : Int) : Value:=intV (decide (z<0)) (bs (bytes z.natAbs))
theorem znM (n : Nat) : ((bs (bytes n)).toList==(⟨#[]⟩ : ByteArray).toList)=decide (n=0):=by
 rw [zbn,ByteArray.toList_eq]
 rcases Nat.eq_zero_or_pos n with rfl | h
 ·rw [zaL]; rfl
 ·have : bytes n≠[]:=fun e=>by have:=zeH.1 e; omega
  have h2 : (bytes n==[])=false:=by
   cases hb : bytes n with
   | nil=>exact absurd hb this
   | cons x r=>rfl
  rw [show (⟨#[]⟩ : ByteArray).data.toList=[] from rfl,h2]
  simp; omega
theorem zvV (neg : Bool) (A : Option Addr) (c : Nat) (l : List Nat) (hl : ∀ x∈l,x<2 ^ 32) (hc : l.length≤c) (hlen : l.length≤1000000000000) : FnM PP zc7 [.bool neg,.slice A l.length c] (facts [zaf A (u32V l)]) (zbu (zV (if neg then -(lv (2 ^ 32) l : Int) else lv (2 ^ 32) l))):=by
 refine FnS.of zab mixed zp6 rfl rfl (Nat.le_of_ble_eq_true rfl) (by simp [zaf.ok]) ?_
 intro w hw
 have htl : (u32V l).take (tr l).length=u32V (tr l):=by
  have:=zbm (f:=u32c) zau (tr l).length l
  rw [Nat.mul_one,zeB] at this
  exact this
 have htr : lv (2 ^ 32) (tr l)=lv (2 ^ 32) l:=by rw [zna (by decide) hl,zbD (by decide)]
 have htb : ∀ x∈tr l,x<2 ^ 32:=by rw [zna (by decide) hl]; exact zbZ (by decide) _
 conv=>whnf
 refine zac.cutR (k:=(tr l).length) (zhy A c l hc hlen) (List.mem_singleton.2 rfl) ?_ rfl
 rw [htl]
 conv=>whnf
 have hcs:=zAf A c (tr l) htb (Nat.le_trans (zcB l) hlen)
 refine zac.v hcs.enters (zaB.facts hcs rfl (by intro R hR; rw [List.mem_singleton] at hR; subst hR; exact List.mem_cons_self ..)) ?_
 rw [htr]
 cases neg
 ·conv=>whnf
  refine zaa ?_
  rw [if_neg (by decide)]
  have h1 : decide ((lv (2 ^ 32) l : Int)<0)=false:=by simp
  simp only [zV,intV]
  rw [h1,Int.natAbs_natCast]
 ·conv=>whnf
  refine zaa ?_
  rw [if_pos rfl,znM]
  simp only [zV,intV]
  rw [Int.natAbs_neg,Int.natAbs_natCast]
  have h1 : decide (-(lv (2 ^ 32) l : Int)<0)=(!decide (lv (2 ^ 32) l=0)):=by
   by_cases h : lv (2 ^ 32) l=0
   ·simp [h]
   ·rw [decide_eq_true (show -(lv (2 ^ 32) l : Int)<0 by omega),decide_eq_false h]; rfl
  rw [h1]
theorem c_Of (n : Int) (h1 : -9223372036854775808≤n) (h2 : n≤9223372036854775807) : Fn PP zoE [.int .i64 n] (zV n):=by
 refine Fn.of zab mixed zs9 rfl rfl (Nat.le_of_ble_eq_true rfl) ?_
 intro w
 have key : ∀ (u : Nat) (neg : Bool),u<2 ^ 64→∀ (A : Option Addr) (c : Nat),2≤c→FnM PP zc7 [.bool neg,.slice A 2 c] (facts [zaf A [.int .u32 ((u%2 ^ 32 : Nat) : Int),.int .u32 ((u/2 ^ 32 : Nat) : Int)]]) (zbu (zV (if neg then -(u : Int) else u))):=by
  intro u neg hu A c hc
  have:=zvV neg A c [u%2 ^ 32,u/2 ^ 32] (by intro x hx; simp at hx; omega) hc (by simp)
  have he : lv (2 ^ 32) [u%2 ^ 32,u/2 ^ 32]=u:=by simp only [lv]; omega
  rw [he] at this
  exact this
 have hlo : ∀ u : Nat,u<2 ^ 64→IntKind.u32.wrap (u : Int)=((u%2 ^ 32 : Nat) : Int):=fun u hu=>by rw [IntKind.wrap_u32]; omega
 have hhi : ∀ u : Nat,u<2 ^ 64→IntKind.u32.wrap ((u : Int).fdiv (2 ^ min (32 : Int).toNat IntKind.u64.bits))=((u/2 ^ 32 : Nat) : Int):=fun u hu=>by
  rw [IntKind.wrap_u32,show min (32 : Int).toNat IntKind.u64.bits=32 from rfl,Int.fdiv_eq_ediv_of_nonneg _ (by decide)]; omega
 conv=>whnf
 refine zah ?_ ?_
 ·intro h
  have hn : n<0:=by simpa using h
  obtain ⟨u,hu⟩ : ∃ u : Nat,(u : Int)=-n:=⟨(-n).toNat,by omega⟩
  have hu2 : u<2 ^ 64:=by omega
  have hwu : IntKind.u64.wrap (0-IntKind.u64.wrap n)=(u : Int):=by rw [IntKind.wrap_u64,IntKind.wrap_u64]; omega
  conv=>whnf
  refine ⟨by decide,?_⟩
  conv=>whnf
  have hk:=key u true hu2
  rw [if_pos rfl,show -(u : Int)=n by omega] at hk
  refine zac.v (r:=zV n) (hk none 2 (Nat.le_refl _)).enters (zaB.sl1 (x:=.o (.s 17 0 2 2)) (fun v=>[.bool true,v]) (RdA.box rfl (Nat.le_refl _)) (List.mem_cons_of_mem _ (List.mem_cons_self ..)) ?_ ?_) ?_
  ·intro E
   show [Value.bool (decide (n<0)),_]=_
   rw [decide_eq_true hn]; rfl
  ·rw [hwu,hlo u hu2,hhi u hu2]
   exact hk
  ·conv=>whnf
   exact zaa rfl
 ·intro h
  have hn : ¬n<0:=by simpa using h
  obtain ⟨u,hu⟩ : ∃ u : Nat,(u : Int)=n:=⟨n.toNat,by omega⟩
  have hu2 : u<2 ^ 64:=by omega
  have hwu : IntKind.u64.wrap n=(u : Int):=by rw [IntKind.wrap_u64]; omega
  conv=>whnf
  refine ⟨by decide,?_⟩
  conv=>whnf
  have hk:=key u false hu2
  rw [if_neg (by decide),hu] at hk
  refine zac.v (r:=zV n) (hk none 2 (Nat.le_refl _)).enters (zaB.sl1 (x:=.o (.s 17 0 2 2)) (fun v=>[.bool false,v]) (RdA.box rfl (Nat.le_refl _)) (List.mem_cons_of_mem _ (List.mem_cons_self ..)) ?_ ?_) ?_
  ·intro E
   show [Value.bool (decide (n<0)),_]=_
   rw [decide_eq_false hn]; rfl
  ·rw [hwu,hlo u hu2,hhi u hu2]
   exact hk
  ·conv=>whnf
   exact zaa rfl
end Go.Sx
end
section
set_option maxRecDepth 10000
namespace Go.Sx
open Go Go.Proofs
theorem zcM (B : Nat) (l : List Nat) (x : Nat) : lv B (l++[x])=lv B l+B ^ l.length*x:=by rw [zbE]; simp [lv]
theorem za0 {B i x : Nat} {l : List Nat} (h : l[i]?=some x) : lv B (l.take (i+1))=lv B (l.take i)+B ^ i*x:=by
 obtain ⟨hi,rfl⟩:=List.getElem?_eq_some_iff.1 h
 rw [List.take_add_one,List.getElem?_eq_getElem hi]
 simp only [Option.toList_some]
 rw [zcM,List.length_take,Nat.min_eq_left (by omega)]
theorem zsr {α : Type} {i : Nat} {l : List α} (h : l.length≤i) : l.take (i+1)=l.take i:=by rw [List.take_of_length_le (by omega),List.take_of_length_le h]
theorem zkr {B i cy x y : Nat} {a b o : List Nat} (hB : 0<B) (ho : o.length=i) (hv : lv B o+B ^ i*cy=lv B (a.take i)+lv B (b.take i)) (hx : a[i]?=some x) (hy : b[i]?=some y∨(b.length≤i∧y=0)) :
  lv B (o++[(cy+x+y)%B])+B ^ (i+1)*((cy+x+y)/B)=lv B (a.take (i+1))+lv B (b.take (i+1)):=by
 have h1:=za0 (B:=B) hx
 have h2 : lv B (b.take (i+1))=lv B (b.take i)+B ^ i*y:=by
  rcases hy with h | ⟨h,rfl⟩
  ·exact za0 h
  ·rw [zsr h]; omega
 rw [h1,h2,zcM,ho,Nat.pow_succ,Nat.mul_assoc]
 have h3 : B ^ i*((cy+x+y)%B)+B ^ i*(B*((cy+x+y)/B))=B ^ i*(cy+x+y):=by
  rw [←Nat.mul_add,Nat.mod_add_div]
 rw [Nat.mul_add,Nat.mul_add] at h3
 omega

theorem zzo (A B : Option Addr) (c d : Nat) (a b : List Nat) (ha : ∀ x∈a,x<2 ^ 32) (hb : ∀ x∈b,x<2 ^ 32) (hla : a.length≤100000000000) (hlb : b.length≤100000000000) :
  FnM PP zbH [.slice A a.length c,.slice B b.length d] (facts [zaf A (u32V a),zaf B (u32V b)]) (zdn zat 1 (digs (2 ^ 32) (lv (2 ^ 32) a+lv (2 ^ 32) b)).length (u32V (digs (2 ^ 32) (lv (2 ^ 32) a+lv (2 ^ 32) b)))):=by
 refine FnO.of zab mixed zjO rfl rfl (Nat.le_of_ble_eq_true rfl) (by simp [zaf.ok]) ?_
 intro w hw
 obtain ⟨re,hre⟩ : ∃ re,re=[zaf A (u32V a),zaf B (u32V b)]:=⟨_,rfl⟩
 have hmA : zaf A (u32V a)∈re:=by rw [hre]; simp
 have hmB : zaf B (u32V b)∈re:=by rw [hre]; simp
 have hfA : SlF A (u32V a) w:=(zbN hw).1
 have hfB : SlF B (u32V b) w:=(zbN hw).2
 obtain ⟨s,hs⟩ : ∃ s,s=lv (2 ^ 32) a+lv (2 ^ 32) b:=⟨_,rfl⟩
 rw [←hre,←hs]
 clear hre hw
 conv=>whnf
 refine zah ?_ ?_
 ·intro h
  obtain ⟨A1,a1,c1,B1,b1,d1,eA,ea,ec,eB,eb,ed⟩ : ∃ A1 a1 c1 B1 b1 d1,A1=B∧a1=b∧c1=d∧B1=A∧b1=a∧d1=c:=⟨_,_,_,_,_,_,rfl,rfl,rfl,rfl,rfl,rfl⟩
  have hlen : b1.length≤a1.length:=by
   have : (a.length : Int)<b.length:=by simpa using h
   rw [ea,eb]; omega
  have hs1 : s=lv (2 ^ 32) a1+lv (2 ^ 32) b1:=by rw [hs,ea,eb,Nat.add_comm]
  have ha1 : ∀ x∈a1,x<2 ^ 32:=ea▸hb
  have hb1 : ∀ x∈b1,x<2 ^ 32:=eb▸ha
  have hla1 : a1.length≤100000000000:=ea▸hlb
  have hmA1 : zaf A1 (u32V a1)∈re:=by rw [eA,ea]; exact hmB
  have hmB1 : zaf B1 (u32V b1)∈re:=by rw [eB,eb]; exact hmA
  have hfA1 : SlF A1 (u32V a1) w:=by rw [eA,ea]; exact hfB
  have hfB1 : SlF B1 (u32V b1) w:=by rw [eB,eb]; exact hfA
  conv=>whnf
  rw [←eA,←ea,←ec,←eB,←eb,←ed]
  clear hs hmA hmB hfA hfB ha hb hla hlb
  have hcap : IntKind.i64.wrap ((a1.length : Int)+1)=((a1.length+1 : Nat) : Int):=by rw [wrap_i64 (by omega) (by omega)]; omega
  refine ⟨by rw [hcap]; refine ⟨by decide,by omega,?_,by omega⟩; show (4 : Int)*_≤_; omega,?_⟩
  conv=>whnf
  refine zak (ι:=List Nat×Nat) (fun ⟨o,cy⟩=>⟨[(0,.o (.v (.slice A1 a1.length c1))),(1,.o (.v (.slice B1 b1.length d1))),(5,.o (.w 100)),(6,.o (.v (.int .u64 cy))),(20,.o (.v (.slice A1 a1.length c1))),(21,.o (.v (.int .i64 a1.length))),(22,.o (.v (.int .i64 o.length)))],[(100,.own zat 1 o.length (u32V o))],re⟩)
   (fun ⟨o,cy⟩=>o.length≤a1.length∧cy≤1∧(∀ x∈o,x<2 ^ 32)∧lv (2 ^ 32) o+(2 ^ 32) ^ o.length*cy=lv (2 ^ 32) (a1.take o.length)+lv (2 ^ 32) (b1.take o.length)) (fun ⟨o,cy⟩=>a1.length-o.length) ([],0)
   ⟨Nat.zero_le _,Nat.zero_le _,(fun _ h=>by cases h),rfl⟩ (SLe.mk (fun _=>19) ⟨rfl,rfl,rfl,rfl,rfl,rfl,rfl,trivial⟩ ⟨⟨_,rfl,.refl _⟩,trivial⟩ rfl (fun R hR=>hR)) ?_
  rintro ⟨o,cy⟩ ⟨ho,hcy,hob,hinv⟩
  conv=>whnf
  refine zah ?_ ?_
  ·intro h
   have hi : o.length<a1.length:=by have : (o.length : Int)<a1.length:=by simpa using h
                                    omega
   have hA : A1.isSome=true:=zap hfA1 (by rw [zar]; omega)
   conv=>whnf
   refine ⟨⟨by omega,by omega,hA⟩,?_⟩
   conv=>whnf
   refine zao.elem u32c zau hmA1 rfl (by rw [Int.toNat_natCast]; exact hi) (by decide) (fun _=>rfl) ?_
   rw [Int.toNat_natCast]
   intro x hx
   have hxb : x<2 ^ 32:=ha1 x (List.mem_of_getElem? hx)
   have hc1 : IntKind.u64.wrap ((cy : Int)+IntKind.u64.wrap (x : Int))=((cy+x : Nat) : Int):=by rw [IntKind.wrap_u64,IntKind.wrap_u64]; omega
   conv=>whnf
   refine zah ?_ ?_
   ·intro h2
    have hi2 : o.length<b1.length:=by have : (o.length : Int)<b1.length:=by simpa using h2
                                      omega
    have hB : B1.isSome=true:=zap hfB1 (by rw [zar]; omega)
    conv=>whnf
    refine ⟨⟨by omega,by omega,hB⟩,?_⟩
    conv=>whnf
    refine zao.elem u32c zau hmB1 rfl (by rw [Int.toNat_natCast]; exact hi2) (by decide) (fun _=>rfl) ?_
    rw [Int.toNat_natCast]
    intro y hy
    have hyb : y<2 ^ 32:=hb1 y (List.mem_of_getElem? hy)
    have hc2 : IntKind.u64.wrap (IntKind.u64.wrap ((cy : Int)+IntKind.u64.wrap (x : Int))+IntKind.u64.wrap (y : Int))=((cy+x+y : Nat) : Int):=by rw [hc1,IntKind.wrap_u64,IntKind.wrap_u64]; omega
    conv=>whnf
    refine ⟨⟨by omega,by show _*4≤_; omega⟩,?_⟩
    conv=>whnf
    refine ⟨by decide,?_⟩
    conv=>whnf
    refine ⟨(o++[(cy+x+y)%2 ^ 32],(cy+x+y)/2 ^ 32),⟨?_,?_,?_,?_⟩,?_,?_⟩
    ·simp; omega
    ·show (cy+x+y)/2 ^ 32≤1
     omega
    ·intro z hz
     rcases List.mem_append.1 hz with hz | hz
     ·exact hob z hz
     ·rw [List.mem_singleton.1 hz]; exact Nat.mod_lt _ (by decide)
    ·show lv (2 ^ 32) (o++[(cy+x+y)%2 ^ 32])+(2 ^ 32) ^ (o++[(cy+x+y)%2 ^ 32]).length*((cy+x+y)/2 ^ 32)=lv (2 ^ 32) (a1.take (o++[(cy+x+y)%2 ^ 32]).length)+lv (2 ^ 32) (b1.take (o++[(cy+x+y)%2 ^ 32]).length)
     rw [List.length_append]
     exact zkr (by decide) rfl hinv hx (.inl hy)
    ·simp; omega
    ·refine SLe.mk (fun _=>46) ⟨rfl,rfl,rfl,?_,rfl,rfl,?_,trivial⟩ ⟨⟨_,rfl,?_⟩,trivial⟩ rfl (fun R hR=>hR)
     ·show some (SV.o (.v (.int _ (Int.fdiv _ _))))=some (SV.o (.v (.int _ _)))
      rw [hc2,show min (32 : Int).toNat IntKind.u64.bits=32 from rfl,Int.fdiv_eq_ediv_of_nonneg _ (by decide)]
      rfl
     ·show some (SV.o (.v (.int _ (IntKind.i64.wrap ((o.length : Int)+1)))))=some (SV.o (.v (.int _ (((o++[(cy+x+y)%2 ^ 32]).length : Nat) : Int))))
      rw [wrap_i64 (by omega) (by omega),List.length_append]; rfl
     ·show MEle (ME.own _ _ (o.length+1) (app (rowV u32c o) [Value.int _ (IntKind.u32.wrap _)])) (ME.own _ _ (o++[(cy+x+y)%2 ^ 32]).length (rowV u32c (o++[(cy+x+y)%2 ^ 32])))
      rw [hc2,za1,zaC,List.length_append,IntKind.wrap_u32,show ((cy+x+y : Nat) : Int)%4294967296=(((cy+x+y)%2 ^ 32 : Nat) : Int) by omega]
      exact .refl _
   ·intro h2
    have hi2 : b1.length≤o.length:=by have : ¬(o.length : Int)<b1.length:=by simpa using h2
                                      omega
    conv=>whnf
    refine ⟨⟨by omega,by show _*4≤_; omega⟩,?_⟩
    conv=>whnf
    refine ⟨by decide,?_⟩
    conv=>whnf
    refine ⟨(o++[(cy+x)%2 ^ 32],(cy+x)/2 ^ 32),⟨?_,?_,?_,?_⟩,?_,?_⟩
    ·simp; omega
    ·show (cy+x)/2 ^ 32≤1
     omega
    ·intro z hz
     rcases List.mem_append.1 hz with hz | hz
     ·exact hob z hz
     ·rw [List.mem_singleton.1 hz]; exact Nat.mod_lt _ (by decide)
    ·show lv (2 ^ 32) (o++[(cy+x)%2 ^ 32])+(2 ^ 32) ^ (o++[(cy+x)%2 ^ 32]).length*((cy+x)/2 ^ 32)=lv (2 ^ 32) (a1.take (o++[(cy+x)%2 ^ 32]).length)+lv (2 ^ 32) (b1.take (o++[(cy+x)%2 ^ 32]).length)
     rw [List.length_append]
     exact zkr (y:=0) (by decide) rfl hinv hx (.inr ⟨hi2,rfl⟩)
    ·simp; omega
    ·refine SLe.mk (fun _=>46) ⟨rfl,rfl,rfl,?_,rfl,rfl,?_,trivial⟩ ⟨⟨_,rfl,?_⟩,trivial⟩ rfl (fun R hR=>hR)
     ·show some (SV.o (.v (.int _ (Int.fdiv _ _))))=some (SV.o (.v (.int _ _)))
      rw [hc1,show min (32 : Int).toNat IntKind.u64.bits=32 from rfl,Int.fdiv_eq_ediv_of_nonneg _ (by decide)]
      rfl
     ·show some (SV.o (.v (.int _ (IntKind.i64.wrap ((o.length : Int)+1)))))=some (SV.o (.v (.int _ (((o++[(cy+x)%2 ^ 32]).length : Nat) : Int))))
      rw [wrap_i64 (by omega) (by omega),List.length_append]; rfl
     ·show MEle (ME.own _ _ (o.length+1) (app (rowV u32c o) [Value.int _ (IntKind.u32.wrap _)])) (ME.own _ _ (o++[(cy+x)%2 ^ 32]).length (rowV u32c (o++[(cy+x)%2 ^ 32])))
      rw [hc1,za1,zaC,List.length_append,IntKind.wrap_u32,show ((cy+x : Nat) : Int)%4294967296=(((cy+x)%2 ^ 32 : Nat) : Int) by omega]
      exact .refl _
  ·intro h
   have hi : o.length=a1.length:=by have : ¬(o.length : Int)<a1.length:=by simpa using h
                                    omega
   conv=>whnf
   refine ⟨⟨by omega,by show _*4≤_; omega⟩,?_⟩
   conv=>whnf
   have hrow : app (rowV u32c o) [Value.int .u32 (IntKind.u32.wrap (cy : Int))]=rowV u32c (o++[cy]):=by
    rw [za1,zaC,IntKind.wrap_u32,show (cy : Int)%4294967296=(cy : Int) by omega]; rfl
   have hob2 : ∀ x∈o++[cy],x<2 ^ 32:=fun z hz=>by
    rcases List.mem_append.1 hz with hz | hz
    ·exact hob z hz
    ·rw [List.mem_singleton.1 hz]; omega
   have hval : lv (2 ^ 32) (o++[cy])=s:=by
    rw [zcM,hinv,hi,List.take_length,List.take_of_length_le hlen,hs1]
   have hdig : tr (o++[cy])=digs (2 ^ 32) s:=by rw [zna (by decide) hob2,hval]
   refine zac.cutO (n':=(tr (o++[cy])).length) 55 (fun A c hc=>?_) rfl ?_ rfl rfl ?_ rfl
   ·have:=zhy A c (o++[cy]) (by rw [List.length_append]; exact hc) (by rw [List.length_append]; simp; omega)
    rw [List.length_append] at this
    rw [hrow]
    exact this
   ·have:=zcB (o++[cy]); rw [List.length_append] at this; exact this
   ·conv=>whnf
    refine ⟨55,rfl,?_⟩
    show some (ME.own zat 1 (tr (o++[cy])).length ((app (rowV u32c o) [Value.int .u32 (IntKind.u32.wrap (cy : Int))]).take ((tr (o++[cy])).length*1)))=_
    rw [hrow,zbm zau,zeB,hdig]
 ·intro h
  obtain ⟨A1,a1,c1,B1,b1,d1,eA,ea,ec,eB,eb,ed⟩ : ∃ A1 a1 c1 B1 b1 d1,A1=A∧a1=a∧c1=c∧B1=B∧b1=b∧d1=d:=⟨_,_,_,_,_,_,rfl,rfl,rfl,rfl,rfl,rfl⟩
  have hlen : b1.length≤a1.length:=by
   have : ¬(a.length : Int)<b.length:=by simpa using h
   rw [ea,eb]; omega
  have hs1 : s=lv (2 ^ 32) a1+lv (2 ^ 32) b1:=by rw [hs,ea,eb]
  have ha1 : ∀ x∈a1,x<2 ^ 32:=ea▸ha
  have hb1 : ∀ x∈b1,x<2 ^ 32:=eb▸hb
  have hla1 : a1.length≤100000000000:=ea▸hla
  have hmA1 : zaf A1 (u32V a1)∈re:=by rw [eA,ea]; exact hmA
  have hmB1 : zaf B1 (u32V b1)∈re:=by rw [eB,eb]; exact hmB
  have hfA1 : SlF A1 (u32V a1) w:=by rw [eA,ea]; exact hfA
  have hfB1 : SlF B1 (u32V b1) w:=by rw [eB,eb]; exact hfB
  conv=>whnf
  rw [←eA,←ea,←ec,←eB,←eb,←ed]
  clear hs hmA hmB hfA hfB ha hb hla hlb
  have hcap : IntKind.i64.wrap ((a1.length : Int)+1)=((a1.length+1 : Nat) : Int):=by rw [wrap_i64 (by omega) (by omega)]; omega
  refine ⟨by rw [hcap]; refine ⟨by decide,by omega,?_,by omega⟩; show (4 : Int)*_≤_; omega,?_⟩
  conv=>whnf
  refine zak (ι:=List Nat×Nat) (fun ⟨o,cy⟩=>⟨[(0,.o (.v (.slice A1 a1.length c1))),(1,.o (.v (.slice B1 b1.length d1))),(5,.o (.w 100)),(6,.o (.v (.int .u64 cy))),(20,.o (.v (.slice A1 a1.length c1))),(21,.o (.v (.int .i64 a1.length))),(22,.o (.v (.int .i64 o.length)))],[(100,.own zat 1 o.length (u32V o))],re⟩)
   (fun ⟨o,cy⟩=>o.length≤a1.length∧cy≤1∧(∀ x∈o,x<2 ^ 32)∧lv (2 ^ 32) o+(2 ^ 32) ^ o.length*cy=lv (2 ^ 32) (a1.take o.length)+lv (2 ^ 32) (b1.take o.length)) (fun ⟨o,cy⟩=>a1.length-o.length) ([],0)
   ⟨Nat.zero_le _,Nat.zero_le _,(fun _ h=>by cases h),rfl⟩ (SLe.mk (fun _=>19) ⟨rfl,rfl,rfl,rfl,rfl,rfl,rfl,trivial⟩ ⟨⟨_,rfl,.refl _⟩,trivial⟩ rfl (fun R hR=>hR)) ?_
  rintro ⟨o,cy⟩ ⟨ho,hcy,hob,hinv⟩
  conv=>whnf
  refine zah ?_ ?_
  ·intro h
   have hi : o.length<a1.length:=by have : (o.length : Int)<a1.length:=by simpa using h
                                    omega
   have hA : A1.isSome=true:=zap hfA1 (by rw [zar]; omega)
   conv=>whnf
   refine ⟨⟨by omega,by omega,hA⟩,?_⟩
   conv=>whnf
   refine zao.elem u32c zau hmA1 rfl (by rw [Int.toNat_natCast]; exact hi) (by decide) (fun _=>rfl) ?_
   rw [Int.toNat_natCast]
   intro x hx
   have hxb : x<2 ^ 32:=ha1 x (List.mem_of_getElem? hx)
   have hc1 : IntKind.u64.wrap ((cy : Int)+IntKind.u64.wrap (x : Int))=((cy+x : Nat) : Int):=by rw [IntKind.wrap_u64,IntKind.wrap_u64]; omega
   conv=>whnf
   refine zah ?_ ?_
   ·intro h2
    have hi2 : o.length<b1.length:=by have : (o.length : Int)<b1.length:=by simpa using h2
                                      omega
    have hB : B1.isSome=true:=zap hfB1 (by rw [zar]; omega)
    conv=>whnf
    refine ⟨⟨by omega,by omega,hB⟩,?_⟩
    conv=>whnf
    refine zao.elem u32c zau hmB1 rfl (by rw [Int.toNat_natCast]; exact hi2) (by decide) (fun _=>rfl) ?_
    rw [Int.toNat_natCast]
    intro y hy
    have hyb : y<2 ^ 32:=hb1 y (List.mem_of_getElem? hy)
    have hc2 : IntKind.u64.wrap (IntKind.u64.wrap ((cy : Int)+IntKind.u64.wrap (x : Int))+IntKind.u64.wrap (y : Int))=((cy+x+y : Nat) : Int):=by rw [hc1,IntKind.wrap_u64,IntKind.wrap_u64]; omega
    conv=>whnf
    refine ⟨⟨by omega,by show _*4≤_; omega⟩,?_⟩
    conv=>whnf
    refine ⟨by decide,?_⟩
    conv=>whnf
    refine ⟨(o++[(cy+x+y)%2 ^ 32],(cy+x+y)/2 ^ 32),⟨?_,?_,?_,?_⟩,?_,?_⟩
    ·simp; omega
    ·show (cy+x+y)/2 ^ 32≤1
     omega
    ·intro z hz
     rcases List.mem_append.1 hz with hz | hz
     ·exact hob z hz
     ·rw [List.mem_singleton.1 hz]; exact Nat.mod_lt _ (by decide)
    ·show lv (2 ^ 32) (o++[(cy+x+y)%2 ^ 32])+(2 ^ 32) ^ (o++[(cy+x+y)%2 ^ 32]).length*((cy+x+y)/2 ^ 32)=lv (2 ^ 32) (a1.take (o++[(cy+x+y)%2 ^ 32]).length)+lv (2 ^ 32) (b1.take (o++[(cy+x+y)%2 ^ 32]).length)
     rw [List.length_append]
     exact zkr (by decide) rfl hinv hx (.inl hy)
    ·simp; omega
    ·refine SLe.mk (fun _=>46) ⟨rfl,rfl,rfl,?_,rfl,rfl,?_,trivial⟩ ⟨⟨_,rfl,?_⟩,trivial⟩ rfl (fun R hR=>hR)
     ·show some (SV.o (.v (.int _ (Int.fdiv _ _))))=some (SV.o (.v (.int _ _)))
      rw [hc2,show min (32 : Int).toNat IntKind.u64.bits=32 from rfl,Int.fdiv_eq_ediv_of_nonneg _ (by decide)]
      rfl
     ·show some (SV.o (.v (.int _ (IntKind.i64.wrap ((o.length : Int)+1)))))=some (SV.o (.v (.int _ (((o++[(cy+x+y)%2 ^ 32]).length : Nat) : Int))))
      rw [wrap_i64 (by omega) (by omega),List.length_append]; rfl
     ·show MEle (ME.own _ _ (o.length+1) (app (rowV u32c o) [Value.int _ (IntKind.u32.wrap _)])) (ME.own _ _ (o++[(cy+x+y)%2 ^ 32]).length (rowV u32c (o++[(cy+x+y)%2 ^ 32])))
      rw [hc2,za1,zaC,List.length_append,IntKind.wrap_u32,show ((cy+x+y : Nat) : Int)%4294967296=(((cy+x+y)%2 ^ 32 : Nat) : Int) by omega]
      exact .refl _
   ·intro h2
    have hi2 : b1.length≤o.length:=by have : ¬(o.length : Int)<b1.length:=by simpa using h2
                                      omega
    conv=>whnf
    refine ⟨⟨by omega,by show _*4≤_; omega⟩,?_⟩
    conv=>whnf
    refine ⟨by decide,?_⟩
    conv=>whnf
    refine ⟨(o++[(cy+x)%2 ^ 32],(cy+x)/2 ^ 32),⟨?_,?_,?_,?_⟩,?_,?_⟩
    ·simp; omega
    ·show (cy+x)/2 ^ 32≤1
     omega
    ·intro z hz
     rcases List.mem_append.1 hz with hz | hz
     ·exact hob z hz
     ·rw [List.mem_singleton.1 hz]; exact Nat.mod_lt _ (by decide)
    ·show lv (2 ^ 32) (o++[(cy+x)%2 ^ 32])+(2 ^ 32) ^ (o++[(cy+x)%2 ^ 32]).length*((cy+x)/2 ^ 32)=lv (2 ^ 32) (a1.take (o++[(cy+x)%2 ^ 32]).length)+lv (2 ^ 32) (b1.take (o++[(cy+x)%2 ^ 32]).length)
     rw [List.length_append]
     exact zkr (y:=0) (by decide) rfl hinv hx (.inr ⟨hi2,rfl⟩)
    ·simp; omega
    ·refine SLe.mk (fun _=>46) ⟨rfl,rfl,rfl,?_,rfl,rfl,?_,trivial⟩ ⟨⟨_,rfl,?_⟩,trivial⟩ rfl (fun R hR=>hR)
     ·show some (SV.o (.v (.int _ (Int.fdiv _ _))))=some (SV.o (.v (.int _ _)))
      rw [hc1,show min (32 : Int).toNat IntKind.u64.bits=32 from rfl,Int.fdiv_eq_ediv_of_nonneg _ (by decide)]
      rfl
     ·show some (SV.o (.v (.int _ (IntKind.i64.wrap ((o.length : Int)+1)))))=some (SV.o (.v (.int _ (((o++[(cy+x)%2 ^ 32]).length : Nat) : Int))))
      rw [wrap_i64 (by omega) (by omega),List.length_append]; rfl
     ·show MEle (ME.own _ _ (o.length+1) (app (rowV u32c o) [Value.int _ (IntKind.u32.wrap _)])) (ME.own _ _ (o++[(cy+x)%2 ^ 32]).length (rowV u32c (o++[(cy+x)%2 ^ 32])))
      rw [hc1,za1,zaC,List.length_append,IntKind.wrap_u32,show ((cy+x : Nat) : Int)%4294967296=(((cy+x)%2 ^ 32 : Nat) : Int) by omega]
      exact .refl _
  ·intro h
   have hi : o.length=a1.length:=by have : ¬(o.length : Int)<a1.length:=by simpa using h
                                    omega
   conv=>whnf
   refine ⟨⟨by omega,by show _*4≤_; omega⟩,?_⟩
   conv=>whnf
   have hrow : app (rowV u32c o) [Value.int .u32 (IntKind.u32.wrap (cy : Int))]=rowV u32c (o++[cy]):=by
    rw [za1,zaC,IntKind.wrap_u32,show (cy : Int)%4294967296=(cy : Int) by omega]; rfl
   have hob2 : ∀ x∈o++[cy],x<2 ^ 32:=fun z hz=>by
    rcases List.mem_append.1 hz with hz | hz
    ·exact hob z hz
    ·rw [List.mem_singleton.1 hz]; omega
   have hval : lv (2 ^ 32) (o++[cy])=s:=by
    rw [zcM,hinv,hi,List.take_length,List.take_of_length_le hlen,hs1]
   have hdig : tr (o++[cy])=digs (2 ^ 32) s:=by rw [zna (by decide) hob2,hval]
   refine zac.cutO (n':=(tr (o++[cy])).length) 55 (fun A c hc=>?_) rfl ?_ rfl rfl ?_ rfl
   ·have:=zhy A c (o++[cy]) (by rw [List.length_append]; exact hc) (by rw [List.length_append]; simp; omega)
    rw [List.length_append] at this
    rw [hrow]
    exact this
   ·have:=zcB (o++[cy]); rw [List.length_append] at this; exact this
   ·conv=>whnf
    refine ⟨55,rfl,?_⟩
    show some (ME.own zat 1 (tr (o++[cy])).length ((app (rowV u32c o) [Value.int .u32 (IntKind.u32.wrap (cy : Int))]).take ((tr (o++[cy])).length*1)))=_
    rw [hrow,zbm zau,zeB,hdig]
end Go.Sx
end
section
set_option maxRecDepth 10000
namespace Go.Sx
open Go Go.Proofs
theorem zA9 (v : BitVec 32) : IntKind.u32.wrap (v.toNat : Int)=(v.toNat : Int):=by rw [IntKind.wrap_u32]; have:=v.isLt; omega
theorem zxO (v : BitVec 32) : BitVec.ofInt 32 (v.toNat : Int)=v:=by
 apply BitVec.eq_of_toNat_eq
 rw [BitVec.toNat_ofInt]; have:=v.isLt; omega
theorem ztn {x : Nat} (hx : x<2 ^ 32) : (BitVec.ofInt 32 (x : Int)).toNat=x:=by rw [BitVec.toNat_ofInt]; omega
theorem ztY (v : BitVec 64) : IntKind.u64.wrap (v.toNat : Int)=(v.toNat : Int):=by rw [IntKind.wrap_u64]; have:=v.isLt; omega
theorem zaM {x : Nat} (hx : x<2 ^ 64) : (BitVec.ofInt 64 (x : Int)).toNat=x:=by rw [BitVec.toNat_ofInt]; omega
theorem zzK (v : BitVec 32) : v.toNat/2 ^ 31=v.msb.toNat:=by
 rw [BitVec.msb_eq_decide]
 have:=v.isLt
 by_cases h : 2 ^ (32-1)≤v.toNat
 ·rw [decide_eq_true h]; simp at h ⊢; omega
 ·rw [decide_eq_false h]; simp at h ⊢; omega
theorem tup2 {a b c d : Value} (h : a=c) (k : b=d) : Value.tuple #[a,b]=.tuple #[c,d]:=by rw [h,k]
abbrev u32 (x : Nat) : Value:=.int .u32 (x : Int)
theorem zqt (x y b : Nat) (hx : x<2 ^ 32) (hy : y<2 ^ 32) (hb : b≤1) : Fn PP zfO [u32 x,u32 y,u32 b] (.tuple #[u32 ((2 ^ 32+x-y-b)%2 ^ 32),u32 (if x<y+b then 1 else 0)]):=by
 refine Fn.of zab mixed zl7 rfl rfl (Nat.le_of_ble_eq_true rfl) ?_
 intro w
 have hd : IntKind.u32.wrap (IntKind.u32.wrap ((x : Int)-y)-b)=(((2 ^ 32+x-y-b)%2 ^ 32 : Nat) : Int):=by
  rw [IntKind.wrap_u32,IntKind.wrap_u32]; omega
 conv=>whnf
 refine ⟨by decide,?_⟩
 conv=>whnf
 refine zas ?_
 rw [hd]
 obtain ⟨d,hdd⟩ : ∃ d,d=(2 ^ 32+x-y-b)%2 ^ 32:=⟨_,rfl⟩
 rw [←hdd]
 have hdl : d<2 ^ 32:=by omega
 refine congrArg (fun z=>Value.tuple #[u32 d,.int .u32 z]) ?_
 show (IntKind.u32.wrap (BitVec.toNat (w:=32) (BitVec.ofInt 32 (IntKind.u32.wrap (BitVec.toNat (w:=32) (BitVec.ofInt 32 (IntKind.u32.wrap (BitVec.toNat (w:=32) (BitVec.ofInt 32 4294967295 ^^^ BitVec.ofInt 32 (x : Int))))
  &&& BitVec.ofInt 32 (y : Int)))) ||| BitVec.ofInt 32 (IntKind.u32.wrap (BitVec.toNat (w:=32) (BitVec.ofInt 32 (IntKind.u32.wrap (BitVec.toNat (w:=32) (BitVec.ofInt 32 4294967295 ^^^ BitVec.ofInt 32 (IntKind.u32.wrap (BitVec.toNat (w:=32) (BitVec.ofInt 32 (x : Int) ^^^ BitVec.ofInt 32 (y : Int)))))))
  &&& BitVec.ofInt 32 (d : Int))))))).fdiv (2 ^ 31)=_
 simp only [zA9,zxO]
 rw [Int.fdiv_eq_ediv_of_nonneg _ (by decide)]
 obtain ⟨v,hv⟩ : ∃ v : BitVec 32,v=((BitVec.ofInt 32 4294967295 ^^^ BitVec.ofInt 32 (x : Int)) &&& BitVec.ofInt 32 (y : Int) ||| (BitVec.ofInt 32 4294967295 ^^^ (BitVec.ofInt 32 (x : Int) ^^^ BitVec.ofInt 32 (y : Int))) &&& BitVec.ofInt 32 (d : Int)):=⟨_,rfl⟩
 rw [←hv]
 have h5 : (v.toNat : Int)/2 ^ 31=((v.toNat/2 ^ 31 : Nat) : Int):=rfl
 rw [h5,zzK,hv]
 have hm : (BitVec.ofInt 32 4294967295).msb=true:=by decide
 have hmsb : ∀ z : Nat,z<2 ^ 32→(BitVec.ofInt 32 (z : Int)).msb=decide (2 ^ 31≤z):=fun z hz=>by rw [BitVec.msb_eq_decide,ztn hz]
 simp only [BitVec.msb_or,BitVec.msb_and,BitVec.msb_xor,hm,hmsb x hx,hmsb y hy,hmsb d hdl]
 by_cases h1 : 2 ^ 31≤x <;> by_cases h2 : 2 ^ 31≤y <;> by_cases h3 : 2 ^ 31≤d <;> by_cases h4 : x<y+b <;> simp only [h1,h2,h3,h4,decide_true,decide_false,if_true,if_false] <;> first | rfl | (exfalso; omega)
theorem zzZ (hi lo y : Nat) (h1 : hi<y) (h2 : lo<2 ^ 32) (h3 : y<2 ^ 32) : Fn PP zfT [u32 hi,u32 lo,u32 y] (.tuple #[u32 ((hi*2 ^ 32+lo)/y),u32 ((hi*2 ^ 32+lo)%y)]):=by
 refine Fn.of zab mixed zlu rfl rfl (Nat.le_of_ble_eq_true rfl) ?_
 intro w
 conv=>whnf
 refine zai (by simp; omega) ?_
 conv=>whnf
 refine zae (by simp; omega) ?_
 conv=>whnf
 refine ⟨by decide,?_⟩
 conv=>whnf
 refine zaj.quiet (by kernel_rfl) ?_
 conv=>whnf
 have hor : IntKind.u64.wrap (BitVec.toNat (w:=64) (BitVec.ofInt 64 (IntKind.u64.wrap (IntKind.u64.wrap (hi : Int)*2 ^ min (32 : Int).toNat IntKind.u64.bits)) ||| BitVec.ofInt 64 (IntKind.u64.wrap (lo : Int))) : Int)=((hi*2 ^ 32+lo : Nat) : Int):=by
  have e1 : IntKind.u64.wrap (IntKind.u64.wrap (hi : Int)*2 ^ min (32 : Int).toNat IntKind.u64.bits)=((hi*2 ^ 32 : Nat) : Int):=by
   rw [show min (32 : Int).toNat IntKind.u64.bits=32 from rfl,IntKind.wrap_u64,IntKind.wrap_u64]; omega
  have e2 : IntKind.u64.wrap (lo : Int)=(lo : Int):=by rw [IntKind.wrap_u64]; omega
  rw [e1,e2,ztY,BitVec.toNat_or,zaM (by omega),zaM (by omega),Nat.mul_comm,←Nat.two_pow_add_eq_or_of_lt h2]
 have hy64 : IntKind.u64.wrap (y : Int)=(y : Int):=by rw [IntKind.wrap_u64]; omega
 have hy0 : 0<y:=by omega
 have hq : (hi*2 ^ 32+lo)/y<2 ^ 32:=by
  apply Nat.div_lt_of_lt_mul
  have : (hi+1)*2 ^ 32≤y*2 ^ 32:=Nat.mul_le_mul_right _ h1
  omega
 have hr : (hi*2 ^ 32+lo)%y<y:=Nat.mod_lt _ hy0
 refine ⟨by rw [hy64]; omega,?_⟩
 conv=>whnf
 refine ⟨by rw [hy64]; omega,?_⟩
 conv=>whnf
 refine zas ?_
 refine tup2 (congrArg (Value.int .u32) ?_) (congrArg (Value.int .u32) ?_)
 ·show IntKind.u32.wrap (IntKind.u64.wrap (Int.tdiv (IntKind.u64.wrap (BitVec.toNat (w:=64) (BitVec.ofInt 64 _ ||| BitVec.ofInt 64 _) : Int)) _))=_
  rw [hor,hy64,Int.tdiv_eq_ediv_of_nonneg (by omega)]
  have e3 : ((hi*2 ^ 32+lo : Nat) : Int)/(y : Int)=(((hi*2 ^ 32+lo)/y : Nat) : Int):=rfl
  rw [e3]
  generalize (hi*2 ^ 32+lo)/y=q at hq ⊢
  rw [IntKind.wrap_u64,IntKind.wrap_u32]; omega
 ·show IntKind.u32.wrap (Int.tmod (IntKind.u64.wrap (BitVec.toNat (w:=64) (BitVec.ofInt 64 _ ||| BitVec.ofInt 64 _) : Int)) _)=_
  rw [hor,hy64,Int.tmod_eq_emod_of_nonneg (by omega)]
  have e3 : ((hi*2 ^ 32+lo : Nat) : Int)%(y : Int)=(((hi*2 ^ 32+lo)%y : Nat) : Int):=rfl
  rw [e3]
  generalize (hi*2 ^ 32+lo)%y=q at hr ⊢
  rw [IntKind.wrap_u32]; omega
theorem zzI (x y c : Nat) (hx : x<2 ^ 32) (hy : y<2 ^ 32) (hc : c≤1) : Fn PP zfN [u32 x,u32 y,u32 c] (.tuple #[u32 ((x+y+c)%2 ^ 32),u32 ((x+y+c)/2 ^ 32)]):=by
 refine Fn.of zab mixed zlW rfl rfl (Nat.le_of_ble_eq_true rfl) ?_
 intro w
 conv=>whnf
 refine ⟨by decide,?_⟩
 conv=>whnf
 refine zas ?_
 have hs : IntKind.u64.wrap (IntKind.u64.wrap (IntKind.u64.wrap (x : Int)+IntKind.u64.wrap (y : Int))+IntKind.u64.wrap (c : Int))=((x+y+c : Nat) : Int):=by
  simp only [IntKind.wrap_u64]; omega
 refine tup2 (congrArg (Value.int .u32) ?_) (congrArg (Value.int .u32) ?_)
 ·show IntKind.u32.wrap (IntKind.u64.wrap (IntKind.u64.wrap (IntKind.u64.wrap (x : Int)+IntKind.u64.wrap (y : Int))+IntKind.u64.wrap (c : Int)))=_
  rw [hs,IntKind.wrap_u32]; omega
 ·show IntKind.u32.wrap (Int.fdiv (IntKind.u64.wrap (IntKind.u64.wrap (IntKind.u64.wrap (x : Int)+IntKind.u64.wrap (y : Int))+IntKind.u64.wrap (c : Int))) (2 ^ 32))=_
  rw [hs,IntKind.wrap_u32,Int.fdiv_eq_ediv_of_nonneg _ (by decide)]; omega
end Go.Sx
end
