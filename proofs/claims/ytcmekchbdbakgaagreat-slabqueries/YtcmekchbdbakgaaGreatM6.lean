/- A part of the proof of a law. No conditions. -/
import Derived.Test.YtcmekchbdbakgaaGreatM5
import Derived.Shelf.SlSortCmp.NoneTotal
import Derived.Shelf.SlLaysF0
import Derived.Shelf.SlGeneric
import Derived.Test.YtcmekchbdbakgaaGreatProg
import Derived.ProofKit
import Derived.OpenShut
import Derived.Carry
import Derived.ChangeArms
import Derived.Deep.Slices
import Derived.KernelRfl
set_option linter.unusedVariables false
set_option linter.unusedSimpArgs false
set_option linter.unusedSectionVars false
set_option maxRecDepth 10000
set_option maxHeartbeats 8000000
section
namespace Go.Sx
open Go Go.Proofs
section
variable {P : Program} {C : Cx} {st : SS}
theorem cf {g : FuncId} {args : List SV} {vs : List Value} {r : Value} {K : SV->SS->Prop} (h : Fn P g vs r) (hk : K (.o (.v r)) st) (ha : args=vsv vs:=by rfl) : zae P C g args st K:=zzt h ha hk
theorem cd {g : FuncId} {args : List SV} {d : Option Tmp} {vs : List Value} {r : Value} {K : SV->Option ME->Prop} (h : Fn P g vs r) (hk : K (.o (.v r)) none) (ha : args=vsv vs:=by rfl) : zaf P g args d st K:=zzu h ha hk
theorem cfs {g : FuncId} {args : List SV} {vs : List Value} {re : List Res} {r : Value} {K : SV->SS->Prop} (h : FnM P g vs (facts re) (zaR r)) (hk : K (.o (.v r)) st) (ha : args=vsv vs:=by rfl) (hre : ∀ R∈re,R∈st.re:=by first | exact fun R h=>h | simp) : zae P C g args st K :=
 zzr h.enters (zzq h ha hre) hk
theorem cds {g : FuncId} {args : List SV} {d : Option Tmp} {vs : List Value} {re : List Res} {r : Value} {K : SV->Option ME->Prop} (h : FnM P g vs (facts re) (zaR r)) (hk : K (.o (.v r)) none) (ha : args=vsv vs:=by rfl) (hre : ∀ R∈re,R∈st.re:=by first | exact fun R h=>h | simp) : zaf P g args d st K :=
 zA9 h.enters (zzq h ha hre) hk
end
structure Bx where
 lo : Pt
 hi : Pt
def boxC (b : Bx) : List Value:=ptC b.lo++ptC b.hi
abbrev bxV (b : Bx) : Value:=.agg ⟨boxC b⟩
def Bx.sm (k : Nat) (b : Bx) : Prop:=b.lo.sm k/\b.hi.sm k
def Bx.good (b : Bx) : Prop:=b.lo.ok/\b.hi.ok/\b.lo.x.v<b.hi.x.v/\b.lo.y.v<b.hi.y.v
instance (b : Bx) : Decidable b.good:=inferInstanceAs (Decidable (_/\_))
theorem zoB (b : Bx) (hb : b.sm KK) : Fn PP 38 [bxV b] (.bool (decide b.good)):=by
 refine zzn zab mixed Tryz.func38 rfl rfl (zxW rfl) ?_;intro w;conv=>whnf
 refine cf (zg6 b.lo hb.1) ?_;by_cases h1 : b.lo.ok;rotate_left
 ·rw [zxI h1];conv=>whnf
  refine zaa ?_;rw [zz9 (fun h=>h1 h.1)]
 rw [zxJ h1];conv=>whnf
 refine cf (zg6 b.hi hb.2) ?_;by_cases h2 : b.hi.ok;rotate_left
 ·rw [zxI h2];conv=>whnf
  refine zaa ?_;rw [zz9 (fun h=>h2 h.2.1)]
 rw [zxJ h2];conv=>whnf
 refine cf (zbp b.lo.x b.hi.x hb.1.1 hb.2.1) ?_;conv=>whnf
 by_cases h3 : b.lo.x.v<b.hi.x.v;rotate_left
 ·refine zac (zz9 (fun h=>h3 (zbj.1 h))) ?_;conv=>whnf
  refine zaa ?_;rw [zz9 (fun h=>h3 h.2.2.1)]
 refine zag (zz8 (zbj.2 h3)) ?_;conv=>whnf
 refine cf (zbp b.lo.y b.hi.y hb.1.2 hb.2.2) ?_;conv=>whnf
 refine zaa (zyr Value.bool (decide_eq_decide.2 ?_));rw [zbj];exact ⟨fun h=>⟨h1,h2,h3,h⟩,fun h=>h.2.2.2⟩
theorem zkR (x y : Rat) (hx : Sz KV x) (hy : Sz KV y) : Fn PP 58 [qV x,qV y] (qV ((x+y)/2)):=by
 refine zzn zab mixed Tryz.func58 rfl rfl (zxW rfl) ?_;intro w;conv=>whnf
 refine cf (zkl (Q x) (Q y) (hx.q.le (by decide)) (hy.q.le (by decide))) ?_;rw [Q_v,Q_v];conv=>whnf
 refine cf (zqP 2 (by decide) (by decide)) ?_;conv=>whnf
 refine cf (zkW (Q (x+y)) (Q ((2 : Int) : Rat)) ((hx.add hy).q.le (by decide)) ((show Sz 1 ((2 : Int) : Rat) from ⟨by decide,by decide⟩).q.le (by decide))) ?_;rw [Q_v,Q_v,quoV,zxI (by decide)];conv=>whnf
 exact zaa rfl
def hgtE (A B : V) (x : Rat) : Rat×Int :=
 if (B-A).x=0 then (0,24) else if zdK ((x-A.x)/(B-A).x)=true then (A.y+(x-A.x)/(B-A).x*(B-A).y,0) else (0,14)
def zcV (s : Sg) (x : Rat) : Rat×Int:=if zb3 s then (0,12) else hgtE s.A.v s.B.v x
theorem zmt (s : Sg) (x : Raw) (hs : s.sm KS) (hx : x.sm KV) : Fn PP 161 [sV s,rawV x] (.tuple #[qV (zcV s x.v).1,.int .i64 (zcV s x.v).2]):=by
 refine zzn zab mixed Tryz.func161 rfl rfl (zxW rfl) ?_;intro w;have zA:=hs.1.sz (by decide);have zB:=hs.2.sz (by decide);have zx:=Raw.sz (by decide) hx.1 hx.2;conv=>whnf
 refine cf (zhd s hs) ?_;rw [zcE];by_cases hd : zb3 s
 ·rw [zcV,zxJ hd,zxJ hd];conv=>whnf
  exact zau (by rw [qV,zlL])
 rw [zcV,zxI hd,zxI hd];conv=>whnf
 refine cf (zfg s ⟨hs.1.le (by decide),hs.2.le (by decide)⟩) ?_;have zd:=zB.sub zA;generalize hD : s.B.v-s.A.v=d at zd;rw [hgtE,hD];conv=>whnf
 refine zy4 [(12,7,[10])] (by kernel_rfl) ?_;conv=>whnf
 refine cd (zec x s.A.x (hx.le (by decide)) (hs.1.1.le (by decide))) ?_;have zf:=zx.sub zA.1;rw [show s.A.v.x=s.A.x.v from rfl] at *;generalize x.v-s.A.x.v=f at zf ⊢;conv=>whnf
 refine cd (zkW (Q f) (Q d.x) (zf.q.le (by decide)) (zd.1.q.le (by decide))) ?_;rw [Q_v,Q_v,quoV];by_cases h0 : d.x=0
 ·rw [zxJ h0,zxJ h0];conv=>whnf
  exact zau (by rw [qV,zlL])
 rw [zxI h0,zxI h0];have zt:=zf.div zd.1;generalize f/d.x=t at zt ⊢;conv=>whnf
 refine cf (zqM (Q t) (zt.q.le (by decide))) ?_;rw [Q_v]
 cases hu : zdK t with
 | false =>
  rw [zxI (by decide)];conv=>whnf
  exact zau (by rw [qV,zlL])
 | true =>
  rw [zxJ rfl];conv=>whnf
  refine zak.qk ?_;conv=>whnf
  refine cd (ziQ (Q t) (Q d.y) (zt.q.le (by decide)) (zd.2.q.le (by decide))) ?_;rw [Q_v,Q_v];conv=>whnf
  refine cd (zkl s.A.y (Q (t*d.y)) (hs.1.2.le (by decide)) ((zt.mul zd.2).q.le (by decide))) ?_;rw [Q_v];conv=>whnf
  exact zau rfl
end Go.Sx
end
section
namespace Go.Sx
open Go Go.RowKit
theorem Bel.grow {w w' : World} (h : Bel w.heap.size w w') : ∃ q os,w'=Go.Sort.grow (w.drewN q) os:=by
 refine ⟨w'.drawn-w.drawn,w'.heap.extract w.heap.size w'.heap.size,?_⟩;obtain ⟨h1,h2,h3,h4,h5,h6⟩:=h;have hh : w'.heap=w.heap++w'.heap.extract w.heap.size w'.heap.size:=by
  apply Array.ext_getElem?;intro k;by_cases hk : k<w.heap.size
  ·rw [zzb hk,h5 k hk]
  ·rw [Array.getElem?_append_right (by omega),Array.getElem?_extract];split
   ·rw [show w.heap.size+(k-w.heap.size)=k by omega]
   ·rw [zyX (by omega)]
 cases w; cases w'
 simp only at h1 h2 h3 h6 hh;subst h1 h2 h3;simp only [Go.Sort.grow,World.drewN,World.mk.injEq];exact ⟨hh,trivial,by omega,trivial,trivial⟩
section
variable {α : Type} [Inhabited α]
theorem zqX {f : α->List Value} {k : Nat} (hk : ∀ x,(f x).length=k) {l : List α} {i j : Nat} {x : α} (hx : l[i]?=some x) (hj : j<k) : (rowV f l)[i*k+j]?=(f x)[j]?:=by
 rw [<-zdB hk hx,zx7,zxJ hj,zx8]
theorem znS {enc : α->List Value} {k : Nat} (hk : ∀ x,(enc x).length=k) (d : List α) : Go.Sort.flatK enc k d.toArray=(rowV enc d).toArray:=by
 refine Go.Sort.ext_get! (by simp [zad hk]) fun t ht=>?_
 rw [Go.Sort.size_flatK] at ht;have ht' : t<d.length*k:=by simpa using ht
 have k0 : 0<k:=by rcases zyf k with h | h; · subst h; simp at ht'
                   · exact h
 rw [Go.Sort.get_flatK _ _ _ _ ht];have hi : t/k<d.length:=zzK (by rw [zzG]; exact ht');have hx : d[t/k]?=some d[t/k]:=zyy hi;have hj : t%k<k:=zyl _ k0;have h1:=zqX hk hx hj;rw [Nat.div_add_mod'] at h1;have hl : t<(rowV enc d).length:=by rw [zad hk]; exact ht'
 have hl2 : t%k<(enc d[t/k]).length:=by rw [hk]; exact hj
 have e1 : d.toArray[t/k]! = d[t/k]:=by rw [getElem!_pos d.toArray (t/k) (by simpa using hi)]; simp
 have e2 : (rowV enc d).toArray[t]! = (rowV enc d)[t]:=by rw [getElem!_pos (rowV enc d).toArray t (by simpa using hl)]; simp
 have e3 : (enc d[t/k])[t%k]! = (enc d[t/k])[t%k]:=getElem!_pos (enc d[t/k]) (t%k) hl2;rw [e1,e2,e3];rw [zyy hl,zyy hl2] at h1;exact (zz1 h1).symm
theorem zlF {xs ys junk : List Value} (h : ys.length=xs.length) : Go.Sort.putCells id 0 ys.toArray (xs++junk).toArray=(ys++junk).toArray:=by
 apply Array.ext_getElem?;intro j;simp only [Go.Sort.putCells,Array.getElem?_mapIdx,zx3];by_cases hj : j<ys.length
 ·rw [zyd hj,zyd (by omega),zyy (by omega),zyy hj,zxp,zxJ ⟨zyD _,by simpa using hj⟩];simp [hj]
 ·rw [zyg (by omega),zyg (by omega),h];have : ¬(0<=j/\j<0+ys.toArray.size):=fun k=>hj (by simpa using k.2)
  cases junk[j-xs.length]? with
  | none=>rfl
  | some v=>rw [zxp,zxI this]
theorem FnW.sortK {P : Program} {ρ : Go.Shelf.Ren} (L : Go.Proofs.SlLaysF0.n6 P ρ) (k : Nat) (aE : ∀ w,(isAgg (ρ.t 24)).run P w=.ok true w) (zE : ∀ w,(Go.sizeOf (ρ.t 24)).run P w=.ok k w) (enc : α->List Value) (hk : ∀ x,(enc x).length=k) (h1 : ∀ x,∀ v∈enc x,v.oneCell'=true) (cf : α->α->Int)
  (hO : Go.Sort.SWO (Go.Proofs.ltOf cf)) (hT : ∀ x y,Go.Proofs.ltOf cf x y=false->Go.Proofs.ltOf cf y x=false->x=y) (g : Nat) (hg : ∀ x y,Fn P g [.agg ⟨enc x⟩,.agg ⟨enc y⟩] (.int .i64 (cf x y))) (t : TypeId) (d : List α) (hd : d.length<4611686018427387904) :
  FnW P (ρ.f 6) [.func (.func g) #[] #[]] [] t d.length (rowV enc d) (rowV enc (d.mergeSort fun x y=>!(Go.Proofs.ltOf cf) y x)) (.tuple #[]):=by
 refine ⟨L.f6.enters rfl,fun w b cap junk hheap hcap _ _=>?_⟩;have hbs:=(zxv.1 hheap).1;have hlen : (rowV enc (d.mergeSort fun x y=>!(Go.Proofs.ltOf cf) y x)).length=(rowV enc d).length:=by rw [zad hk,zad hk,List.length_mergeSort]
 have hH : Go.Sort.HoldsK enc k w b 0 d.toArray:=by
  unfold Go.Sort.HoldsK;rw [znS hk];intro j hj;have hj : j<(rowV enc d).length:=by simpa using hj
  rw [zyo];constructor
  ·rw [zcg hheap,zx3,zyd hj,zyy hj];simp [hj]
  ·simp [World.frozen?,hheap]
 have hc:=Go.Proofs.AnyQ.slices_SortFunc_total L k aE zE enc hk h1 cf hO g #[] b 0 cap d.toArray w (fun args w=>(hg default default).enters args w) (fun m os dk _ x y=>by
  have:=((hg x y).calls (Go.Proofs.sortWorldK enc k w b 0 m dk os) trivial).mono (R':=fun e w'=>e=.returned (.int .i64 (cf x y))/\∃ q os',w'=Go.Sort.grow ((Go.Proofs.sortWorldK enc k w b 0 m dk os).drewN q) os') (by
   rintro e w' ⟨rfl,hb⟩; exact ⟨rfl,hb.grow⟩)
  simpa using this) hH hbs (by simpa using hd) hT
 simp only [zyE] at hc;refine hc.mono ?_;rintro e w' ⟨rfl,n,os,rfl⟩;have hheap' : (Go.Proofs.sortWorldK enc k w b 0 n (d.mergeSort fun x y=>!(Go.Proofs.ltOf cf) y x).toArray os).heap=w.heap.modify b (Go.Sort.onCells (Go.Sort.putCells id 0 (rowV enc (d.mergeSort fun x y=>!(Go.Proofs.ltOf cf) y x)).toArray))++os:=by
  unfold Go.Proofs.sortWorldK Go.Sort.grow Go.Sort.putRowK Go.Sort.putRow Go.Sort.mapBlock Go.Sort.ahead;rw [znS hk]
 have hold : ∀ c,c<w.heap.size->(Go.Proofs.sortWorldK enc k w b 0 n (d.mergeSort fun x y=>!(Go.Proofs.ltOf cf) y x).toArray os).heap[c]?=if b=c then (w.heap[c]?).map (Go.Sort.onCells (Go.Sort.putCells id 0 (rowV enc (d.mergeSort fun x y=>!(Go.Proofs.ltOf cf) y x)).toArray)) else w.heap[c]?:=fun c hc=>by
  rw [hheap',zzb (by simpa using hc),Array.getElem?_modify]
 refine ⟨rfl,?_,⟨rfl,rfl,rfl,?_,fun c hc hne=>?_⟩,?_⟩
 ·rw [hold b hbs,zxJ rfl,hheap];simp only [zxp,Go.Sort.onCells];rw [zlF hlen]
 ·rw [hheap']; simp
 ·rw [hold c hc,zxI (fun e=>hne (by rw [e]))]
 ·exact Nat.le_add_right _ _
end
section
variable {P : Program} {T : TT} {C : Cx} {E : Env} {st : SS}
theorem zaV.wrote {w w' : World} (hm : zaV C E st.me st.re w) {k b : Nat} {m0 m' : ME} (hk : lk k st.me=some m0) (hβ : E.β k=some b) (hg : w.grownBy w' (some b)) (hdr : w.drawn<=w'.drawn) (hnew : MEok E w' k m') : zaV C E (setL k m' st.me) st.re w':=by
 have hoth : ∀ c,c<w.heap.size->c≠b->w'.heap[c]?=w.heap[c]?:=fun c hc hcb=>hg.block c hc (fun e=>hcb (zz1 e))
 have hsel : ∀ {j m},lk j (setL k m' st.me)=some m->(j=k/\m=m')\/(j≠k/\lk j st.me=some m):=by
  intro j m hj;rw [zdv] at hj;split at hj
  ·rename_i e; rw [hk] at hj; cases hj; exact .inl ⟨e,rfl⟩
  ·rename_i e; exact .inr ⟨e,hj⟩
 have hsz:=hg.size;refine ⟨fun j m hj=>?_,fun j m c hj hc=>?_,fun j j' m m' c hj hj' hc hc'=>?_,fun R hR=>?_,?_,fun j c m hX hj=>?_⟩
 ·rcases hsel hj with ⟨rfl,rfl⟩ | ⟨hne,hj⟩
  ·exact hnew
  ·exact (hm.ent j m hj).of_block (fun c hc=>hoth c (hm.ge _ _ _ hj hc).2 (fun e=>hne (hm.inj _ _ _ _ _ hj hk hc (by rw [e]; exact hβ))))
 ·rcases hsel hj with ⟨rfl,rfl⟩ | ⟨hne,hj⟩
  ·have:=hm.ge _ _ _ hk hc; exact ⟨this.1,by omega⟩
  ·have:=hm.ge _ _ _ hj hc; exact ⟨this.1,by omega⟩
 ·have h1 : ∃ m,lk j st.me=some m:=by rcases hsel hj with ⟨rfl,_⟩ | ⟨_,hj⟩; exact ⟨_,hk⟩; exact ⟨_,hj⟩
  have h2 : ∃ m,lk j' st.me=some m:=by rcases hsel hj' with ⟨rfl,_⟩ | ⟨_,hj⟩; exact ⟨_,hk⟩; exact ⟨_,hj⟩
  obtain ⟨_,h1⟩:=h1;obtain ⟨_,h2⟩:=h2;exact hm.inj _ _ _ _ _ h1 h2 hc hc'
 ·obtain ⟨r1,r2,r3⟩:=hm.res R hR;have hne : ∀ c∈R.bs,w'.heap[c]?=w.heap[c]?:=fun c hc=>hoth c (r3 c hc).1.lt (fun e=>(r3 c hc).2 k _ hk (by rw [e]; exact hβ))
  refine ⟨r1,r1 _ _ r2 hne,fun c hc=>⟨(r3 c hc).1.keep (hne c hc),fun j m hj hjc=>?_⟩⟩;rcases hsel hj with ⟨rfl,rfl⟩ | ⟨_,hj⟩
  ·exact (r3 c hc).2 _ _ hk hjc
  ·exact (r3 c hc).2 _ _ hj hjc
 ·have hx:=hm.ext;refine ⟨hg.os.trans hx.os,hg.tape.trans hx.tape,hg.output.trans hx.output,zxs hx.size hg.size,fun c hc hnx=>?_,zxs hx.drawn hdr⟩;refine (hoth c (zxw hc hx.size) (fun e=>?_)).trans (hx.block c hc hnx);subst e;rcases (hm.ge _ _ _ hk hβ).1 with h7 | h7
  ·omega
  ·exact hnx h7
 ·rcases hsel hj with ⟨e,rfl⟩ | ⟨_,hj⟩
  ·have:=hm.rig j c _ hX (by rw [e]; exact hk); exact this
  ·exact hm.rig j c m hX hj
theorem KD.wrote {w w' : World} {b : Nat} {cs : Array Value} {t : TypeId} {fr : Nat×Nat} (hg : w.grownBy w' (some b)) (hc : w.heap[b]?=some (.cells cs t fr)) : KD w w':=fun c hcc=>by
 refine (hg.block c (zxv.1 hcc).1 (fun e=>?_)).trans hcc;have e:=zz1 e;subst e;rw [hc] at hcc; cases hcc
theorem zae.ws {g : FuncId} {vs : List Value} {re : List Res} {t n c k : Nat} {cs xs ys junk : List Value} {r : Value} {K : SV->SS->Prop} (h : FnW P g vs re t n xs ys r) (hk : lk k st.me=some (.sym cs t)) (hcs : cs=xs++junk) (hnc : n<=c)
  (hre : ∀ R∈re,R∈st.re) (hK : K (.o (.v r)) { st with me:=setL k (.sym (ys++junk) t) st.me }) {args : List SV} (ha : args=.o (.s k 0 n c)::vsv vs) : zae P C g args st K:=by
 subst ha hcs;refine ⟨h.enters,fun E w hm=>?_⟩;obtain ⟨b,hβ,hheap⟩:=hm.ent _ _ hk;have hreal : (SV.o (.s k 0 n c)).real E=.slice (some ⟨b,0,none⟩) n c:=by simp [SV.real,AV.real,hβ]
 rw [zxT,zbk,hreal];refine (h.calls w b c junk hheap hnc (fun R hR=>(hm.res R (hre R hR)).2.1) (fun R hR hb=>((hm.res R (hre R hR)).2.2 b hb).2 k _ hk hβ)).mono ?_;rintro e w' ⟨rfl,hnew,hg,hdr⟩;exact ⟨E,{ st with me:=setL k (.sym (ys++junk) t) st.me },.o (.v r),rfl,hm.wrote hk hβ hg hdr ⟨b,hβ,hnew⟩,KD.wrote hg hheap,fun i sv hi=>⟨sv,hi,rfl⟩,hK⟩
structure FnC (P : Program) (f : FuncId) (vs : List Value) (re : List Res) (t n : Nat) (xs : List Value) (m : Nat) (ys : List Value) : Prop where
 enters : Enters P f
 calls : ∀ (w : World) (b cap : Nat) (junk : List Value),w.heap[b]?=some (.cells (xs++junk).toArray t (0,0))->n<=cap->facts re w->(∀ R∈re,b ∉ R.bs) ->
  Calls P f (Value.slice (some ⟨b,0,none⟩) n cap::vs).toArray w fun e w'=>e=.returned (.slice (some ⟨b,0,none⟩) m cap)/\(∃ jk,w'.heap[b]?=some (.cells (ys++jk).toArray t (0,0))/\(ys++jk).length=(xs++junk).length)/\w.grownBy w' (some b)/\w.drawn<=w'.drawn
theorem FnC.of (hT : zaY P T) (hmix : P.follows .mixedOrders=true) {f : FuncId} {fn : Func} {c : Code} {vs : List Value} {re : List Res} {t n m : Nat} {xs ys : List Value}
  (hf : P.funcs[f]? = some fn) (hb : fn.body = some c) (hnm : (fn.name == "runtime.NumGoroutine") = false) (hn : vs.length + 1 <= fn.ntmps) (hok : ∀ R ∈ re, R.ok)
  (hs : ∀ w b cap (junk : List Value),n<=cap->facts re w->zcJ P T ⟨w,[b],fn.ntmps⟩ c ⟨zdx 0 (.o (.s fn.ntmps 0 n cap)::vsv vs),[(fn.ntmps,.sym (xs++junk) t)],re⟩ (retQ T fn (fun l st=>l=[.o (.s fn.ntmps 0 m cap)]/\∃ jk,lk fn.ntmps st.me=some (.sym (ys++jk) t)/\(ys++jk).length=(xs++junk).length))) :
  FnC P f vs re t n xs m ys:=by
 refine ⟨zda hf hnm (by rw [hb]; rfl),fun w b cap junk hw hcap hfa hdis=>?_⟩;have E0 : Env:=⟨fun _=>none,fun _=>(0,0)⟩;have hlen : ∀ l : List Value,(vsv l).length=l.length:=fun l=>by induction l with | nil=>rfl | cons x r ih=>simp [vsv,ih]
 have hβ : (E0.setO fn.ntmps (some b) (0,0)).β fn.ntmps=some b:=by simp [Env.setO]
 have hlk : ∀ {k m},lk k [(fn.ntmps,ME.sym (xs++junk) t)]=some m->k=fn.ntmps/\m=.sym (xs++junk) t:=by
  intro k m h;rw [zaB] at h;split at h
  ·rename_i e; cases h; exact ⟨e,rfl⟩
  ·cases h
 have hmem : zaV ⟨w,[b],fn.ntmps⟩ (E0.setO fn.ntmps (some b) (0,0)) [(fn.ntmps,.sym (xs++junk) t)] re w:=by
  refine ⟨fun k m hk=>?_,fun k m c' hk hc=>?_,fun k k' m m' c' hk hk' _ _=>?_,fun R hR=>⟨(hok R hR).1,hfa R hR,fun c' hc=>⟨(hok R hR).2 w (hfa R hR) c' hc,fun k m hk hkc=>?_⟩⟩,Ext.refl _ _,fun j c' m hX hj=>?_⟩
  ·obtain ⟨rfl,rfl⟩:=hlk hk;exact ⟨b,hβ,hw⟩
  ·obtain ⟨rfl,rfl⟩:=hlk hk;rw [hβ] at hc; cases hc;exact ⟨.inr (zyZ.2 rfl),(zxv.1 hw).1⟩
  ·rw [(hlk hk).1,(hlk hk').1]
  ·obtain ⟨rfl,rfl⟩:=hlk hk;rw [hβ] at hkc; cases hkc;exact hdis R hR hc
  ·have:=(hlk hj).1;have hj0 : j=0:=by simp only at this; omega
   subst hj0;simp at hX;subst hX;exact hβ
 have:=zb5 (T:=T) hT hmix (E:=E0.setO fn.ntmps (some b) (0,0)) (args:=.o (.s fn.ntmps 0 n cap)::vsv vs) hf hb (by rw [zxR,hlen]; exact hn) hmem (zy7 hT hmix (hs w b cap junk hcap hfa))
  (R:=fun e w'=>e=.returned (.slice (some ⟨b,0,none⟩) m cap)/\(∃ jk,w'.heap[b]?=some (.cells (ys++jk).toArray t (0,0))/\(ys++jk).length=(xs++junk).length)/\w.grownBy w' (some b)/\w.drawn<=w'.drawn) (fun l st E' w' hp hm=>by
   obtain ⟨rfl,jk,hk,hl⟩:=hp;have h1:=hm.rig 0 b _ rfl hk;obtain ⟨b',h2,h3⟩:=hm.ent _ _ hk;rw [show fn.ntmps+0=fn.ntmps from rfl] at h1;rw [h1] at h2; cases h2;exact ⟨by simp [retV,SV.real,AV.real,h1],⟨jk,h3,hl⟩,⟨hm.ext.os,hm.ext.tape,hm.ext.output,hm.ext.size,fun k hk' hne=>hm.ext.block k hk' (fun hx=>hne (by rw [zyZ.1 hx]))⟩,hm.ext.drawn⟩)
 rw [zxT,zbk] at this;have hreal : (SV.o (.s fn.ntmps 0 n cap)).real (E0.setO fn.ntmps (some b) (0,0))=.slice (some ⟨b,0,none⟩) n cap:=by simp [SV.real,AV.real,hβ]
 rw [hreal] at this;exact this
theorem zae.cs {g : FuncId} {vs : List Value} {re : List Res} {t n m c k : Nat} {cs xs ys junk : List Value} {K : SV->SS->Prop} (h : FnC P g vs re t n xs m ys) (hk : lk k st.me=some (.sym cs t)) (hcs : cs=xs++junk) (hnc : n<=c)
  (hre : ∀ R∈re,R∈st.re) (hK : ∀ jk,(ys++jk).length=(xs++junk).length->K (.o (.s k 0 m c)) { st with me:=setL k (.sym (ys++jk) t) st.me }) {args : List SV} (ha : args=.o (.s k 0 n c)::vsv vs) : zae P C g args st K:=by
 subst ha hcs;refine ⟨h.enters,fun E w hm=>?_⟩;obtain ⟨b,hβ,hheap⟩:=hm.ent _ _ hk;have hreal : ∀ n,(SV.o (.s k 0 n c)).real E=.slice (some ⟨b,0,none⟩) n c:=fun n=>by simp [SV.real,AV.real,hβ]
 rw [zxT,zbk,hreal];refine (h.calls w b c junk hheap hnc (fun R hR=>(hm.res R (hre R hR)).2.1) (fun R hR hb=>((hm.res R (hre R hR)).2.2 b hb).2 k _ hk hβ)).mono ?_;rintro e w' ⟨rfl,⟨jk,hnew,hl⟩,hg,hdr⟩;exact ⟨E,{ st with me:=setL k (.sym (ys++jk) t) st.me },.o (.s k 0 m c),by rw [hreal],hm.wrote hk hβ hg hdr ⟨b,hβ,hnew⟩,KD.wrote hg hheap,fun i sv hi=>⟨sv,hi,rfl⟩,hK jk hl⟩
theorem zae.cw (z : Nat) {g : FuncId} {vs : List Value} {re : List Res} {t es n m k : Nat} {xs ys : List Value} {K : SV->SS->Prop} (h : FnC P g vs re t n xs m ys) (hk : lk k st.me=some (.own t es n xs)) (hn : 0<n) (hmn : m<=n) (hys : ys.length=m*es)
  (hre : ∀ R∈re,R∈st.re) (hz : st.has z=false) (hzN : zby C.N (some z)=true) (hK : K (.o (.w z)) { st with me:=(z,.own t es m ys)::rmL k st.me }) {args : List SV} (ha : args=.o (.w k)::vsv vs) : zae P C g args st K:=by
 subst ha;refine ⟨h.enters,fun E w hm=>?_⟩;have hent:=hm.ent _ _ hk;obtain ⟨hl,hω,⟨_,_,h0⟩ | ⟨b,cur,hβ,hheap,h4,h5,h6,htake⟩⟩:=zbH hent
 ·omega
 have hreal : (SV.o (.w k)).real E=.slice (some ⟨b,0,none⟩) n (E.ω k).2:=by simp [SV.real,AV.real,hβ,hω]
 rw [zxT,zbk,hreal];have hcur : cur.toList=xs++cur.toList.drop (n*es):=by rw [<-htake,zz0]
 have hheap' : w.heap[b]?=some (.cells (xs++cur.toList.drop (n*es)).toArray t (0,0)):=by rw [hheap,<-hcur]
 refine (h.calls w b _ _ hheap' h4 (fun R hR=>(hm.res R (hre R hR)).2.1) (fun R hR hb=>((hm.res R (hre R hR)).2.2 b hb).2 k _ hk hβ)).mono ?_;rintro e w' ⟨rfl,⟨jk,hnew,hjl⟩,hg,hdr⟩;have hown : w'.ownsRow 0 t es (.slice (some ⟨b,0,none⟩) m (E.ω k).2) m ys:=by
  refine ⟨hys,.inr ⟨b,_,_,rfl,zyD _,hnew,by omega,h5,?_,?_⟩⟩
  ·rw [zyE,hjl,<-hcur,zxX]; exact h6
  ·show (ys++jk).take (m*es)=ys;rw [<-hys]; exact List.take_left
 have hfe : ({ st with tm:=[] } : SS).has z=false:=by
  unfold SS.has at hz ⊢;rw [zxD] at hz;simp only [zyn,zxU];exact hz.2
 have hmo:=((zaV.act (st:=st) hm).own hzN hfe (kk:=some k) (row:=some b) hdr hg (fun b' hb'=>⟨k,_,rfl,hk,by rw [<-hb']; exact hβ,by cases hb'; exact ⟨_,hheap,rfl⟩⟩) hown (fun b' hb'=>.inr (by cases hb'; rfl))).mem;obtain ⟨hbut,hr2,_⟩:=zcz (E:=E) (d:=z) hown;exact ⟨zaz E z (.slice (some ⟨b,0,none⟩) m (E.ω k).2),{ st with me:=(z,.own t es m ys)::rmL k st.me },.o (.w z),by rw [show (SV.o (.w z)).real (zaz E z _)=_ from hr2],hmo,KD.wrote hg hheap,fun i sv hi=>⟨sv,hi,zxn hbut (zxC hz hi)⟩,hK⟩
def Fr (w : World) (A : Option Addr) : Prop:=∀ a,A=some a->w.heap.size<=a.block
theorem Fr.bs {w : World} {A : Option Addr} {xs : List Value} (h : Fr w A) : ∀ b∈(zai A xs).bs,w.heap.size<=b:=fun b hb=>by
 obtain ⟨a,h1,h2⟩:=zi5 hb;rw [h2]; exact h a h1
def zea {ι : Type} (val : ι->Value) (re : ι->List Res) (w : World) (e : Ending) (w' : World) : Prop:=∃ i,e=.returned (val i)/\facts (re i) w'/\(∀ R∈re i,∀ b∈R.bs,w.heap.size<=b)/\Bel w.heap.size w w'
def zsr {ι : Type} (val : ι->Value) (re : ι->List Res) (W0 : World) (l : List SV) (st : SS) : Prop:=∀ N E w',zaV ⟨W0,[],N⟩ E st.me st.re w'->∃ i,retV (l.map (SV.real E))=val i/\facts (re i) w'/\∀ R∈re i,∀ b∈R.bs,W0.heap.size<=b
theorem zaV.frz {W0 : World} {N : Nat} {w : World} (hm : zaV ⟨W0,[],N⟩ E st.me st.re w) {k t es n : Nat} {xs : List Value} (hk : lk k st.me=some (.own t es n xs)) : ∃ A c,(AV.w k).real E=.slice A n c/\n<=c/\SlF A xs w/\Fr W0 A:=by
 have hent:=hm.ent _ _ hk;obtain ⟨A,c,hr,hn,hs⟩:=zzU hk E w (fun k' mm _ hk'=>hm.ent k' mm hk') (fun R hR=>(hm.res R hR).2.1);refine ⟨A,c,hr,hn,hs,fun a ha=>?_⟩;have h4 : Value.slice ((E.β k).map fun b=>⟨b,0,none⟩) (E.ω k).1 (E.ω k).2=.slice A n c:=hr;injection h4 with h5
 subst ha
 cases hβ : E.β k with
 | none=>rw [hβ] at h5; cases h5
 | some d =>
  rw [hβ] at h5;simp only [zxp,zxq] at h5;rw [<-h5];rcases (hm.ge k _ d hk hβ).1 with h | h
  ·exact h
  ·cases h
theorem FnE.of (hT : zaY P T) (hmix : P.follows .mixedOrders=true) {f : FuncId} {fn : Func} {c : Code} {vs : List Value} {re : List Res} {ι : Type} {val : ι->Value} {rs : ι->List Res}
  (hf : P.funcs[f]? = some fn) (hb : fn.body = some c) (hnm : (fn.name == "runtime.NumGoroutine") = false) (hn : vs.length <= fn.ntmps) (hok : ∀ R ∈ re, R.ok)
  (hs : ∀ w,facts re w->zcJ P T ⟨w,[],fn.ntmps⟩ c ⟨zdx 0 (vsv vs),[],re⟩ (retQ T fn (fun l st=>zsr val rs w l st))) : FnM P f vs (facts re) (zea val rs):=by
 refine ⟨zda hf hnm (by rw [hb]; rfl),fun w hw=>?_⟩;have E0 : Env:=⟨fun _=>none,fun _=>(0,0)⟩;have:=zb5 (T:=T) hT hmix (E:=E0) hf hb (by
  have : ∀ l : List Value,(vsv l).length=l.length:=fun l=>by induction l with | nil=>rfl | cons x r ih=>simp [vsv,ih]
  rw [this]; exact hn) (zaV.init w [] fn.ntmps E0 hok hw) (zy7 hT hmix (hs w hw)) (R:=zea val rs w) (fun l st E' w' hp hm=>by
   obtain ⟨i,h1,h2,h3⟩:=hp _ _ _ hm;exact ⟨i,by rw [h1],h2,h3,hm.ext.below⟩)
 rw [zbk] at this;exact this
theorem zae.e {ι : Type} {val : ι->Value} {re : ι->List Res} {g : FuncId} {args : List SV} {K : SV->SS->Prop} (hE : Enters P g) (h : zaC P g args st (zea val re)) (hok : ∀ i,∀ R∈re i,R.ok)
  (hk : ∀ i,(∀ R∈re i,∀ b∈R.bs,C.W0.heap.size<=b)->K (.o (.v (val i))) { st with re:=re i++st.re }) : zae P C g args st K:=by
 refine ⟨hE,fun E w hm=>(h E w (fun k mm _ hk=>hm.ent k mm hk) (fun R hR=>(hm.res R hR).2.1)).mono ?_⟩;rintro e w' ⟨i,rfl,hf,hge,hb⟩;have hm':=hm.world (st:=st) hb;have key : ∀ l : List Res,(∀ R∈l,R∈re i)->zaV C E st.me (l++st.re) w':=by
  intro l
  induction l with
  | nil=>intro _; exact hm'
  | cons R l ih =>
   intro hl;refine (ih (fun R hR=>hl R (zxB _ hR))).more (hok i R (hl R (zxA ..))) (hf R (hl R (zxA ..))) (fun b hb' k m hkk hβ=>?_);have h3:=hge R (hl R (zxA ..)) b hb';have:=(hm.ge k m b hkk hβ).2;omega
 exact ⟨E,{ st with re:=re i++st.re },.o (.v (val i)),rfl,key _ (fun R hR=>hR),zxu hb,fun i sv hi=>⟨sv,hi,rfl⟩,hk i (fun R hR b hb'=>zxs hm.ext.size (hge R hR b hb'))⟩
abbrev zBI:=@zae.e
theorem SLe.own (i k z t es n : Nat) {cs : List AV} {xs : List Value} (hi : lk i st.tm=some (.o (.s k 0 n n))) (hk : lk k st.me=some (.box cs t)) (hx : allV cs=some xs) (hl : xs.length=n*es) (hn : n<=1000000) (hz : st.has z=false) (hzN : zby C.N (some z)=true) :
  SLe C st ⟨(i,.o (.w z))::st.tm,(z,.own t es n xs)::rmL k st.me,st.re⟩:=by
 rintro a w ⟨E,h⟩;obtain ⟨b,hβ,hc⟩:=h.mem.ent _ _ hk;rw [zbq E hx] at hc;have hreal : (SV.o (.s k 0 n n)).real E=.slice (some ⟨b,0,none⟩) n n:=by simp [SV.real,AV.real,hβ]
 have hown : w.ownsRow 0 t es (.slice (some ⟨b,0,none⟩) n n) n xs:=⟨hl,.inr ⟨b,n,_,rfl,zyD _,hc,zxr _,by unfold maxLen; omega,by simp [hl],by rw [<-hl]; exact zAq⟩⟩;have hfe : ({ st with tm:=[] } : SS).has z=false:=by
  unfold SS.has at hz ⊢;rw [zxD] at hz;simp only [zyn,zxU];exact hz.2
 have hmo:=((zaV.act (st:=st) h.mem).own hzN hfe (kk:=some k) (row:=some b) (by exact zxr _) (World.grownBy.refl_ w _) (fun b' hb'=>⟨k,_,rfl,hk,by rw [<-hb']; exact hβ,by cases hb'; exact ⟨_,hc,rfl⟩⟩) hown (fun b' hb'=>.inr (by cases hb'; rfl))).mem;obtain ⟨hbut,hr2,_⟩:=zcz (E:=E) (d:=z) hown;refine ⟨zaz E z (.slice (some ⟨b,0,none⟩) n n),h.size,h.defers,fun j sv hj=>?_,hmo⟩;simp only [zaB] at hj;split at hj
 ·rename_i e; subst e; cases hj;rw [h.tm _ _ hi,hreal,show (SV.o (.w z)).real (zaz E z _)=_ from hr2]
 ·rw [zxn hbut (zxC hz hj)]; exact h.tm j sv hj
theorem zgI.of {p : SS->Prop} (h : SLX C st p) : zgI C st p:=⟨fun E a w hr=>let ⟨t,hp,E',h'⟩:=h a w ⟨E,hr⟩; ⟨E',t,hp,h'⟩⟩
theorem Fr.own {W0 : World} {N : Nat} {w : World} (hm : zaV ⟨W0,[],N⟩ E st.me st.re w) {k t es n : Nat} {xs : List Value} (hk : lk k st.me=some (.own t es n xs)) {A : Option Addr} {c : Nat} (hr : (AV.w k).real E=.slice A n c) : Fr W0 A:=fun a ha=>by
 have h4 : Value.slice ((E.β k).map fun b=>⟨b,0,none⟩) (E.ω k).1 (E.ω k).2=.slice A n c:=hr;injection h4 with h5
 subst ha
 cases hβ : E.β k with
 | none=>rw [hβ] at h5; cases h5
 | some d =>
  rw [hβ] at h5;simp only [zxp,zxq] at h5;rw [<-h5];rcases (hm.ge k _ d hk hβ).1 with h | h
  ·exact h
  ·cases h
theorem SLX.freezeF {W0 : World} {N : Nat} (k : Nat) {t es n : Nat} {xs : List Value} {p : SS->Prop} (hx : lk k st.me=some (.own t es n xs)) (h : ∀ A cp,n<=cp->Fr W0 A->SLX ⟨W0,[],N⟩ (st.fz k (AV.fzO k (.slice A n cp)) (zai A xs)) p) : SLX ⟨W0,[],N⟩ st p:=by
 rintro a w ⟨E,hE⟩;obtain ⟨A,cp,hr2,hn,hs⟩:=zzU hx E w (fun k' mm _ hk'=>hE.mem.ent k' mm hk') (fun R hR=>(hE.mem.res R hR).2.1);refine h A cp hn (Fr.own hE.mem hx hr2) a w ⟨E,hE.fz hx (zmT hr2) (zzk _ _) hs (fun b' hb'=>?_)⟩;obtain ⟨a',h1,h2⟩:=zi5 hb';subst h1;have h4 : Value.slice ((E.β k).map fun b=>⟨b,0,none⟩) (E.ω k).1 (E.ω k).2=.slice (some a') n cp:=hr2;injection h4 with h5
 cases hβ : E.β k with
 | none=>rw [hβ] at h5; cases h5
 | some d=>rw [hβ] at h5; simp only [zxp,zxq] at h5; rw [h2,<-h5]
abbrev zBJ:=@SLX.freezeF
theorem WPS.ofX {c : Code} {Q : Exit->SS->Prop} (h : SLX C st (fun s=>WPS P C c s Q)) : WPS P C c st Q:=⟨fun a w hr=>let ⟨t,hp,ht⟩:=h a w hr; hp.wp a w ht⟩
theorem SLX.here {p : SS->Prop} (h : p st) : SLX C st p:=fun a w hr=>⟨st,h,hr⟩
abbrev zBK:=@SLX.here
theorem SLe.nilB (k z t es : Nat) {cs ds : List AV} {ty : TypeId} (hk : lk k st.me=some (.box (cs++.v (.slice none 0 0)::ds) ty)) (hz : st.has z=false) (hX : C.X=[]:=by rfl) :
  SLe C st ⟨st.tm,(k,.box (cs++.w z::ds) ty)::(z,.own t es 0 [])::st.me,st.re⟩:=by
 rintro a w ⟨E,h⟩;have hbut:=zyx E z none (0,0);have hkz : k≠z:=(zxE hz hk).1;have hlk : ∀ {j m},lk j ((k,ME.box (cs++.w z::ds) ty)::(z,.own t es 0 [])::st.me)=some m->(j=k/\m=.box (cs++.w z::ds) ty)\/(j=z/\m=.own t es 0 [])\/(j≠z/\j≠k/\lk j st.me=some m):=fun {j m} hj=>by
  simp only [zaB] at hj;split at hj
  ·rename_i e; exact .inl ⟨e,by cases hj; rfl⟩
  ·rename_i e1;split at hj
   ·rename_i e; exact .inr (.inl ⟨e,by cases hj; rfl⟩)
   ·rename_i e2; exact .inr (.inr ⟨e2,e1,hj⟩)
 have hold : ∀ {j m},lk j ((k,ME.box (cs++.w z::ds) ty)::(z,.own t es 0 [])::st.me)=some m->(j=z/\(E.setO z none (0,0)).β j=none)\/(j≠z/\(∃ m',lk j st.me=some m')/\(E.setO z none (0,0)).β j=E.β j):=fun {j m} hj=>by
  rcases hlk hj with ⟨rfl,_⟩ | ⟨rfl,_⟩ | ⟨hjz,_,hj'⟩
  ·exact .inr ⟨hkz,⟨_,hk⟩,(hbut _ hkz).1⟩
  ·exact .inl ⟨rfl,by simp [Env.setO]⟩
  ·exact .inr ⟨hjz,⟨_,hj'⟩,(hbut _ hjz).1⟩
 refine ⟨E.setO z none (0,0),h.size,h.defers,fun j sv hj=>?_,fun j m hj=>?_,fun j m b hj hb=>?_,fun j j' m m' b hj hj' hb hb'=>?_,fun R hR=>?_,h.mem.ext,fun j b m hXj hj=>by rw [hX] at hXj; simp at hXj⟩
 ·rw [zxn hbut (zxC hz hj)]; exact h.tm j sv hj
 ·rcases hlk hj with ⟨rfl,rfl⟩ | ⟨rfl,rfl⟩ | ⟨hjz,_,hj'⟩
  ·obtain ⟨b,hb,hc⟩:=h.mem.ent _ _ hk;refine ⟨b,by rw [(hbut _ hkz).1]; exact hb,?_⟩;rw [hc];have hh:=(zxE hz hk).2;simp only [ME.has,zya,zxN,zxD] at hh;rw [zzL,zzL,zxT,zxT,zxm hbut hh.1,zxm hbut hh.2.2];have : (AV.w z).real (E.setO z none (0,0))=(AV.v (.slice none 0 0)).real E:=by simp [AV.real,Env.setO]
   rw [this]
  ·simp only [MEok,Env.setO,if_true,zyp];exact zyQ _ _ _ _
  ·exact (h.mem.ent _ _ hj').but hbut hjz (zxE hz hj').2
 ·rcases hold hj with ⟨_,e⟩ | ⟨_,⟨m',hm'⟩,e⟩
  ·rw [e] at hb; cases hb
  ·rw [e] at hb; exact h.mem.ge _ _ _ hm' hb
 ·rcases hold hj with ⟨_,e⟩ | ⟨_,⟨m1,hm1⟩,e⟩
  ·rw [e] at hb; cases hb
  ·rcases hold hj' with ⟨_,e'⟩ | ⟨_,⟨m2,hm2⟩,e'⟩
   ·rw [e'] at hb'; cases hb'
   ·rw [e] at hb; rw [e'] at hb'; exact h.mem.inj _ _ _ _ _ hm1 hm2 hb hb'
 ·obtain ⟨r1,r2,r3⟩:=h.mem.res R hR;refine ⟨r1,r2,fun b hb=>⟨(r3 b hb).1,fun j m hj=>?_⟩⟩;rcases hold hj with ⟨_,e⟩ | ⟨_,⟨m',hm'⟩,e⟩
  ·rw [e]; simp
  ·rw [e]; exact (r3 b hb).2 _ _ hm'
end
end Go.Sx
end
section
namespace Go.Proofs
open Go.Shelf
def Tryz.sort_crossing_ren : Go.Shelf.Ren:=⟨fun | 6=>91 | 15=>163 | 14=>162 | 28=>224 | 29=>225 | 20=>216 | 21=>217 | 22=>218 | 23=>219 | 24=>220 | 25=>221 | 26=>222 | 27=>223 | 46=>252 | 47=>253 | 48=>254 | 49=>255 | 50=>256 | 57=>274 | n=>n,fun | 22=>131 | 24=>133 | 25=>137 | 3=>3 | 39=>182 | 0=>0 | 53=>199 | 55=>198 | 4=>4 | 46=>214 | 45=>213 | 50=>218 | 5=>5 | 9=>9 | 66=>239 | 70=>243 | 76=>259 | 77=>260 | n=>n,fun | n=>n⟩
theorem Tryz.sort_crossing : Go.Proofs.SlLaysF0.n6 Tryz.prog Tryz.sort_crossing_ren:={
 mixed:=by kernel_rfl
 f6:=⟨Tryz.f91.name,by decide,Tryz.func91.trans (congrArg some (by kernel_rfl))⟩
 f14:=⟨Tryz.f162.name,by decide,Tryz.func162.trans (congrArg some (by kernel_rfl))⟩
 f15:=Tryz.func163.trans (congrArg some (by kernel_rfl))
 f20:=⟨Tryz.f216.name,by decide,Tryz.func216.trans (congrArg some (by kernel_rfl))⟩
 f21:=⟨Tryz.f217.name,by decide,Tryz.func217.trans (congrArg some (by kernel_rfl))⟩
 f22:=⟨Tryz.f218.name,by decide,Tryz.func218.trans (congrArg some (by kernel_rfl))⟩
 f23:=⟨Tryz.f219.name,by decide,Tryz.func219.trans (congrArg some (by kernel_rfl))⟩
 f24:=⟨Tryz.f220.name,by decide,Tryz.func220.trans (congrArg some (by kernel_rfl))⟩
 f25:=⟨Tryz.f221.name,by decide,Tryz.func221.trans (congrArg some (by kernel_rfl))⟩
 f26:=⟨Tryz.f222.name,by decide,Tryz.func222.trans (congrArg some (by kernel_rfl))⟩
 f27:=⟨Tryz.f223.name,by decide,Tryz.func223.trans (congrArg some (by kernel_rfl))⟩
 f28:=Tryz.func224.trans (congrArg some (by kernel_rfl))
 f29:=Tryz.func225.trans (congrArg some (by kernel_rfl))
 f46:=⟨Tryz.f252.name,by decide,Tryz.func252.trans (congrArg some (by kernel_rfl))⟩
 f47:=Tryz.func253.trans (congrArg some (by kernel_rfl))
 f48:=Tryz.func254.trans (congrArg some (by kernel_rfl))
 f49:=⟨Tryz.f255.name,by decide,Tryz.func255.trans (congrArg some (by kernel_rfl))⟩
 f50:=⟨Tryz.f256.name,by decide,Tryz.func256.trans (congrArg some (by kernel_rfl))⟩
 f57:=⟨Tryz.f274.name,by decide,Tryz.func274.trans (congrArg some (by kernel_rfl))⟩
 t0:=Tryz.underlying0
 a0:=Tryz.isAgg0
 z0:=Tryz.sizeOf0
 v0:=Tryz.zeroValue0
 t3:=Tryz.underlying3
 a3:=Tryz.isAgg3
 z3:=Tryz.sizeOf3
 v3:=Tryz.zeroValue3
 t4:=Tryz.underlying4
 a4:=Tryz.isAgg4
 z4:=Tryz.sizeOf4
 v4:=Tryz.zeroValue4
 t5:=Tryz.underlying5
 a5:=Tryz.isAgg5
 z5:=Tryz.sizeOf5
 v5:=Tryz.zeroValue5
 t9:=Tryz.underlying9
 a9:=Tryz.isAgg9
 z9:=Tryz.sizeOf9
 v9:=Tryz.zeroValue9
 t22:=Tryz.underlying131
 a22:=Tryz.isAgg131
 z22:=Tryz.sizeOf131
 v22:=Tryz.zeroValue131
 t25:=Tryz.underlying137
 a25:=Tryz.isAgg137
 z25:=Tryz.sizeOf137
 v25:=Tryz.zeroValue137
 t39:=Tryz.underlying182
 a39:=Tryz.isAgg182
 z39:=Tryz.sizeOf182
 v39:=Tryz.zeroValue182
 t45:=Tryz.underlying213
 a45:=Tryz.isAgg213
 z45:=Tryz.sizeOf213
 v45:=Tryz.zeroValue213
 t46:=Tryz.underlying214
 a46:=Tryz.isAgg214
 z46:=Tryz.sizeOf214
 v46:=Tryz.zeroValue214
 t50:=Tryz.underlying218
 a50:=Tryz.isAgg218
 z50:=Tryz.sizeOf218
 v50:=Tryz.zeroValue218
 t53:=Tryz.underlying199
 a53:=Tryz.isAgg199
 z53:=Tryz.sizeOf199
 v53:=Tryz.zeroValue199
 t55:=Tryz.underlying198
 a55:=Tryz.isAgg198
 z55:=Tryz.sizeOf198
 v55:=Tryz.zeroValue198
 t66:=Tryz.underlying239
 a66:=Tryz.isAgg239
 z66:=Tryz.sizeOf239
 v66:=Tryz.zeroValue239
 t70:=Tryz.underlying243
 a70:=Tryz.isAgg243
 z70:=Tryz.sizeOf243
 v70:=Tryz.zeroValue243
 t76:=Tryz.underlying259
 a76:=Tryz.isAgg259
 z76:=Tryz.sizeOf259
 v76:=Tryz.zeroValue259
 t77:=Tryz.underlying260
 a77:=Tryz.isAgg260
 z77:=Tryz.sizeOf260
 v77:=Tryz.zeroValue260 }
def Tryz.sort_Rat_ren : Go.Shelf.Ren:=⟨fun | 6=>159 | 15=>163 | 14=>215 | 28=>224 | 29=>225 | 20=>244 | 21=>245 | 22=>246 | 23=>247 | 24=>248 | 25=>249 | 26=>250 | 27=>251 | 46=>271 | 47=>253 | 48=>254 | 49=>272 | 50=>273 | 57=>280 | n=>n,fun | 22=>31 | 24=>23 | 25=>108 | 3=>3 | 39=>182 | 0=>0 | 53=>199 | 55=>198 | 4=>4 | 46=>214 | 45=>213 | 50=>218 | 5=>5 | 9=>9 | 66=>239 | 70=>243 | 76=>259 | 77=>260 | n=>n,fun | n=>n⟩
theorem Tryz.sort_Rat : Go.Proofs.SlLaysF0.n6 Tryz.prog Tryz.sort_Rat_ren:={
 mixed:=by kernel_rfl
 f6:=⟨Tryz.f159.name,by decide,Tryz.func159.trans (congrArg some (by kernel_rfl))⟩
 f14:=⟨Tryz.f215.name,by decide,Tryz.func215.trans (congrArg some (by kernel_rfl))⟩
 f15:=Tryz.func163.trans (congrArg some (by kernel_rfl))
 f20:=⟨Tryz.f244.name,by decide,Tryz.func244.trans (congrArg some (by kernel_rfl))⟩
 f21:=⟨Tryz.f245.name,by decide,Tryz.func245.trans (congrArg some (by kernel_rfl))⟩
 f22:=⟨Tryz.f246.name,by decide,Tryz.func246.trans (congrArg some (by kernel_rfl))⟩
 f23:=⟨Tryz.f247.name,by decide,Tryz.func247.trans (congrArg some (by kernel_rfl))⟩
 f24:=⟨Tryz.f248.name,by decide,Tryz.func248.trans (congrArg some (by kernel_rfl))⟩
 f25:=⟨Tryz.f249.name,by decide,Tryz.func249.trans (congrArg some (by kernel_rfl))⟩
 f26:=⟨Tryz.f250.name,by decide,Tryz.func250.trans (congrArg some (by kernel_rfl))⟩
 f27:=⟨Tryz.f251.name,by decide,Tryz.func251.trans (congrArg some (by kernel_rfl))⟩
 f28:=Tryz.func224.trans (congrArg some (by kernel_rfl))
 f29:=Tryz.func225.trans (congrArg some (by kernel_rfl))
 f46:=⟨Tryz.f271.name,by decide,Tryz.func271.trans (congrArg some (by kernel_rfl))⟩
 f47:=Tryz.func253.trans (congrArg some (by kernel_rfl))
 f48:=Tryz.func254.trans (congrArg some (by kernel_rfl))
 f49:=⟨Tryz.f272.name,by decide,Tryz.func272.trans (congrArg some (by kernel_rfl))⟩
 f50:=⟨Tryz.f273.name,by decide,Tryz.func273.trans (congrArg some (by kernel_rfl))⟩
 f57:=⟨Tryz.f280.name,by decide,Tryz.func280.trans (congrArg some (by kernel_rfl))⟩
 t0:=Tryz.underlying0
 a0:=Tryz.isAgg0
 z0:=Tryz.sizeOf0
 v0:=Tryz.zeroValue0
 t3:=Tryz.underlying3
 a3:=Tryz.isAgg3
 z3:=Tryz.sizeOf3
 v3:=Tryz.zeroValue3
 t4:=Tryz.underlying4
 a4:=Tryz.isAgg4
 z4:=Tryz.sizeOf4
 v4:=Tryz.zeroValue4
 t5:=Tryz.underlying5
 a5:=Tryz.isAgg5
 z5:=Tryz.sizeOf5
 v5:=Tryz.zeroValue5
 t9:=Tryz.underlying9
 a9:=Tryz.isAgg9
 z9:=Tryz.sizeOf9
 v9:=Tryz.zeroValue9
 t22:=Tryz.underlying31
 a22:=Tryz.isAgg31
 z22:=Tryz.sizeOf31
 v22:=Tryz.zeroValue31
 t25:=Tryz.underlying108
 a25:=Tryz.isAgg108
 z25:=Tryz.sizeOf108
 v25:=Tryz.zeroValue108
 t39:=Tryz.underlying182
 a39:=Tryz.isAgg182
 z39:=Tryz.sizeOf182
 v39:=Tryz.zeroValue182
 t45:=Tryz.underlying213
 a45:=Tryz.isAgg213
 z45:=Tryz.sizeOf213
 v45:=Tryz.zeroValue213
 t46:=Tryz.underlying214
 a46:=Tryz.isAgg214
 z46:=Tryz.sizeOf214
 v46:=Tryz.zeroValue214
 t50:=Tryz.underlying218
 a50:=Tryz.isAgg218
 z50:=Tryz.sizeOf218
 v50:=Tryz.zeroValue218
 t53:=Tryz.underlying199
 a53:=Tryz.isAgg199
 z53:=Tryz.sizeOf199
 v53:=Tryz.zeroValue199
 t55:=Tryz.underlying198
 a55:=Tryz.isAgg198
 z55:=Tryz.sizeOf198
 v55:=Tryz.zeroValue198
 t66:=Tryz.underlying239
 a66:=Tryz.isAgg239
 z66:=Tryz.sizeOf239
 v66:=Tryz.zeroValue239
 t70:=Tryz.underlying243
 a70:=Tryz.isAgg243
 z70:=Tryz.sizeOf243
 v70:=Tryz.zeroValue243
 t76:=Tryz.underlying259
 a76:=Tryz.isAgg259
 z76:=Tryz.sizeOf259
 v76:=Tryz.zeroValue259
 t77:=Tryz.underlying260
 a77:=Tryz.isAgg260
 z77:=Tryz.sizeOf260
 v77:=Tryz.zeroValue260 }
def Tryz.sort_Cell_ren : Go.Shelf.Ren:=⟨fun | 6=>182 | 15=>163 | 14=>227 | 28=>224 | 29=>225 | 20=>257 | 21=>258 | 22=>259 | 23=>260 | 24=>261 | 25=>262 | 26=>263 | 27=>264 | 46=>275 | 47=>253 | 48=>254 | 49=>276 | 50=>277 | 57=>281 | n=>n,fun | 22=>41 | 24=>47 | 25=>190 | 3=>3 | 39=>182 | 0=>0 | 53=>199 | 55=>198 | 4=>4 | 46=>214 | 45=>213 | 50=>218 | 5=>5 | 9=>9 | 66=>239 | 70=>243 | 76=>259 | 77=>260 | n=>n,fun | n=>n⟩
theorem Tryz.sort_Cell : Go.Proofs.SlLaysF0.n6 Tryz.prog Tryz.sort_Cell_ren:={
 mixed:=by kernel_rfl
 f6:=⟨Tryz.f182.name,by decide,Tryz.func182.trans (congrArg some (by kernel_rfl))⟩
 f14:=⟨Tryz.f227.name,by decide,Tryz.func227.trans (congrArg some (by kernel_rfl))⟩
 f15:=Tryz.func163.trans (congrArg some (by kernel_rfl))
 f20:=⟨Tryz.f257.name,by decide,Tryz.func257.trans (congrArg some (by kernel_rfl))⟩
 f21:=⟨Tryz.f258.name,by decide,Tryz.func258.trans (congrArg some (by kernel_rfl))⟩
 f22:=⟨Tryz.f259.name,by decide,Tryz.func259.trans (congrArg some (by kernel_rfl))⟩
 f23:=⟨Tryz.f260.name,by decide,Tryz.func260.trans (congrArg some (by kernel_rfl))⟩
 f24:=⟨Tryz.f261.name,by decide,Tryz.func261.trans (congrArg some (by kernel_rfl))⟩
 f25:=⟨Tryz.f262.name,by decide,Tryz.func262.trans (congrArg some (by kernel_rfl))⟩
 f26:=⟨Tryz.f263.name,by decide,Tryz.func263.trans (congrArg some (by kernel_rfl))⟩
 f27:=⟨Tryz.f264.name,by decide,Tryz.func264.trans (congrArg some (by kernel_rfl))⟩
 f28:=Tryz.func224.trans (congrArg some (by kernel_rfl))
 f29:=Tryz.func225.trans (congrArg some (by kernel_rfl))
 f46:=⟨Tryz.f275.name,by decide,Tryz.func275.trans (congrArg some (by kernel_rfl))⟩
 f47:=Tryz.func253.trans (congrArg some (by kernel_rfl))
 f48:=Tryz.func254.trans (congrArg some (by kernel_rfl))
 f49:=⟨Tryz.f276.name,by decide,Tryz.func276.trans (congrArg some (by kernel_rfl))⟩
 f50:=⟨Tryz.f277.name,by decide,Tryz.func277.trans (congrArg some (by kernel_rfl))⟩
 f57:=⟨Tryz.f281.name,by decide,Tryz.func281.trans (congrArg some (by kernel_rfl))⟩
 t0:=Tryz.underlying0
 a0:=Tryz.isAgg0
 z0:=Tryz.sizeOf0
 v0:=Tryz.zeroValue0
 t3:=Tryz.underlying3
 a3:=Tryz.isAgg3
 z3:=Tryz.sizeOf3
 v3:=Tryz.zeroValue3
 t4:=Tryz.underlying4
 a4:=Tryz.isAgg4
 z4:=Tryz.sizeOf4
 v4:=Tryz.zeroValue4
 t5:=Tryz.underlying5
 a5:=Tryz.isAgg5
 z5:=Tryz.sizeOf5
 v5:=Tryz.zeroValue5
 t9:=Tryz.underlying9
 a9:=Tryz.isAgg9
 z9:=Tryz.sizeOf9
 v9:=Tryz.zeroValue9
 t22:=Tryz.underlying41
 a22:=Tryz.isAgg41
 z22:=Tryz.sizeOf41
 v22:=Tryz.zeroValue41
 t25:=Tryz.underlying190
 a25:=Tryz.isAgg190
 z25:=Tryz.sizeOf190
 v25:=Tryz.zeroValue190
 t39:=Tryz.underlying182
 a39:=Tryz.isAgg182
 z39:=Tryz.sizeOf182
 v39:=Tryz.zeroValue182
 t45:=Tryz.underlying213
 a45:=Tryz.isAgg213
 z45:=Tryz.sizeOf213
 v45:=Tryz.zeroValue213
 t46:=Tryz.underlying214
 a46:=Tryz.isAgg214
 z46:=Tryz.sizeOf214
 v46:=Tryz.zeroValue214
 t50:=Tryz.underlying218
 a50:=Tryz.isAgg218
 z50:=Tryz.sizeOf218
 v50:=Tryz.zeroValue218
 t53:=Tryz.underlying199
 a53:=Tryz.isAgg199
 z53:=Tryz.sizeOf199
 v53:=Tryz.zeroValue199
 t55:=Tryz.underlying198
 a55:=Tryz.isAgg198
 z55:=Tryz.sizeOf198
 v55:=Tryz.zeroValue198
 t66:=Tryz.underlying239
 a66:=Tryz.isAgg239
 z66:=Tryz.sizeOf239
 v66:=Tryz.zeroValue239
 t70:=Tryz.underlying243
 a70:=Tryz.isAgg243
 z70:=Tryz.sizeOf243
 v70:=Tryz.zeroValue243
 t76:=Tryz.underlying259
 a76:=Tryz.isAgg259
 z76:=Tryz.sizeOf259
 v76:=Tryz.zeroValue259
 t77:=Tryz.underlying260
 a77:=Tryz.isAgg260
 z77:=Tryz.sizeOf260
 v77:=Tryz.zeroValue260 }
end Go.Proofs
end
section
namespace Go.Sx
open Go Go.Proofs
abbrev zBL:=@List.not_mem_nil
abbrev SzN:={ x : Rat // Sz KV x }
instance : Inhabited SzN:=⟨⟨0,(show Sz 1 (0 : Rat) from ⟨by decide,by decide⟩).le (by decide)⟩⟩
theorem zdm {α β : Type} {f : β->List Value} (g : α->β) : ∀ l : List α,rowV f (l.map g)=rowV (fun x=>f (g x)) l
 | []=>rfl
 | x::l=>by simp only [zxT,rowV,zdm g l]
theorem zmS (r : Raw) : ∀ v∈ratC r,v.oneCell'=true:=fun v hv=>by
 simp only [ratC,zy1,zBL,or_false] at hv;rcases hv with rfl | rfl | rfl <;> rfl
theorem zt8 (xs : List Rat) (hs : ∀ x∈xs,Sz KV x) (hl : xs.length<=1000000) :
  FnW PP 159 [fnV 63] [] zat xs.length (rowV ratC (xs.map Q)) (rowV ratC ((zlT xs).map Q)) (.tuple #[]):=by
 obtain ⟨d,hd⟩ : ∃ d : List SzN,d.map (·.1)=xs:=⟨xs.attach.map fun x=>⟨x.1,hs x.1 x.2⟩,by simp⟩;have hlen : d.length=xs.length:=by rw [<-hd,zyA]
 have hlt : ∀ x y : SzN,ltOf (fun a b : SzN=>cmpQ a.1 b.1) x y=decide (x.1<y.1):=fun x y=>decide_eq_decide.2 zbj
 have h:=FnW.sortK (P:=PP) Tryz.sort_Rat 3 (fun w=>(zab zat _ rfl).1.run_isAgg) (fun w=>(zab zat _ rfl).1.run_size) (fun x : SzN=>ratC (Q x.1)) (fun x=>rfl) (fun x=>zmS _) (fun a b=>cmpQ a.1 b.1)
  ⟨fun x=>by rw [hlt]; simp,fun x y z h1 h2=>by rw [hlt] at *; simp at *; grind,fun x y z h1 h2=>by rw [hlt] at *; simp at *; grind⟩
  (fun x y h1 h2=>by rw [hlt] at h1 h2; simp at h1 h2; exact Subtype.ext (by grind)) 63
  (fun x y=>by have:=zbp (Q x.1) (Q y.1) (x.2.q.le (by decide)) (y.2.q.le (by decide)); rw [Q_v,Q_v] at this; exact this) zat d (by omega)
 rw [hlen] at h;have e1 : rowV (fun x : SzN=>ratC (Q x.1)) d=rowV ratC (xs.map Q):=by rw [<-hd,zx0,zdm]; rfl
 have e2 : rowV (fun x : SzN=>ratC (Q x.1)) (d.mergeSort fun x y=>!(ltOf fun a b : SzN=>cmpQ a.1 b.1) y x)=rowV ratC ((zlT xs).map Q):=by
  rw [zlT,<-hd,<-List.map_mergeSort (r:=fun x y : SzN=>!(ltOf fun a b : SzN=>cmpQ a.1 b.1) y x) (s:=fun x y=>decide (x<=y)) (f:=fun x : SzN=>x.1) (fun a _ b _=>by rw [hlt]; by_cases h : b.1<a.1 <;> simp [h] <;> grind),zx0,zdm]; rfl
 rw [e1,e2] at h;exact h
theorem zk7 {α : Type} {f : α->List Value} {es : Nat} (hf : ∀ x,(f x).length=es) {k : Nat} {l : List α} {junk : List Value} (x : α) (hk : k<l.length) {off : Nat} (ho : off=k*es) : putN off (f x) (rowV f l++junk)=rowV f (l.set k x)++junk:=by
 subst ho;have hlen:=zad hf l;have h1 : (k+1)*es<=l.length*es:=zyL _ hk;rw [zzP] at h1;rw [<-zcc hf x hk,zb9 _ _ _ (by rw [zz2,hf,hlen]; omega),zb9 _ _ _ (by rw [hf,hlen]; omega),hf,zA3 (by rw [hlen]; omega),zA4 (by rw [hlen]; omega),zyF,zyF,zyF]
theorem zhc {α : Type} [DecidableEq α] {L : List α} {k : Nat} {x y : α} (hk : 0<k) (hx : L[k]?=some x) (hy : L[k-1]?=some y) : ddp (L.take (k+1))=if x=y then ddp (L.take k) else ddp (L.take k)++[x]:=by
 have hkl:=(zyz.1 hx).1;have hne : L.take k≠[]:=fun h=>by have:=zyr List.length h; rw [zyI,zAK] at this; omega
 rw [zaD hx,zrb hne];have : (L.take k).getLast hne=y:=by
  rw [List.getLast_eq_getElem];have h2:=(zyz.1 hy).2;simp only [List.getElem_take,zyI,zAs (show k<=L.length by omega)];exact h2
 rw [this]
theorem zok (L : List Raw) (hl : L.length<=1000000) : FnC PP 160 [] [] zat L.length (rowV ratC L) (ddp L).length (rowV ratC (ddp L)):=by
 refine FnC.of zab mixed Tryz.func160 rfl rfl (zxW rfl) (by simp) ?_;intro w b cap junk hcap _;obtain ⟨n,hn⟩ : ∃ n,n=L.length:=⟨_,rfl⟩;rw [<-hn] at hl hcap ⊢;have wr : ∀ {i : Nat},i<1000001->IntKind.i64.wrap ((i : Int)+1)=((i+1 : Nat) : Int):=fun h=>by rw [wrap_i64 (by omega) (by omega)]; rfl
 have wl : ∀ {i : Nat},0<i->i<1000001->IntKind.i64.wrap ((i : Int)-1)=((i-1 : Nat) : Int):=fun h h'=>by rw [wrap_i64 (by omega) (by omega)]; omega
 conv=>whnf
 by_cases h2 : n<2
 · refine zag (zz8 (show (n : Int)<2 by omega)) ?_;conv=>whnf
   have hd : ddp L=L:=by
     match L,hn with
     | [],_=>rfl
     | [x],_=>rfl
     | x::y::r,hn=>simp at hn; omega
   refine ⟨by rw [hd,<-hn],junk,by rw [hd]; rfl,by rw [hd]⟩
 refine zac (zz9 (show ¬(n : Int)<2 by omega)) ?_;conv=>whnf
 refine zal (ι:=Nat) (fun k=>⟨[(0,.o (.s 61 0 n cap)),(3,.o (.v (.int .i64 k)))],[(61,.sym (rowV ratC L++junk) zat)],[]⟩)
   (fun k=>(1<=k/\k<=n)/\ddp (L.take k)=L.take k) (fun k=>n-k) 1 ⟨⟨by omega,by omega⟩,by rcases L with _ | ⟨x,r⟩ <;> simp [ddp,ddpG]⟩
   (zzj ⟨rfl,rfl,trivial⟩ ⟨mrf rfl,trivial⟩ (fun R hR=>hR)) ?_
 rintro k ⟨⟨hk1,hkn⟩,hdk⟩;conv=>whnf
 by_cases hk : k<n;rotate_left
 · refine zac (zz9 (show ¬(k : Int)<(n : Int) by omega)) ?_;conv=>whnf
   have hd : ddp L=L:=by rw [zyJ (by omega)] at hdk; exact hdk
   exact ⟨by rw [hd,<-hn]; rfl,junk,by rw [hd]; rfl,by rw [hd]⟩
 refine zag (zz8 (show (k : Int)<(n : Int) by omega)) ?_;obtain ⟨x,hx⟩ : ∃ x,L[k]?=some x:=⟨_,zyy (by omega)⟩;obtain ⟨y,hy⟩ : ∃ y,L[k-1]?=some y:=⟨_,zyy (by omega)⟩;conv=>whnf
 refine zak.qk ?_;conv=>whnf
 refine ⟨⟨by omega,by omega⟩,?_⟩;conv=>whnf
 refine zA2 ratC zbm (k:=k) (by show 0+(k : Int).toNat*3=k*3; rw [zzS]; omega) (by omega) (by decide) (fun h=>by cases h) ?_;intro x' hx';obtain rfl : x'=x:=by rw [hx] at hx'; exact (zz1 hx').symm
 conv=>whnf
 refine ⟨by rw [wl (by omega) (by omega)]; omega,?_⟩;conv=>whnf
 refine zA2 ratC zbm (k:=k-1) (by show 0+(IntKind.i64.wrap ((k : Int)-1)).toNat*3=(k-1)*3; rw [wl (by omega) (by omega),zzS]; omega) (by omega) (by decide) (fun h=>by cases h) ?_;intro y' hy';obtain rfl : y'=y:=by rw [hy] at hy'; exact (zz1 hy').symm
 conv=>whnf
 have hstep:=zhc (by omega) hx hy;by_cases he : x'=y';rotate_left
 · refine zac ((eqR x' y').trans (zz9 he)) ?_;conv=>whnf
   rw [zxI he,hdk,<-zaD hx] at hstep;exact ⟨k+1,⟨⟨by omega,by omega⟩,hstep⟩,by show n-(k+1)<n-k; omega,zzj ⟨rfl,zyr (fun z=>some (SV.o (.v (.int .i64 z)))) (wr (by omega)),trivial⟩ ⟨mrf rfl,trivial⟩ (fun R hR=>hR)⟩
 refine zag ((eqR x' y').trans (zz8 he)) ?_;rw [zxJ he] at hstep;conv=>whnf
 refine ⟨by omega,?_⟩;conv=>whnf
 refine zal (ι:=Nat×Nat×List Raw) (fun ⟨j,m,R⟩=>⟨[(0,.o (.s 61 0 n cap)),(3,.o (.v (.int .i64 m))),(4,.o (.s 61 (k*3) (n-k) (cap-k))),(5,.o (.v (.int .i64 j)))],[(61,.sym (rowV ratC R++junk) zat)],[]⟩)
   (fun ⟨j,m,R⟩=>(1<=j/\k+j<=n)/\R.length=n/\(m<k+j/\R.take m=ddp (L.take (k+j))/\m=(ddp (L.take (k+j))).length)/\R.drop (k+j-1)=L.drop (k+j-1)) (fun ⟨j,m,R⟩=>n-(k+j)) (1,k,L)
   ⟨⟨by omega,by omega⟩,hn.symm,⟨by omega,by rw [hstep,hdk],by rw [hstep,hdk,zyI]; omega⟩,rfl⟩
   (zzj ⟨rfl,rfl,zyr (fun z=>some (SV.o (.s 61 z (n-k) (cap-k)))) (by show 0+(k : Int).toNat*3=k*3; rw [zzS]; omega),rfl,trivial⟩ ⟨mrf rfl,trivial⟩ (fun R hR=>hR)) ?_
 rintro ⟨j,m,R⟩ ⟨⟨hj1,hjn⟩,hRl,⟨hmk,hRt,hml⟩,hRd⟩;conv=>whnf
 by_cases hj : k+j<n
 · refine zag (zz8 (show (j : Int)<((n-k : Nat) : Int) by omega)) ?_;have hget : ∀ i,k+j-1<=i->R[i]?=L[i]?:=fun i hi=>by
     have:=zyr (fun l=>l[i-(k+j-1)]?) hRd;simpa [zx8,show k+j-1+(i-(k+j-1))=i by omega] using this
   obtain ⟨u,hu⟩ : ∃ u,L[k+j]?=some u:=⟨_,zyy (by omega)⟩;obtain ⟨v,hv⟩ : ∃ v,L[k+j-1]?=some v:=⟨_,zyy (by omega)⟩;have hu2:=(hget (k+j) (by omega)).trans hu;have hv2:=(hget (k+j-1) (by omega)).trans hv;have hst2:=zhc (k:=k+j) (by omega) hu hv;conv=>whnf
   refine zak.qk ?_;conv=>whnf
   refine ⟨by omega,?_⟩;conv=>whnf
   refine zA2 ratC zbm (k:=k+j) (by show k*3+(j : Int).toNat*3=(k+j)*3; rw [zzS]; omega) (by omega) (by decide) (fun h=>by cases h) ?_;intro u' hu';obtain rfl : u'=u:=by rw [hu2] at hu'; exact (zz1 hu').symm
   conv=>whnf
   refine ⟨by rw [wl (by omega) (by omega)]; omega,?_⟩;conv=>whnf
   refine zA2 ratC zbm (k:=k+j-1) (by show k*3+(IntKind.i64.wrap ((j : Int)-1)).toNat*3=(k+j-1)*3; rw [wl (by omega) (by omega),zzS]; omega) (by omega) (by decide) (fun h=>by cases h) ?_;intro v' hv';obtain rfl : v'=v:=by rw [hv2] at hv'; exact (zz1 hv').symm
   conv=>whnf
   by_cases hne : u'=v'
   · refine zac (zyr (!·) ((eqR u' v').trans (zz8 hne))) ?_;conv=>whnf
     rw [zxJ hne] at hst2;exact ⟨(j+1,m,R),⟨⟨by omega,by omega⟩,hRl,⟨by omega,by rw [<-zxS,hst2]; exact hRt,by rw [<-zxS,hst2]; exact hml⟩,by
       have:=zyr (fun l=>l.drop 1) hRd;simpa [zze,show k+j-1+1=k+(j+1)-1 by omega,show 1+(k+j-1)=k+(j+1)-1 by omega] using this⟩,by show n-(k+(j+1))<n-(k+j); omega,
       zzj ⟨rfl,rfl,rfl,zyr (fun z=>some (SV.o (.v (.int .i64 z)))) (wr (by omega)),trivial⟩ ⟨mrf rfl,trivial⟩ (fun R hR=>hR)⟩
   · refine zag (by show (!_)=true; rw [eqR,zz9 hne]; rfl) ?_;rw [zxI hne] at hst2;conv=>whnf
     refine ⟨by omega,?_⟩;conv=>whnf
     refine zA2 ratC zbm (k:=k+j) (by show k*3+(j : Int).toNat*3=(k+j)*3; rw [zzS]; omega) (by omega) (by decide) (fun h=>by cases h) ?_;intro u2 hu2';obtain rfl : u2=u':=by rw [hu2] at hu2'; exact (zz1 hu2').symm
     conv=>whnf
     refine ⟨by omega,?_⟩;conv=>whnf
     refine ⟨?_,?_⟩
     · show 0+(m : Int).toNat*3+3<=(rowV ratC R++junk).length;rw [zz2,zad zbm,hRl,zzS]; omega
     conv=>whnf
     refine ⟨(j+1,m+1,R.set m u2),⟨⟨by omega,by omega⟩,by rw [List.length_set]; exact hRl,⟨by omega,?_,?_⟩,?_⟩,by show n-(k+(j+1))<n-(k+j); omega,
       zzj ⟨rfl,zyr (fun z=>some (SV.o (.v (.int .i64 z)))) (wr (by omega)),rfl,zyr (fun z=>some (SV.o (.v (.int .i64 z)))) (wr (by omega)),trivial⟩ ⟨⟨_,rfl,?_⟩,trivial⟩ (fun R hR=>hR)⟩
     · rw [<-zxS,hst2,<-hRt,zAr,List.getElem?_set_self (by omega),List.take_set_of_le (zxr m)]; rfl
     · rw [<-zxS,hst2,zz2,<-hml]; rfl
     · rw [List.drop_set_of_lt (by omega)];have:=zyr (fun l=>l.drop 1) hRd;simpa [zze,show k+j-1+1=k+(j+1)-1 by omega,show 1+(k+j-1)=k+(j+1)-1 by omega] using this
     · have:=zk7 zbm (junk:=junk) u2 (show m<R.length by omega) (show 0+(m : Int).toNat*3=m*3 by rw [zzS]; omega);show MEle (ME.sym (putN (0+(m : Int).toNat*3) (ratC u2) (rowV ratC R++junk)) zat) _;rw [this];exact .refl _
 · refine zac (zz9 (show ¬(j : Int)<((n-k : Nat) : Int) by omega)) ?_;rw [zyJ (show L.length<=k+j by omega)] at hRt hml;conv=>whnf
   refine ⟨by omega,?_⟩;conv=>whnf
   refine ⟨?_,?_⟩
   · refine ⟨by show 0<n-(m : Int).toNat; rw [zzS]; omega,rfl,?_,?_⟩
     · show 0+(m : Int).toNat*3+(n-(m : Int).toNat)*3<=(rowV ratC R++junk).length;rw [zz2,zad zbm,hRl,zzS]; omega
     · intro v hv;have hv : v∈[Value.bool false,.string ⟨#[]⟩,.string ⟨#[]⟩]:=hv;simp only [zy1,zBL,or_false] at hv;rcases hv with rfl | rfl | rfl <;> rfl
   conv=>whnf
   refine ⟨by omega,?_⟩;conv=>whnf
   obtain ⟨z,hz⟩ : ∃ z,z=repl (n-(m : Int).toNat) [Value.bool false,.string ⟨#[]⟩,.string ⟨#[]⟩]:=⟨_,rfl⟩;have hzl : z.length=(n-m)*3:=by rw [hz,zbP,zzS]; rfl
   refine ⟨?_,z++junk,?_,?_⟩
   · rw [<-hml]; rfl
   · show some (ME.sym (putN (0+(m : Int).toNat*3) (repl (n-(m : Int).toNat) [Value.bool false,.string ⟨#[]⟩,.string ⟨#[]⟩]) (rowV ratC R++junk)) zat)=_;rw [<-hz,zb9 _ _ _ (by rw [zz2,zad zbm,hRl,hzl,zzS]; omega),hzl,zzS];have e1 : (rowV ratC R++junk).take (0+m*3)=rowV ratC (ddp L):=by
       rw [zyo,zA3 (by rw [zad zbm,hRl]; omega),zbh zbm,hRt]
     have e2 : (rowV ratC R++junk).drop (0+m*3+(n-m)*3)=junk:=by
       rw [show 0+m*3+(n-m)*3=(rowV ratC R).length by rw [zad zbm,hRl]; omega,List.drop_left]
     rw [e1,e2,zyF]
   · rw [zz2,zz2,zz2,zad zbm,zad zbm,hzl,<-hml,<-hn]; omega





theorem zuU {k : Nat} {a b c d : V} (ha : SzV k a) (hb : SzV k b) (hc : SzV k c) (hd : SzV k d) {x : V×V} (h : zbV a b c d=some x) : SzV (19*k+13) x.1/\SzV (19*k+13) x.2:=by
 unfold zbV at h;split at h
 ·split at h
  ·cases h
  ·cases h
   have:=(ha.at hb (((hc.sub ha).cross (hd.sub hc)).div ((hb.sub ha).cross (hd.sub hc)))).le (show _<=19*k+13 by omega);exact ⟨this,this⟩
 ·split at h
  ·cases h
  ·split at h
   ·cases h
   ·cases h
    exact ⟨(ztE (zgG ha hb).1 (zgG hc hd).1).le (by omega),(zup (zgG ha hb).2 (zgG hc hd).2).le (by omega)⟩
def P00 : Pt×Pt:=(P0,P0)
def cc (b : Option Pt) : Pt×Pt:=match b with
 | none=>P00
 | some c=>(c,c)
abbrev pt (x y : Int) : Pt:=PQ ⟨(x : Rat),(y : Rat)⟩
theorem c_pt (x y : Int) (h1 : x.natAbs<256) (h2 : y.natAbs<256) : Fn PP 37 [.int .i64 x,.int .i64 y] (pV (pt x y)):=zxc x y (by omega) (by omega) (by omega) (by omega)
abbrev zBN:=@decide_eq_false_iff_not
theorem zan.fld {α : Type} {st : SS} {A A' : Option Addr} {xs : List α} {j o m n : Nat} {agg : Bool} {K : SV->Prop} {x : α} (f : α->List Value) (hf : ∀ x,(f x).length=n) (hR : zai A (rowV f xs)∈st.re) (hx : xs[j]?=some x) (hA : A'=A.map (·.add (j*n+o)))
  (ho : o+m<=n) (h0 : 0<m) (h1 : agg=false->m=1) (hk : K (mkV agg (((f x).drop o).take m))) : zan st m agg A' K:=by
 have hj : j<xs.length:=(zyz.1 hx).1;have hlen : (rowV f xs).length=xs.length*n:=zad hf xs;have hle : j*n+n<=xs.length*n:=by rw [<-zyb]; exact zyL n hj
 refine zzv (off:=j*n+o) hR hA (by omega) h0 h1 ?_;have hp : ((rowV f xs).drop (j*n)).take n=f x:=zdB hf hx;have he : ((rowV f xs).drop (j*n+o)).take m=((f x).drop o).take m:=by
  rw [<-hp,<-zze,List.drop_take,zyH,zAs (by omega)]
 rw [he]; exact hk
abbrev zBM:=@zan.fld
def bigP (k : Nat) (p : Pt) : Bool:=decide (k<p.x.num.length)||(decide (k<p.x.den.length)||(decide (k<p.y.num.length)||decide (k<p.y.den.length)))
theorem zjl {k : Nat} {p : Pt} (h : bigP k p=false) : p.sm k:=by
 simp only [bigP,zxD,zBN,Nat.not_lt] at h;exact ⟨⟨h.1,h.2.1⟩,h.2.2.1,h.2.2.2⟩

theorem zvP {P : Program} {E : Env} {st : SS} {w : World} {k : Nat} {xs : List Value} (hx : boxV st k=some xs) (he : ∀ mm,lk k st.me=some mm->MEok E w k mm) : ∃ b,E.β k=some b/\SlF (some ⟨b,0,none⟩) xs w:=by
 have hb : ∃ b ty,E.β k=some b/\w.heap[b]?=some (.cells xs.toArray ty (0,0)):=by
  unfold boxV at hx;split at hx
  ·rename_i cs' ty hl;obtain ⟨b,hb,hcells⟩:=he _ hl;rw [zbq E hx] at hcells;exact ⟨b,ty,hb,hcells⟩
  ·rename_i cs' ty hl
   cases hx
   obtain ⟨b,hb,hcells⟩:=he _ hl;exact ⟨b,ty,hb,hcells⟩
  ·cases hx
 obtain ⟨b,ty,hb,hcells⟩:=hb;exact ⟨b,hb,.inr ⟨b,0,rfl,fun j v hj=>by rw [zcg hcells,zyo]; simpa using hj⟩⟩
theorem zgE (A : Option Addr) (c : Nat) (l : List Pt) (g : FuncId) (caps : List Value) (f : Pt->Bool) (re : List Res) (hl : l.length<=1000000) (hok : ∀ R∈re,R.ok)
  (hf : ∀ x∈l,FnM PP g (pV x::caps) (facts re) (zaR (.bool (f x)))) :
  FnM PP 73 [.slice A l.length c,cloV g caps] (facts (zai A (rowV ptC l)::re)) (zaR (.int .i64 (idxF f 0 l))):=by
 refine zzo zab mixed Tryz.func73 rfl rfl (zxW rfl) (fun R hR=>by rcases zy1.1 hR with rfl | hR; exact zzk _ _; exact hok R hR) ?_;intro w hw;obtain ⟨n,hn⟩ : ∃ n,n=l.length:=⟨_,rfl⟩;have hA : 0<n->A.isSome=true:=fun h=>zam (hw _ (zxA ..)) (by rw [zad zo3]; omega)
 rw [<-hn] at hl ⊢;conv=>whnf
 refine zal (ι:=Nat) (fun i=>⟨[(0,.o (.v (.slice A n c))),(1,.o (.v (cloV g caps))),(6,.o (.v (.slice A n c))),(7,.o (.v (.int .i64 n))),(8,.o (.v (.int .i64 i)))],[],zai A (rowV ptC l)::re⟩)
  (fun i=>i<=n/\idxF f 0 l=idxF f i (l.drop i)) (fun i=>n-i) 0 ⟨zyD _,rfl⟩
  (zzj ⟨rfl,rfl,rfl,rfl,rfl,trivial⟩ trivial (fun R hR=>hR)) ?_
 rintro i ⟨hi,hx⟩;conv=>whnf
 refine zaj ?_ ?_
 ·intro h;have hi2 : i<n:=by
   have : (i : Int)<(n : Int):=zA0 h;omega
  conv=>whnf
  refine ⟨⟨by omega,by omega,hA (by omega)⟩,?_⟩;conv=>whnf
  obtain ⟨p,hp⟩ : ∃ p,l[i]?=some p:=⟨_,zyy (by omega)⟩;refine zzR (A:=A) (xs:=l) (j:=(i : Int)) ptC zo3 (zxA ..) rfl (by rw [zzS]; omega) (by decide) (fun h=>by cases h) ?_;intro p' hp';obtain rfl:=zbB hp' hp;conv=>whnf
  refine zzr (hf p' (zyq hp)).enters (zzq (hf p' (zyq hp)) rfl (fun R hR=>zxB _ hR)) ?_;have hdrop : l.drop i=p'::l.drop (i+1):=by
   obtain ⟨h1,h2⟩:=zyz.1 hp;rw [<-h2]; exact zzd h1
  rw [hdrop] at hx;simp only [idxF] at hx
  cases hfp : f p' with
  | true =>
   rw [hfp,zxJ rfl] at hx;conv=>whnf
   refine zaa ?_;rw [hx]
  | false =>
   rw [hfp,zxI (by simp)] at hx;conv=>whnf
   exact ⟨i+1,⟨by omega,hx⟩,by omega,zzj ⟨rfl,rfl,rfl,rfl,zaq (n:=1000001) (by omega) (by omega),trivial⟩ trivial (fun R hR=>hR)⟩
 ·intro h;have hi2 : i=n:=by
   have : ¬(i : Int)<(n : Int):=zA1 h;omega
  rw [hi2,hn,zAE] at hx;conv=>whnf
  refine zaa ?_;rw [hx]; rfl
theorem zhZ (A : Option Addr) (c : Nat) (l : List Pt) (g : FuncId) (caps : List Value) (f : Pt->Bool) (re : List Res) (hl : l.length<=1000000) (hok : ∀ R∈re,R.ok)
  (hf : ∀ x∈l,FnM PP g (pV x::caps) (facts re) (zaR (.bool (f x)))) :
  FnM PP 21 [.slice A l.length c,cloV g caps] (facts (zai A (rowV ptC l)::re)) (zaR (.bool (l.any f))):=by
 refine zzo zab mixed Tryz.func21 rfl rfl (zxW rfl) (fun R hR=>by rcases zy1.1 hR with rfl | hR; exact zzk _ _; exact hok R hR) ?_;intro w hw;conv=>whnf
 refine zzr (zgE A c l g caps f re hl hok hf).enters (zzq (zgE A c l g caps f re hl hok hf) rfl (fun R hR=>hR)) ?_;conv=>whnf
 refine zaa ?_;show Value.bool (decide (idxF f 0 l>=0))=_;rw [zjq]
abbrev zBO:=@beq_eq_false_iff_ne
theorem zh1 (xs : List Rat) (hs : ∀ x∈xs,Sz KV x) (hl : xs.length<=1000000) : FnC PP 88 [] [] zat xs.length (rowV ratC (xs.map Q)) (ascL xs).length (rowV ratC ((ascL xs).map Q)):=by
 refine FnC.of zab mixed Tryz.func88 rfl rfl (zxW rfl) (by simp) ?_;intro w b cap junk hcap _;have hc:=zok ((zlT xs).map Q) (by rw [zyA,(zcK xs).length_eq]; exact hl);rw [ztP (fun _ _ h=>ziz.1 h),zd0,zyA,zyA,(zcK xs).length_eq] at hc;conv=>whnf
 refine zae.ws (zt8 xs hs hl) rfl rfl hcap (by simp) ?_ rfl;conv=>whnf
 refine zae.cs hc rfl rfl hcap (by simp) (fun jk hjk=>?_) rfl;conv=>whnf
 refine ⟨rfl,jk,rfl,?_⟩;rw [hjk,zz2,zz2,zad zbm,zad zbm,zyA,zyA,(zcK xs).length_eq]
structure Pc where
 a : V
 b : V
 i : Nat
def pcC (p : Pc) : List Value:=sgC (PQ p.a,PQ p.b)++[.int .i64 p.i]
theorem zew (p : Pc) : (pcC p).length=13:=rfl
abbrev pcV (p : Pc) : Value:=.agg ⟨pcC p⟩
def Pc.sg (p : Pc) : Sg:=⟨PQ p.a,PQ p.b⟩
def Pc.sm (k : Nat) (p : Pc) : Prop:=SzV k p.a/\SzV k p.b
abbrev KP : Nat:=2000
def hgtO (p : Pc) (x : Rat) : Option Rat:=if (hgtE p.a p.b x).2=0 then some (hgtE p.a p.b x).1 else none
theorem zp8 (A B : V) (x : Rat) (h : (hgtE A B x).2≠0) : (hgtE A B x).1=0:=by
 unfold hgtE at *;split at h
 ·rename_i k; rw [zxJ k]
 ·rename_i k; rw [zxI k];split at h
  ·exact absurd rfl h
  ·rename_i k2; rw [zxI k2]
theorem zon (p : Pc) : Fn PP 89 [pcV p] (.bool (decide (p.a.x=p.b.x))):=by
 refine zzn zab mixed Tryz.func89 rfl rfl (zxW rfl) ?_;intro w;conv=>whnf
 refine zaa (zyr Value.bool ((eqR (Q p.a.x) (Q p.b.x)).trans (decide_eq_decide.2 ziz)))
theorem zej (p : Pc) (x : Rat) (hp : p.sm KP) (hx : Sz KV x) (hne : p.a≠p.b) : Fn PP 90 [pcV p,qV x] (.tuple #[qV ((hgtO p x).getD 0),.bool (hgtO p x).isSome]):=by
 refine zzn zab mixed Tryz.func90 rfl rfl (zxW rfl) ?_;intro w;conv=>whnf
 have hd : ¬zb3 p.sg:=fun h=>hne (by have:=zaI.1 h; simpa [Pc.sg] using this)
 refine cf (zmt p.sg (Q x) ⟨hp.1.q.le (by decide),hp.2.q.le (by decide)⟩ hx.q) ?_;rw [zcV,zxI hd,Q_v,show p.sg.A.v=p.a from PQ_v _,show p.sg.B.v=p.b from PQ_v _];unfold hgtO;have hz:=zp8 p.a p.b x;generalize hgtE p.a p.b x=e at hz ⊢;obtain ⟨y,k⟩:=e;by_cases hk : k=0
 ·subst hk;conv=>whnf
  exact zau rfl
 ·rw [zxI hk,show y=0 from hz hk];conv=>whnf
  refine zau ?_;show Value.tuple #[qV 0,.bool (k==0)]=_;rw [zBO.2 hk]; rfl
def zaX (b : Bx) (p : V) : Nat->Rat
 | 0=>p.x-b.lo.x.v
 | 1=>b.hi.x.v-p.x
 | 2=>p.y-b.lo.y.v
 | _=>b.hi.y.v-p.y
theorem zur (a : Addr) (b : Bx) (p : Pt) (hb : b.sm KK) (hp : p.sm KK) : FnM PP 129 [pV p,ptrV a] (facts [zai (some a) (boxC b)]) (zaR (qV (zaX b p.v 0))):=by
 refine zzo zab mixed Tryz.func129 rfl rfl (zxW rfl) (by simp [zzk]) ?_;intro w hw;obtain ⟨b1,o1,rfl⟩:=zbT (zaK hw) (by simp [boxC,ptC]);conv=>whnf
 refine zzv (off:=0) (zxA ..) (zbJ _ _) (zxW rfl) (by decide) (fun h=>by cases h) ?_;conv=>whnf
 refine cf (zec p.x b.lo.x hp.1 hb.1.1) ?_;conv=>whnf
 exact zaa rfl
theorem ztR (a : Addr) (b : Bx) (p : Pt) (hb : b.sm KK) (hp : p.sm KK) : FnM PP 130 [pV p,ptrV a] (facts [zai (some a) (boxC b)]) (zaR (qV (zaX b p.v 1))):=by
 refine zzo zab mixed Tryz.func130 rfl rfl (zxW rfl) (by simp [zzk]) ?_;intro w hw;obtain ⟨b1,o1,rfl⟩:=zbT (zaK hw) (by simp [boxC,ptC]);conv=>whnf
 refine zzv (off:=6) (zxA ..) rfl (zxW rfl) (by decide) (fun h=>by cases h) ?_;conv=>whnf
 refine cf (zec b.hi.x p.x hb.2.1 hp.1) ?_;conv=>whnf
 exact zaa rfl
theorem zuf (a : Addr) (b : Bx) (p : Pt) (hb : b.sm KK) (hp : p.sm KK) : FnM PP 131 [pV p,ptrV a] (facts [zai (some a) (boxC b)]) (zaR (qV (zaX b p.v 2))):=by
 refine zzo zab mixed Tryz.func131 rfl rfl (zxW rfl) (by simp [zzk]) ?_;intro w hw;obtain ⟨b1,o1,rfl⟩:=zbT (zaK hw) (by simp [boxC,ptC]);conv=>whnf
 refine zzv (off:=3) (zxA ..) rfl (zxW rfl) (by decide) (fun h=>by cases h) ?_;conv=>whnf
 refine cf (zec p.y b.lo.y hp.2 hb.1.2) ?_;conv=>whnf
 exact zaa rfl
theorem ztr (a : Addr) (b : Bx) (p : Pt) (hb : b.sm KK) (hp : p.sm KK) : FnM PP 132 [pV p,ptrV a] (facts [zai (some a) (boxC b)]) (zaR (qV (zaX b p.v 3))):=by
 refine zzo zab mixed Tryz.func132 rfl rfl (zxW rfl) (by simp [zzk]) ?_;intro w hw;obtain ⟨b1,o1,rfl⟩:=zbT (zaK hw) (by simp [boxC,ptC]);conv=>whnf
 refine zzv (off:=9) (zxA ..) rfl (zxW rfl) (by decide) (fun h=>by cases h) ?_;conv=>whnf
 refine cf (zec b.hi.y p.y hb.2.2 hp.2) ?_;conv=>whnf
 exact zaa rfl
abbrev zs8 (a : Addr) : Value:=.agg ⟨[cloV 129 [ptrV a],cloV 130 [ptrV a],cloV 131 [ptrV a],cloV 132 [ptrV a]]⟩
theorem zaV.boxF {st : SS} {E : Env} {W0 : World} {N : Nat} {w : World} (hm : zaV ⟨W0,[],N⟩ E st.me st.re w) {k : Nat} {xs : List Value} (hx : boxV st k=some xs) : ∃ b,E.β k=some b/\SlF (some ⟨b,0,none⟩) xs w/\Fr W0 (some ⟨b,0,none⟩):=by
 obtain ⟨b,h1,h2⟩:=zvP (P:=PP) hx (fun mm hl=>hm.ent k mm hl);refine ⟨b,h1,h2,fun a ha=>?_⟩
 cases ha
 have : ∃ mm,lk k st.me=some mm:=by
  unfold boxV at hx
  cases h : lk k st.me with
  | none=>rw [h] at hx; cases hx
  | some mm=>exact ⟨mm,rfl⟩
 obtain ⟨mm,hl⟩:=this;rcases (hm.ge k mm b hl h1).1 with h | h
 ·exact h
 ·cases h
theorem zpp (b : Bx) : FnM PP 65 [bxV b] (facts []) (zea zs8 (fun a=>[zai (some a) (boxC b)])):=by
 refine FnE.of zab mixed Tryz.func65 rfl rfl (zxW rfl) (by simp) ?_;intro w hw;conv=>whnf
 intro N E w' hm;obtain ⟨b0,h1,h2,h3⟩:=hm.boxF (k:=1) (xs:=boxC b) rfl;refine ⟨⟨b0,0,none⟩,?_,fun R hR=>by rw [zyZ.1 hR]; exact h2,fun R hR=>by rw [zyZ.1 hR]; exact h3.bs⟩;show Value.agg ([AV.clo 129 [.l 1],.clo 130 [.l 1],.clo 131 [.l 1],.clo 132 [.l 1]].map (AV.real E)).toArray=_;simp [AV.real,CP.real,h1,ptrV,cloV]
def zcj (b : Bx) (A B : V) : Nat->Option (Rat×Rat)
 | 0=>some (0,1)
 | k+1=>match zcj b A B k with
  | none=>none
  | some (l,h)=>if zaX b B k-zaX b A k=0 then (if zaX b A k<0 then none else some (l,h))
   else if 0<zaX b B k-zaX b A k/\l < -zaX b A k/(zaX b B k-zaX b A k) then some (-zaX b A k/(zaX b B k-zaX b A k),h)
   else if zaX b B k-zaX b A k<0/\-zaX b A k/(zaX b B k-zaX b A k)<h then some (l,-zaX b A k/(zaX b B k-zaX b A k)) else some (l,h)
def zch (b : Bx) (A B : V) : Option (V×V):=match zcj b A B 4 with
 | none=>none
 | some (l,h)=>if h<l then none else some (A.at B l,A.at B h)
abbrev K0 : Nat:=100
theorem zeT {b : Bx} (hb : b.sm K0) {p : V} (hp : SzV K0 p) (k : Nat) : Sz 201 (zaX b p k):=by
 have h1:=hb.1.sz (by decide);have h2:=hb.2.sz (by decide);unfold zaX;split
 ·exact hp.1.sub h1.1
 ·exact h2.1.sub hp.1
 ·exact hp.2.sub h1.2
 ·exact h2.2.sub hp.2
theorem zgT {b : Bx} (hb : b.sm K0) {A B : V} (hA : SzV K0 A) (hB : SzV K0 B) : ∀ (k : Nat) (l h : Rat),zcj b A B k=some (l,h)->Sz 605 l/\Sz 605 h
 | 0,l,h,e=>by
  cases e
  exact ⟨(show Sz 1 (0 : Rat) from ⟨by decide,by decide⟩).le (by decide),(show Sz 1 (1 : Rat) from ⟨by decide,by decide⟩).le (by decide)⟩
 | k+1,l,h,e=>by
  have zf:=zeT hb hA k;have zt : Sz 605 (-zaX b A k/(zaX b B k-zaX b A k)):=(zf.neg.div ((zeT hb hB k).sub zf)).le (by decide);unfold zcj at e
  cases hc : zcj b A B k with
  | none=>rw [hc] at e; cases e
  | some p =>
   obtain ⟨l0,h0⟩:=p;obtain ⟨z1,z2⟩:=zgT hb hA hB k l0 h0 hc;rw [hc] at e;simp only at e;split at e
   ·split at e
    ·cases e
    ·cases e; exact ⟨z1,z2⟩
   ·split at e
    ·cases e; exact ⟨zt,z2⟩
    ·split at e
     ·cases e; exact ⟨z1,zt⟩
     ·cases e; exact ⟨z1,z2⟩
def zpx (e : Int) : Value:=.tuple #[sV S0,.bool false,.int .i64 e]
def zlc (s : Sg) (b : Bx) : Value:=if zb3 s then zpx 12 else if b.hi.x.v<b.lo.x.v\/b.hi.y.v<b.lo.y.v then zpx 1 else match zch b s.A.v s.B.v with
 | none=>zpx 0
 | some (c,d)=>.tuple #[sV ⟨PQ c,PQ d⟩,.bool true,.int .i64 0]
theorem zwb (s : Sg) (b : Bx) (hs : s.sm K0) (hb : b.sm K0) : Fn PP 18 [sV s,bxV b] (zlc s b):=by
 refine zzn zab mixed Tryz.func18 rfl rfl (zxW rfl) ?_;intro w;have zA:=hs.1.sz (by decide);have zB:=hs.2.sz (by decide);conv=>whnf
 refine cf (zhd s (hs.le (by decide))) ?_;rw [zcE,zlc];by_cases hd : zb3 s
 ·rw [zxJ hd,zxJ hd];conv=>whnf
  exact zar rfl
 rw [zxI hd,zxI hd];conv=>whnf
 refine cf (zbp b.lo.x b.hi.x (hb.1.1.le (by decide)) (hb.2.1.le (by decide))) ?_;conv=>whnf
 by_cases h1 : b.hi.x.v<b.lo.x.v
 ·rw [zxJ (.inl h1)];refine zag (zz8 (zbM.2 h1)) ?_;conv=>whnf
  exact zar rfl
 refine zac (zz9 (fun h=>h1 (zbM.1 h))) ?_;conv=>whnf
 refine cf (zbp b.lo.y b.hi.y (hb.1.2.le (by decide)) (hb.2.2.le (by decide))) ?_;conv=>whnf
 by_cases h2 : b.hi.y.v<b.lo.y.v
 ·rw [zxJ (.inr h2)];refine zag (zz8 (zbM.2 h2)) ?_;conv=>whnf
  exact zar rfl
 rw [zxI (fun h=>h.elim h1 h2)];refine zac (zz9 (fun h=>h2 (zbM.1 h))) ?_;conv=>whnf
 refine cf (zqP 1 (by decide) (by decide)) ?_;conv=>whnf
 refine zBI (zpp b).enters (zzq (zpp b) rfl (by simp)) (by simp [zzk]) (fun a _=>?_);conv=>whnf
 refine zal (ι:=Nat×Rat×Rat) (fun ⟨i,l,h⟩=>⟨[(2,.o (.p 2 0)),(3,.o (.p 3 0)),(4,.o (.p 4 0)),(7,.o (.p 7 0)),(8,.o (.p 8 0)),(42,.o (.v (zs8 a))),(43,.o (.v (.int .i64 i)))],[(2,sgB s),(3,.box ((boxC b).map AV.v) zaM),(4,sgB S0),(7,ratM (Q l)),(8,ratM (Q h))],[zai (some a) (boxC b)]⟩)
  (fun ⟨i,l,h⟩=>i<=4/\zcj b s.A.v s.B.v i=some (l,h)) (fun ⟨i,l,h⟩=>4-i) (0,0,1) ⟨by omega,rfl⟩
  (zzj ⟨rfl,rfl,rfl,rfl,rfl,rfl,rfl,trivial⟩ ⟨mrf rfl,mrf rfl,mrf rfl,⟨_,rfl,by rw [zd8]; exact .refl _⟩,mrf rfl,trivial⟩ (fun R hR=>hR)) ?_
 rintro ⟨i,l,h⟩ ⟨hi,hc⟩;obtain ⟨zl,zh⟩:=zgT hb zA zB i l h hc;have hnone : ∀ k,zcj b s.A.v s.B.v k=none->∀ j,zcj b s.A.v s.B.v (k+j)=none:=fun k hk j=>by
  induction j with
  | zero=>exact hk
  | succ j ih=>rw [<-zxS,zcj,ih]
 by_cases hi4 : i=4
 ·subst hi4;conv=>whnf
  refine cf (zbp (Q l) (Q h) (zl.q.le (by decide)) (zh.q.le (by decide))) ?_;rw [Q_v,Q_v,zch,hc];conv=>whnf
  by_cases hlh : h<l
  ·simp only [zxJ hlh];refine zag (zz8 (zbM.2 hlh)) ?_;conv=>whnf
   exact zar rfl
  simp only [zxI hlh];refine zac (zz9 (fun k=>hlh (zbM.1 k))) ?_;conv=>whnf
  refine zak.qk ?_;conv=>whnf
  refine cd (ztZ s.A s.B (Q l) (hs.1.le (by decide)) (hs.2.le (by decide)) (zl.q.le (by decide))) ?_;rw [Q_v];conv=>whnf
  refine cd (ztZ s.A s.B (Q h) (hs.1.le (by decide)) (hs.2.le (by decide)) (zh.q.le (by decide))) ?_;rw [Q_v];conv=>whnf
  exact zar rfl
 have hnx : zcj b s.A.v s.B.v (i+1)=none->zch b s.A.v s.B.v=none:=fun k=>by
  have:=hnone _ k (4-(i+1));rw [show i+1+(4-(i+1))=4 by omega] at this;rw [zch,this]
 have hcl : zcj b s.A.v s.B.v (i+1)=if zaX b s.B.v i-zaX b s.A.v i=0 then (if zaX b s.A.v i<0 then none else some (l,h))
   else if 0<zaX b s.B.v i-zaX b s.A.v i/\l < -zaX b s.A.v i/(zaX b s.B.v i-zaX b s.A.v i) then some (-zaX b s.A.v i/(zaX b s.B.v i-zaX b s.A.v i),h)
   else if zaX b s.B.v i-zaX b s.A.v i<0/\-zaX b s.A.v i/(zaX b s.B.v i-zaX b s.A.v i)<h then some (l,-zaX b s.A.v i/(zaX b s.B.v i-zaX b s.A.v i)) else some (l,h):=by rw [zcj,hc]
 have hbk : b.sm KK:=⟨hb.1.le (by decide),hb.2.le (by decide)⟩;have q1:=fun p (hp : Pt.sm K0 p)=>zur a b p hbk (hp.le (by decide))
 have q2:=fun p (hp : Pt.sm K0 p)=>ztR a b p hbk (hp.le (by decide))
 have q3:=fun p (hp : Pt.sm K0 p)=>zuf a b p hbk (hp.le (by decide))
 have q4:=fun p (hp : Pt.sm K0 p)=>ztr a b p hbk (hp.le (by decide))
 have zf:=zeT hb zA i;have zg:=zeT hb zB i;have hi' : i=0\/i=1\/i=2\/i=3:=by omega
 rcases hi' with rfl | rfl | rfl | rfl <;>
 ·conv=>whnf
  refine ⟨by decide,?_⟩;conv=>whnf
  refine zak.qk ?_;conv=>whnf
  first | refine cds (q1 s.A hs.1) ?_ | refine cds (q2 s.A hs.1) ?_ | refine cds (q3 s.A hs.1) ?_ | refine cds (q4 s.A hs.1) ?_
  conv=>whnf
  first | refine cds (q1 s.B hs.2) ?_ | refine cds (q2 s.B hs.2) ?_ | refine cds (q3 s.B hs.2) ?_ | refine cds (q4 s.B hs.2) ?_
  generalize zaX b s.A.v _=f at *;generalize zaX b s.B.v _=g at *;conv=>whnf
  refine cf (zec (Q g) (Q f) (zg.q.le (by decide)) (zf.q.le (by decide))) ?_;rw [Q_v,Q_v];have zs:=zg.sub zf;generalize g-f=e at zs hcl ⊢;conv=>whnf
  refine zy4 [(8,14,[6])] (by kernel_rfl) ?_;conv=>whnf
  refine cd (zv0 (Q f) (zf.q.le (by decide))) ?_;rw [Q_v];conv=>whnf
  refine cd (zkW (Q (-f)) (Q e) (zf.neg.q.le (by decide)) (zs.q.le (by decide))) ?_;rw [Q_v,Q_v,quoV];by_cases h0 : e=0
  ·rw [zxJ h0] at hcl ⊢;conv=>whnf
   refine cf (zes (Q f) (zf.q.le (by decide))) ?_;rw [Q_v];conv=>whnf
   by_cases hf : f<0
   ·refine zag (zz8 (zbj.2 hf)) ?_;rw [zxJ hf] at hcl;rw [hnx hcl];conv=>whnf
    exact zar rfl
   ·refine zac (zz9 (fun k=>hf (zbj.1 k))) ?_;rw [zxI hf] at hcl;conv=>whnf
    exact ⟨(_,l,h),⟨by decide,hcl⟩,zxW rfl,zzj ⟨rfl,rfl,rfl,rfl,rfl,rfl,rfl,trivial⟩ ⟨mrf rfl,mrf rfl,mrf rfl,mrf rfl,mrf rfl,trivial⟩ (fun R hR=>hR)⟩
  rw [zxI h0] at hcl ⊢;have zt : Sz 605 (-f/e):=(zf.neg.div zs).le (by decide);generalize -f/e=t at zt hcl ⊢;conv=>whnf
  refine cf (zes (Q e) (zs.q.le (by decide))) ?_;rw [Q_v];conv=>whnf
  by_cases hp : 0<e
  ·refine zag (zz8 (zbM.2 hp)) ?_;conv=>whnf
   refine cf (zbp (Q t) (Q l) (zt.q.le (by decide)) (zl.q.le (by decide))) ?_;rw [Q_v,Q_v];conv=>whnf
   by_cases hlt : l<t
   ·refine zag (zz8 (zbM.2 hlt)) ?_;rw [zxJ ⟨hp,hlt⟩] at hcl;conv=>whnf
    exact ⟨(_,t,h),⟨by decide,hcl⟩,zxW rfl,zzj ⟨rfl,rfl,rfl,rfl,rfl,rfl,rfl,trivial⟩ ⟨mrf rfl,mrf rfl,mrf rfl,mrf rfl,mrf rfl,trivial⟩ (fun R hR=>hR)⟩
   ·refine zac (zz9 (fun k=>hlt (zbM.1 k))) ?_;rw [zxI (fun k=>hlt k.2),zxI (fun k=>by have:=k.1; grind)] at hcl;conv=>whnf
    refine cf (zes (Q e) (zs.q.le (by decide))) ?_;rw [Q_v];conv=>whnf
    refine zac (zz9 (fun k=>by have:=zbj.1 k; grind)) ?_;conv=>whnf
    exact ⟨(_,l,h),⟨by decide,hcl⟩,zxW rfl,zzj ⟨rfl,rfl,rfl,rfl,rfl,rfl,rfl,trivial⟩ ⟨mrf rfl,mrf rfl,mrf rfl,mrf rfl,mrf rfl,trivial⟩ (fun R hR=>hR)⟩
  ·refine zac (zz9 (fun k=>hp (zbM.1 k))) ?_;rw [zxI (fun k=>hp k.1)] at hcl;conv=>whnf
   refine cf (zes (Q e) (zs.q.le (by decide))) ?_;rw [Q_v];conv=>whnf
   have hm : e<0:=by grind
   refine zag (zz8 (zbj.2 hm)) ?_;conv=>whnf
   refine cf (zbp (Q t) (Q h) (zt.q.le (by decide)) (zh.q.le (by decide))) ?_;rw [Q_v,Q_v];conv=>whnf
   by_cases hth : t<h
   ·refine zag (zz8 (zbj.2 hth)) ?_;rw [zxJ ⟨hm,hth⟩] at hcl;conv=>whnf
    exact ⟨(_,l,t),⟨by decide,hcl⟩,zxW rfl,zzj ⟨rfl,rfl,rfl,rfl,rfl,rfl,rfl,trivial⟩ ⟨mrf rfl,mrf rfl,mrf rfl,mrf rfl,mrf rfl,trivial⟩ (fun R hR=>hR)⟩
   ·refine zac (zz9 (fun k=>hth (zbj.1 k))) ?_;rw [zxI (fun k=>hth k.2)] at hcl;conv=>whnf
    exact ⟨(_,l,h),⟨by decide,hcl⟩,zxW rfl,zzj ⟨rfl,rfl,rfl,rfl,rfl,rfl,rfl,trivial⟩ ⟨mrf rfl,mrf rfl,mrf rfl,mrf rfl,mrf rfl,trivial⟩ (fun R hR=>hR)⟩
abbrev zBP:=@List.mem_flatMap
def zce (p q : Pc) : List Rat:=match zbV p.a p.b q.a q.b with
 | some (m,n)=>[m.x,n.x]
 | none=>[]
def absP (ps : List Pc) (j : Nat) (p : Pc) : List Rat:=p.a.x::p.b.x::(ps.take j).flatMap (zce p)
def absG (ps : List Pc) : Nat->List Rat
 | 0=>[]
 | i+1=>absG ps i++(match ps[i]? with
  | some p=>absP ps i p
  | none=>[])
def xsL (lo hi : V) (ps : List Pc) : List Rat:=ascL (lo.x::hi.x::absG ps ps.length)
def zfK (ps : List Pc) : Prop:=∀ p∈ps,p.sm KP/\p.a≠p.b
theorem zm3 {p q : Pc} (hp : p.sm KP) (hq : q.sm KP) : ∀ x∈zce p q,Sz 100000 x:=fun x hx=>by
 unfold zce at hx;split at hx
 ·rename_i m n h;have k:=zuU hp.1 hp.2 hq.1 hq.2 h;simp only [zy1,zBL,or_false] at hx;rcases hx with rfl | rfl
  ·exact k.1.1.le (by decide)
  ·exact k.2.1.le (by decide)
 ·cases hx
theorem zuZ {ps : List Pc} (hps : zfK ps) {p : Pc} (hp : p∈ps) (j : Nat) : ∀ x∈absP ps j p,Sz 100000 x:=fun x hx=>by
 have hpo:=(hps p hp).1;rcases zy1.1 hx with rfl | hx
 ·exact hpo.1.1.le (by decide)
 rcases zy1.1 hx with rfl | hx
 ·exact hpo.2.1.le (by decide)
 obtain ⟨q,hq,hx⟩:=zBP.1 hx;exact zm3 hpo (hps q (zxP hq)).1 x hx
theorem zlO {ps : List Pc} (hps : zfK ps) : ∀ i,∀ x∈absG ps i,Sz 100000 x
 | 0,x,hx=>by cases hx
 | i+1,x,hx=>by
  rcases zyK.1 hx with h | h
  ·exact zlO hps i x h
  ·cases hp : ps[i]? with
   | none=>rw [hp] at h; cases h
   | some p=>rw [hp] at h; exact zuZ hps (zyq hp) i x h
theorem zj7 {ps : List Pc} {p : Pc} : ∀ l : List Pc,(l.flatMap (zce p)).length<=2*l.length
 | []=>by simp
 | q::l=>by
  have:=zj7 (ps:=ps) (p:=p) l;have h2 : (zce p q).length<=2:=by unfold zce; split <;> simp
  rw [zAM,zz2,zxR]; omega
theorem zfr (ps : List Pc) : ∀ i,i<=400->(absG ps i).length<=802*i
 | 0,_=>by simp [absG]
 | i+1,hi=>by
  have:=zfr ps i (by omega);rw [absG,zz2];have h2 : (match ps[i]? with | some p=>absP ps i p | none=>[]).length<=802:=by
   cases ps[i]? with
   | none=>simp
   | some p =>
    have h3:=zj7 (ps:=ps) (p:=p) (ps.take i);rw [zyI] at h3;show (p.a.x::p.b.x::(ps.take i).flatMap (zce p)).length<=802;simp only [zxR]; omega
  omega
abbrev bldV (lo hi : V) (A : Option Addr) (n c : Nat) : Value:=.agg ⟨boxC ⟨PQ lo,PQ hi⟩++[.slice A n c]⟩
abbrev bldM (lo hi : V) (A : Option Addr) (n c : Nat) : ME:=.box ((boxC ⟨PQ lo,PQ hi⟩++[Value.slice A n c]).map AV.v) ziq
abbrev pcM (p : Pc) : ME:=.box ((pcC p).map AV.v) zcO
theorem rat2 (L : List Rat) (x y : Rat) : app (rowV ratC (L.map Q)) (ratC (Q x)++ratC (Q y))=rowV ratC ((L++[x,y]).map Q):=by
 rw [za4,zzL,zaE]; rfl
theorem sl0 (A : Option Addr) (c k : Nat) : (if c=(0 : Int).toNat then A else A.map (fun a=>a.add ((0 : Int).toNat*k)))=A:=by
 split
 ·rfl
 ·cases A with
  | none=>rfl
  | some a=>simp [Addr.add]
theorem zmi (lo hi : V) (A : Option Addr) (c : Nat) (ps : List Pc) (hlo : SzV K0 lo) (hhi : SzV K0 hi) (hps : zfK ps) (hl : ps.length<=400) (hc : ps.length<=c) :
  FnM PP 41 [bldV lo hi A ps.length c] (facts [zai A (rowV pcC ps)]) (zbD zat 3 (xsL lo hi ps).length (rowV ratC ((xsL lo hi ps).map Q))):=by
 refine zzp zab mixed Tryz.func41 rfl rfl (zxW rfl) (by simp [zzk]) ?_;intro w hw;obtain ⟨n,hn⟩ : ∃ n,n=ps.length:=⟨_,rfl⟩;have hA : 0<n->A.isSome=true:=fun h=>zam (zaK hw) (by rw [zad zew]; omega)
 rw [<-hn] at hl hc ⊢;conv=>whnf
 refine zal (ι:=Nat×List Rat) (fun ⟨i,L⟩=>⟨[(1,.o (.p 1 0)),(3,.o (.w 6)),(21,.o (.v (.slice A n c))),(22,.o (.v (.int .i64 n))),(23,.o (.v (.int .i64 i)))],[(1,bldM lo hi A n c),(6,.own zat 3 L.length (rowV ratC (L.map Q)))],[zai A (rowV pcC ps)]⟩)
  (fun ⟨i,L⟩=>i<=n/\L=lo.x::hi.x::absG ps i) (fun ⟨i,L⟩=>n-i) (0,[lo.x,hi.x]) ⟨zyD _,rfl⟩
  ((SLe.own 3 19 6 zat 3 2 rfl rfl rfl rfl (by decide) rfl rfl).trans (zzj ⟨rfl,rfl,rfl,rfl,rfl,trivial⟩ ⟨mrf rfl,mrf rfl,trivial⟩ (fun R hR=>hR))) ?_
 rintro ⟨i,L⟩ ⟨hi0,hL⟩;have hLl : L.length<=2+802*i:=by rw [hL]; have:=zfr ps i (by omega); simp only [zxR]; omega
 have hLs : ∀ x∈L,Sz 100000 x:=fun x hx=>by
  rw [hL] at hx;rcases zy1.1 hx with rfl | hx
  ·exact hlo.1.le (by decide)
  rcases zy1.1 hx with rfl | hx
  ·exact hhi.1.le (by decide)
  exact zlO hps i x hx
 conv=>whnf
 by_cases hin : i<n;rotate_left
 ·refine zac (zz9 (show ¬(i : Int)<(n : Int) by omega)) ?_;obtain rfl : i=n:=by omega
  have hx : xsL lo hi ps=ascL L:=by rw [xsL,hL,hn]
  conv=>whnf
  have ha:=zh1 L (fun x hx=>(hLs x hx).le (by decide)) (by omega);have hal : (ascL L).length<=L.length:=by rw [<-zd0]; exact zxs (zhJ _) (zxt (zcK L).length_eq)
  refine zae.cw 4 ha rfl (by rw [hL]; simp) hal (by rw [zad zbm,zyA]) (by simp) rfl rfl ?_ rfl;conv=>whnf
  rw [hx];exact ⟨4,rfl,rfl⟩
 refine zag (zz8 (show (i : Int)<(n : Int) by omega)) ?_;obtain ⟨p,hp⟩ : ∃ p,ps[i]?=some p:=⟨_,zyy (by omega)⟩;have hpo:=hps p (zyq hp);conv=>whnf
 refine ⟨⟨by omega,by omega,hA (by omega)⟩,?_⟩;conv=>whnf
 refine zan.nat (A:=A) pcC zew (zxA ..) rfl hp ?_;obtain ⟨p',rfl⟩ : ∃ z,z=p:=⟨_,rfl⟩;conv=>whnf
 refine ⟨by show L.length+2<=9223372036854775807/\(L.length+2)*40<=140737488355328; omega,?_⟩;conv=>whnf
 refine ⟨by omega,?_⟩;conv=>whnf
 refine zal (ι:=Nat×List Rat) (fun ⟨j,M⟩=>⟨[(1,.o (.p 1 0)),(3,.o (.w 38)),(5,.o (.p 5 0)),(21,.o (.v (.slice A n c))),(22,.o (.v (.int .i64 n))),(23,.o (.v (.int .i64 i))),(42,.o (.v (.slice A i c))),(43,.o (.v (.int .i64 i))),(44,.o (.v (.int .i64 j)))],[(1,bldM lo hi A n c),(5,pcM p'),(38,.own zat 3 M.length (rowV ratC (M.map Q)))],[zai A (rowV pcC ps)]⟩)
  (fun ⟨j,M⟩=>j<=i/\M=L++(p'.a.x::p'.b.x::(ps.take j).flatMap (zce p'))) (fun ⟨j,M⟩=>i-j) (0,L++[p'.a.x,p'.b.x]) ⟨zyD _,rfl⟩
  (zzj ⟨rfl,rfl,rfl,rfl,rfl,rfl,zyr (fun z=>some (SV.o (.v (.slice z i c)))) (sl0 A c 13),rfl,rfl,trivial⟩ ⟨mrf rfl,mrf rfl,⟨_,rfl,by rw [<-rat2]; simp only [zz2]; exact .refl _⟩,trivial⟩ (fun R hR=>hR)) ?_
 rintro ⟨j,M⟩ ⟨hj,hM⟩;have hf:=zj7 (ps:=ps) (p:=p') (ps.take j);rw [zyI] at hf;have hMl : M.length<=2+802*i+2+800:=by rw [hM,zz2]; simp only [zxR]; omega
 conv=>whnf
 by_cases hji : j<i;rotate_left
 ·refine zac (zz9 (show ¬(j : Int)<(i : Int) by omega)) ?_;obtain rfl : j=i:=by omega
  conv=>whnf
  exact ⟨(j+1,M),⟨by omega,by rw [absG,hp,hM,hL]; rfl⟩,by show n-(j+1)<n-j; omega,zzi (fun k=>bif Nat.beq k 6 then 38 else k) ⟨rfl,rfl,rfl,rfl,zaq hin (by omega),trivial⟩ ⟨mrf rfl,mrf rfl,trivial⟩ rfl (fun R hR=>hR)⟩
 refine zag (zz8 (show (j : Int)<(i : Int) by omega)) ?_;obtain ⟨q,hq⟩ : ∃ q,ps[j]?=some q:=⟨_,zyy (by omega)⟩;have hqo:=hps q (zyq hq);conv=>whnf
 refine ⟨⟨by omega,by omega,hA (by omega)⟩,?_⟩;conv=>whnf
 refine zan.nat (A:=A) pcC zew (zxA ..) rfl hq ?_;obtain ⟨q',rfl⟩ : ∃ z,z=q:=⟨_,rfl⟩;conv=>whnf
 have hdp : ¬zb3 p'.sg:=fun h=>hpo.2 (by have:=zaI.1 h; simpa [Pc.sg] using this)
 have hdq : ¬zb3 q'.sg:=fun h=>hqo.2 (by have:=zaI.1 h; simpa [Pc.sg] using this)
 refine cf (zvo p'.sg q'.sg ⟨hpo.1.1.q.le (by decide),hpo.1.2.q.le (by decide)⟩ ⟨hqo.1.1.q.le (by decide),hqo.1.2.q.le (by decide)⟩) ?_;rw [zji,zxI (fun h=>h.elim hdp hdq),show p'.sg.A.v=p'.a from PQ_v _,show p'.sg.B.v=p'.b from PQ_v _,show q'.sg.A.v=q'.a from PQ_v _,show q'.sg.B.v=q'.b from PQ_v _];have htk : (ps.take (j+1)).flatMap (zce p')=(ps.take j).flatMap (zce p')++zce p' q':=by rw [zaD hq,List.flatMap_append]; simp
 cases ho : zbV p'.a p'.b q'.a q'.b with
 | none =>
  have hX : zce p' q'=[]:=by rw [zce,ho]
  conv=>whnf
  exact ⟨(j+1,M),⟨by omega,by rw [htk,hX,zyP]; exact hM⟩,by show i-(j+1)<i-j; omega,zzj ⟨rfl,rfl,rfl,rfl,rfl,rfl,rfl,rfl,zaq hji (by omega),trivial⟩ ⟨mrf rfl,mrf rfl,mrf rfl,trivial⟩ (fun R hR=>hR)⟩
 | some mn =>
  obtain ⟨m1,m2⟩:=mn;have hX : zce p' q'=[m1.x,m2.x]:=by rw [zce,ho]
  conv=>whnf
  refine ⟨by show M.length+2<=9223372036854775807/\(M.length+2)*40<=140737488355328; omega,?_⟩;conv=>whnf
  refine ⟨(j+1,M++[m1.x,m2.x]),⟨by omega,by rw [htk,hX,hM]; simp⟩,by show i-(j+1)<i-j; omega,zzi (fun k=>bif Nat.beq k 38 then 66 else k) ⟨rfl,rfl,rfl,rfl,rfl,rfl,rfl,rfl,zaq hji (by omega),trivial⟩ ⟨mrf rfl,mrf rfl,⟨_,rfl,?_⟩,trivial⟩ rfl (fun R hR=>hR)⟩;rw [<-rat2]; simp only [zz2]; exact .refl _
def ordP (x : Rat) (p : Pc) : List Rat:=(if p.a.x=p.b.x/\p.a.x=x then [p.a.y,p.b.y] else [])++(hgtO p x).toList
def ysL (lo hi : V) (ps : List Pc) (x : Rat) : List Rat:=ascL (lo.y::hi.y::ps.flatMap (ordP x))
abbrev KX : Nat:=100000
theorem ziP {p : Pc} {x y : Rat} (hp : p.sm KP) (hx : Sz KX x) (h : hgtO p x=some y) : Sz 200000 y:=by
 obtain ⟨h1,h2⟩:=hp;unfold hgtO at h;split at h
 ·cases h
  unfold hgtE;have z0 : Sz 200000 (0 : Rat):=(show Sz 1 (0 : Rat) from ⟨by decide,by decide⟩).le (by decide);split
  ·exact z0
  ·split
   ·exact (h1.2.add (((hx.sub h1.1).div (h2.sub h1).1).mul (h2.sub h1).2)).le (by decide)
   ·exact z0
 ·cases h
theorem zl9 {p : Pc} {x : Rat} (hp : p.sm KP) (hx : Sz KX x) : ∀ y∈ordP x p,Sz 200000 y:=fun y hy=>by
 rcases zyK.1 hy with hy | hy
 ·split at hy
  ·simp only [zy1,zBL,or_false] at hy;rcases hy with rfl | rfl
   ·exact hp.1.2.le (by decide)
   ·exact hp.2.2.le (by decide)
  ·cases hy
 ·exact ziP hp hx (by simpa using hy)
theorem zl8 (x : Rat) : ∀ l : List Pc,(l.flatMap (ordP x)).length<=3*l.length
 | []=>by simp
 | q::l=>by
  have:=zl8 x l;have h2 : (ordP x q).length<=3:=by
   unfold ordP;rw [zz2];have : (hgtO q x).toList.length<=1:=by cases hgtO q x <;> simp
   split <;> simp only [zxR,zAK] <;> omega
  rw [zAM,zz2,zxR]; omega
theorem rat1 (L : List Rat) (x : Rat) : app (rowV ratC (L.map Q)) (ratC (Q x))=rowV ratC ((L++[x]).map Q):=by
 rw [za4,zzL,zaE]; simp [rowV]
theorem zme (lo hi : V) (A : Option Addr) (c : Nat) (ps : List Pc) (x : Rat) (hlo : SzV K0 lo) (hhi : SzV K0 hi) (hps : zfK ps) (hx : Sz KX x) (hl : ps.length<=400) :
  FnM PP 42 [bldV lo hi A ps.length c,qV x] (facts [zai A (rowV pcC ps)]) (zbD zat 3 (ysL lo hi ps x).length (rowV ratC ((ysL lo hi ps x).map Q))):=by
 refine zzp zab mixed Tryz.func42 rfl rfl (zxW rfl) (by simp [zzk]) ?_;intro w hw;obtain ⟨n,hn⟩ : ∃ n,n=ps.length:=⟨_,rfl⟩;have hA : 0<n->A.isSome=true:=fun h=>zam (zaK hw) (by rw [zad zew]; omega)
 rw [<-hn] at hl ⊢;conv=>whnf
 refine zal (ι:=Nat×List Rat) (fun ⟨i,L⟩=>⟨[(2,.o (.p 2 0)),(3,.o (.p 3 0)),(5,.o (.w 6)),(20,.o (.v (.slice A n c))),(21,.o (.v (.int .i64 n))),(22,.o (.v (.int .i64 i)))],[(2,bldM lo hi A n c),(3,ratM (Q x)),(6,.own zat 3 L.length (rowV ratC (L.map Q)))],[zai A (rowV pcC ps)]⟩)
  (fun ⟨i,L⟩=>i<=n/\L=lo.y::hi.y::(ps.take i).flatMap (ordP x)) (fun ⟨i,L⟩=>n-i) (0,[lo.y,hi.y]) ⟨zyD _,rfl⟩
  ((SLe.own 5 18 6 zat 3 2 rfl rfl rfl rfl (by decide) rfl rfl).trans (zzj ⟨rfl,rfl,rfl,rfl,rfl,rfl,trivial⟩ ⟨mrf rfl,mrf rfl,mrf rfl,trivial⟩ (fun R hR=>hR))) ?_
 rintro ⟨i,L⟩ ⟨hi0,hL⟩;have hLl : L.length<=2+3*i:=by
  have:=zl8 x (ps.take i);rw [zyI] at this;rw [hL]; simp only [zxR]; omega
 have hLs : ∀ y∈L,Sz 200000 y:=fun y hy=>by
  rw [hL] at hy;rcases zy1.1 hy with rfl | hy
  ·exact hlo.2.le (by decide)
  rcases zy1.1 hy with rfl | hy
  ·exact hhi.2.le (by decide)
  obtain ⟨q,hq,hy⟩:=zBP.1 hy;exact zl9 (hps q (zxP hq)).1 hx y hy
 conv=>whnf
 by_cases hin : i<n;rotate_left
 ·refine zac (zz9 (show ¬(i : Int)<(n : Int) by omega)) ?_;have hxx : ysL lo hi ps x=ascL L:=by rw [ysL,hL,zyJ (by omega)]
  conv=>whnf
  have ha:=zh1 L (fun x hx=>(hLs x hx).le (by decide)) (by omega);have hal : (ascL L).length<=L.length:=by rw [<-zd0]; exact zxs (zhJ _) (zxt (zcK L).length_eq)
  refine zae.cw 1 ha rfl (by rw [hL]; simp) hal (by rw [zad zbm,zyA]) (by simp) rfl rfl ?_ rfl;conv=>whnf
  rw [hxx];exact ⟨1,rfl,rfl⟩
 refine zag (zz8 (show (i : Int)<(n : Int) by omega)) ?_;obtain ⟨p,hp⟩ : ∃ p,ps[i]?=some p:=⟨_,zyy (by omega)⟩;have hpo:=hps p (zyq hp);have htk : (ps.take (i+1)).flatMap (ordP x)=(ps.take i).flatMap (ordP x)++ordP x p:=by rw [zaD hp,List.flatMap_append]; simp
 conv=>whnf
 refine ⟨⟨by omega,by omega,hA (by omega)⟩,?_⟩;conv=>whnf
 refine zan.nat (A:=A) pcC zew (zxA ..) rfl hp ?_;obtain ⟨p',rfl⟩ : ∃ z,z=p:=⟨_,rfl⟩;conv=>whnf
 refine cf (zon p') ?_;by_cases hv : p'.a.x=p'.b.x/\p'.a.x=x
 ·-- a vertical segment of the line
  have hno : hgtO p' x=none:=by
   unfold hgtO hgtE;rw [zxJ (show (p'.b-p'.a).x=0 by show p'.b.x-p'.a.x=0; rw [hv.1]; grind)]; rfl
  have hO : ordP x p'=[p'.a.y,p'.b.y]:=by rw [ordP,zxJ hv,hno]; rfl
  rw [zz8 hv.1];conv=>whnf
  refine zag ((eqR (Q p'.a.x) (Q x)).trans (zz8 (by rw [hv.2]))) ?_;conv=>whnf
  refine ⟨by show L.length+2<=9223372036854775807/\(L.length+2)*40<=140737488355328; omega,?_⟩;conv=>whnf
  refine cf (zej p' x hpo.1 (hx.le (by decide)) hpo.2) ?_;rw [hno];conv=>whnf
  refine ⟨(i+1,L++[p'.a.y,p'.b.y]),⟨by omega,by rw [htk,hO,hL]; rfl⟩,by show n-(i+1)<n-i; omega,zzi (fun k=>bif Nat.beq k 6 then 46 else k) ⟨rfl,rfl,rfl,rfl,rfl,zaq hin (by omega),trivial⟩ ⟨mrf rfl,mrf rfl,⟨_,rfl,?_⟩,trivial⟩ rfl (fun R hR=>hR)⟩;rw [<-rat2]; simp only [zz2]; exact .refl _
 have hO : ordP x p'=(hgtO p' x).toList:=by rw [ordP,zxI hv,zzJ]
 have key : ∀ K : Prop,(∀ h : True,K)->K:=fun K h=>h trivial
 by_cases hv1 : p'.a.x=p'.b.x
 ·rw [zz8 hv1];conv=>whnf
  refine zac ((eqR (Q p'.a.x) (Q x)).trans (zz9 (fun h=>hv ⟨hv1,ziz.1 h⟩))) ?_;conv=>whnf
  have hno : hgtO p' x=none:=by
   unfold hgtO hgtE;rw [zxJ (show (p'.b-p'.a).x=0 by show p'.b.x-p'.a.x=0; rw [hv1]; grind)]; rfl
  refine cf (zej p' x hpo.1 (hx.le (by decide)) hpo.2) ?_;rw [hno];conv=>whnf
  exact ⟨(i+1,L),⟨by omega,by rw [htk,hO,hno,hL]; simp⟩,by show n-(i+1)<n-i; omega,zzj ⟨rfl,rfl,rfl,rfl,rfl,zaq hin (by omega),trivial⟩ ⟨mrf rfl,mrf rfl,mrf rfl,trivial⟩ (fun R hR=>hR)⟩
 rw [zz9 hv1];conv=>whnf
 refine cf (zej p' x hpo.1 (hx.le (by decide)) hpo.2) ?_
 cases hh : hgtO p' x with
 | none =>
  conv=>whnf
  exact ⟨(i+1,L),⟨by omega,by rw [htk,hO,hh,hL]; simp⟩,by show n-(i+1)<n-i; omega,zzj ⟨rfl,rfl,rfl,rfl,rfl,zaq hin (by omega),trivial⟩ ⟨mrf rfl,mrf rfl,mrf rfl,trivial⟩ (fun R hR=>hR)⟩
 | some y =>
  conv=>whnf
  refine ⟨by show L.length+1<=9223372036854775807/\(L.length+1)*40<=140737488355328; omega,?_⟩;conv=>whnf
  refine ⟨(i+1,L++[y]),⟨by omega,by rw [htk,hO,hh,hL]; rfl⟩,by show n-(i+1)<n-i; omega,zzi (fun k=>bif Nat.beq k 6 then 57 else k) ⟨rfl,rfl,rfl,rfl,rfl,zaq hin (by omega),trivial⟩ ⟨mrf rfl,mrf rfl,⟨_,rfl,?_⟩,trivial⟩ rfl (fun R hR=>hR)⟩;rw [<-rat1]; simp only [zz2]; exact .refl _
def cmpI (x y : Int) : Int:=if x<y then -1 else if y<x then 1 else 0
theorem zqo (x : Int) : Fn PP 164 [.int .i64 x] (.bool false):=by
 refine zzn zab mixed Tryz.func164 rfl rfl (zxW rfl) ?_;intro w;conv=>whnf
 refine zaa ?_;show Value.bool (x != x)=_;simp
theorem znm (x y : Int) : Fn PP 94 [.int .i64 x,.int .i64 y] (.int .i64 (cmpI x y)):=by
 refine zzn zab mixed Tryz.func94 rfl rfl (zxW rfl) ?_;intro w;conv=>whnf
 refine cf (zqo x) ?_;conv=>whnf
 refine cf (zqo y) ?_;conv=>whnf
 unfold cmpI;by_cases h1 : x<y
 ·refine zag (zz8 h1) ?_;rw [zxJ h1];conv=>whnf
  exact zaa rfl
 refine zac (zz9 h1) ?_;rw [zxI h1];conv=>whnf
 by_cases h2 : y<x
 ·refine zag (zz8 h2) ?_;rw [zxJ h2];conv=>whnf
  exact zaa rfl
 refine zac (zz9 h2) ?_;rw [zxI h2];conv=>whnf
 exact zaa rfl
def orL : List Int->Int
 | []=>0
 | x::l=>if x=0 then orL l else x
abbrev i64c (x : Int) : List Value:=[.int .i64 x]
theorem znx (x : Int) : (i64c x).length=1:=rfl
theorem c_Or (A : Option Addr) (c : Nat) (l : List Int) (hl : l.length<=1000) : FnM PP 93 [.slice A l.length c] (facts [zai A (rowV i64c l)]) (zaR (.int .i64 (orL l))):=by
 refine zzo zab mixed Tryz.func93 rfl rfl (zxW rfl) (by simp [zzk]) ?_;intro w hw;obtain ⟨n,hn⟩ : ∃ n,n=l.length:=⟨_,rfl⟩;have hA : 0<n->A.isSome=true:=fun h=>zam (zaK hw) (by rw [zad znx]; omega)
 rw [<-hn] at hl ⊢;conv=>whnf
 refine zal (ι:=Nat) (fun i=>⟨[(3,.o (.v (.int .i64 0))),(6,.o (.v (.slice A n c))),(7,.o (.v (.int .i64 n))),(8,.o (.v (.int .i64 i)))],[],[zai A (rowV i64c l)]⟩)
  (fun i=>i<=n/\orL l=orL (l.drop i)) (fun i=>n-i) 0 ⟨zyD _,rfl⟩ (zzj ⟨rfl,rfl,rfl,rfl,trivial⟩ trivial (fun R hR=>hR)) ?_
 rintro i ⟨hi,ho⟩;conv=>whnf
 by_cases hin : i<n;rotate_left
 ·refine zac (zz9 (show ¬(i : Int)<(n : Int) by omega)) ?_;rw [zzQ (by omega)] at ho;conv=>whnf
  refine zaa ?_;rw [ho]; rfl
 refine zag (zz8 (show (i : Int)<(n : Int) by omega)) ?_;obtain ⟨x,hx⟩ : ∃ x,l[i]?=some x:=⟨_,zyy (by omega)⟩;rw [zqc hx,orL] at ho;conv=>whnf
 refine ⟨⟨by omega,by omega,hA (by omega)⟩,?_⟩;conv=>whnf
 refine zzR (A:=A) (xs:=l) (j:=(i : Int)) i64c znx (zxA ..) rfl (by rw [zzS]; omega) (by decide) (fun h=>rfl) ?_;intro x' hx';obtain rfl : x'=x:=by rw [zzS,hx] at hx'; exact (zz1 hx').symm
 conv=>whnf
 by_cases h0 : x'=0
 ·refine zac (bne_eq_false_iff_eq.2 h0) ?_;rw [zxJ h0] at ho;conv=>whnf
  exact ⟨i+1,⟨by omega,ho⟩,by omega,zzj ⟨rfl,rfl,rfl,zaq hin (by omega),trivial⟩ trivial (fun R hR=>hR)⟩
 ·refine zag (bne_iff_ne.2 h0) ?_;rw [zxI h0] at ho;conv=>whnf
  refine zaa ?_;rw [ho]
def crC (x : Rat×Nat) : List Value:=ratC (Q x.1)++[.int .i64 x.2]
theorem zj8 (x : Rat×Nat) : (crC x).length=4:=rfl
def cmpC (a b : Rat×Nat) : Int:=orL [cmpQ a.1 b.1,cmpI a.2 b.2]
theorem zr7 (a b : Rat×Nat) (ha : Sz KV a.1) (hb : Sz KV b.1) : Fn PP 92 [.agg ⟨crC a⟩,.agg ⟨crC b⟩] (.int .i64 (cmpC a b)):=by
 refine zzn zab mixed Tryz.func92 rfl rfl (zxW rfl) ?_;intro w;conv=>whnf
 refine zak.qk ?_;conv=>whnf
 refine cd (zbp (Q a.1) (Q b.1) (ha.q.le (by decide)) (hb.q.le (by decide))) ?_;rw [Q_v,Q_v];conv=>whnf
 refine cd (znm a.2 b.2) ?_;conv=>whnf
 have hg:=fun A c (_ : 2<=c)=>c_Or A c [cmpQ a.1 b.1,cmpI a.2 b.2] (by simp)
 refine zA9 (hg none 2 (zxr _)).enters (zzW (x:=.o (.s 15 0 2 2)) (fun z=>[z]) (RdA.box rfl (zxr _)) (zxA ..) (fun _=>rfl) hg) ?_;conv=>whnf
 exact zaa rfl
abbrev zBR:=@Rat.le_refl
abbrev zBQ:=@List.Perm.eq_of_pairwise
def ltC (a b : Rat×Nat) : Bool:=decide (a.1<b.1)||(decide (a.1=b.1)&&decide (a.2<b.2))
theorem zh4 {a b : Rat×Nat} : ltC a b=true↔a.1<b.1\/(a.1=b.1/\a.2<b.2):=by simp [ltC]
theorem zbx {a b : Rat×Nat} : ltC a b=false↔b.1<=a.1/\(a.1=b.1->b.2<=a.2):=by
 rw [Bool.eq_false_iff,ne_eq,zh4];constructor
 ·intro h; exact ⟨by grind,fun e=>by grind⟩
 ·rintro ⟨h1,h2⟩ h; rcases h with h | ⟨h,h3⟩; grind; have:=h2 h; omega
theorem zmM {a b : Rat×Nat} (h1 : ltC a b=false) (h2 : ltC b a=false) : a=b:=by
 rw [zbx] at h1 h2;have e : a.1=b.1:=by grind
 exact zxo e (by have:=h1.2 e; have:=h2.2 e.symm; omega)
theorem ztQ (a b : Rat×Nat) : ltOf cmpC a b=ltC a b:=by
 rw [zyV,zh4];show decide (cmpC a b<0)=true↔_;rw [zxY,cmpC];unfold orL orL orL;by_cases h : cmpQ a.1 b.1=0
 ·rw [zxJ h];have e:=zbt.1 h;unfold cmpI;constructor
  ·intro h3
   right
   refine ⟨e,?_⟩;split at h3
   ·split at h3 <;> omega
   ·split at h3
    ·omega
    ·split at h3 <;> omega
  ·rintro (h3 | ⟨_,h3⟩)
   ·grind
   ·have e1 : (if (a.2 : Int)<(b.2 : Int) then (-1 : Int) else if (b.2 : Int)<(a.2 : Int) then 1 else 0)=-1:=zxJ (by omega);rw [e1]; decide
 ·rw [zxI h,zbj];have : a.1≠b.1:=fun e=>h (zbt.2 e)
  constructor
  ·exact .inl
  ·rintro (h3 | ⟨h3,_⟩); exact h3; exact absurd h3 this
def insC (x : Rat×Nat) : List (Rat×Nat)->List (Rat×Nat)
 | []=>[x]
 | y::l=>if ltC y x=true then y::insC x l else x::y::l
def sortC (l : List (Rat×Nat)) : List (Rat×Nat):=l.foldr insC []
abbrev SrtC (l : List (Rat×Nat)) : Prop:=l.Pairwise fun x y=>ltC y x=false
theorem zie (x : Rat×Nat) : ∀ l,(insC x l).Perm (x::l)
 | []=>.refl _
 | y::l=>by
  unfold insC;split
  ·exact ((zie x l).cons y).trans (.swap x y l)
  ·exact .refl _
theorem zmR {x : Rat×Nat} : ∀ {l},SrtC l->SrtC (insC x l)
 | [],_=>by simp [insC]
 | y::l,h=>by
  have h1:=zBG.1 h;unfold insC;split
  ·rename_i hy;refine zBG.2 ⟨fun z hz=>?_,zmR h1.2⟩;rcases zy1.1 ((zie x l).mem_iff.1 hz) with rfl | hz
   ·rw [zh4] at hy; rw [zbx]; constructor
    ·rcases hy with hy | hy <;> grind
    ·intro e; rcases hy with hy | hy; grind; omega
   ·exact h1.1 z hz
  ·rename_i hy;have hy:=Bool.eq_false_iff.2 hy;refine zBG.2 ⟨fun z hz=>?_,h⟩;rcases zy1.1 hz with rfl | hz
   ·exact hy
   ·have h2:=h1.1 z hz;rw [zbx] at hy h2 ⊢;exact ⟨by grind,fun e=>by have:=hy.2 (by grind); have:=h2.2 (by grind); omega⟩
theorem zb0 : ∀ l,(sortC l).Perm l
 | []=>.refl _
 | x::l=>(zie x (sortC l)).trans ((zb0 l).cons x)
theorem zee : ∀ l,SrtC (sortC l)
 | []=>.nil
 | x::l=>zmR (zee l)
theorem zlS (l : List (Rat×Nat)) : (l.mergeSort fun x y=>!ltC y x)=sortC l:=by
 have hs:=zBH (le:=fun x y=>!ltC y x) (fun a b c h1 h2=>by
  simp only [zzh] at *;rw [zbx] at *;exact ⟨by grind,fun e=>by have:=h1.2 (by grind); have:=h2.2 (by grind); omega⟩) (fun a b=>by
  cases h1 : ltC b a with
  | false=>rfl
  | true =>
   cases h2 : ltC a b with
   | false=>rfl
   | true=>rw [zh4] at h1 h2; exfalso; rcases h1 with h1 | h1 <;> rcases h2 with h2 | h2 <;> first | grind | omega) l
 refine zBQ (le:=fun x y=>ltC y x=false) (fun a b _ _ h1 h2=>zmM h2 h1) (hs.imp (by intro a b h; simpa using h)) (zee l) ((List.mergeSort_perm _ _).trans (zb0 l).symm)
abbrev SzC:={ x : Rat×Nat // Sz KV x.1 }
instance : Inhabited SzC:=⟨⟨(0,0),(show Sz 1 (0 : Rat) from ⟨by decide,by decide⟩).le (by decide)⟩⟩
theorem zuj (x : Rat×Nat) : ∀ v∈crC x,v.oneCell'=true:=fun v hv=>by
 rcases zyK.1 hv with hv | hv
 ·exact zmS _ v hv
 ·rw [zyZ.1 hv]; rfl
theorem zpw (xs : List (Rat×Nat)) (hs : ∀ x∈xs,Sz KV x.1) (hl : xs.length<=1000000) :
   FnW PP 91 [fnV 92] [] za0 xs.length (rowV crC xs) (rowV crC (sortC xs)) (.tuple #[]):=by
 obtain ⟨d,hd⟩ : ∃ d : List SzC,d.map (·.1)=xs:=⟨xs.attach.map fun x=>⟨x.1,hs x.1 x.2⟩,by rw [zx0]; exact List.attach_map_subtype_val xs⟩;have hlen : d.length=xs.length:=by rw [<-hd,zyA]
 have hlt : ∀ x y : SzC,ltOf (fun a b : SzC=>cmpC a.1 b.1) x y=ltC x.1 y.1:=fun x y=>ztQ x.1 y.1
 have h:=FnW.sortK (P:=PP) Tryz.sort_crossing 4 (fun w=>(zab za0 _ rfl).1.run_isAgg) (fun w=>(zab za0 _ rfl).1.run_size) (fun x : SzC=>crC x.1) (fun x=>rfl) (fun x=>zuj _) (fun a b=>cmpC a.1 b.1)
   ⟨fun x=>by rw [hlt,zbx]; exact ⟨zBR,fun _=>zxr _⟩,fun x y z h1 h2=>by
       rw [hlt,zh4] at *; rcases h1 with h1 | h1 <;> rcases h2 with h2 | h2 <;> first | exact .inl (by grind) | exact .inr ⟨by grind,by omega⟩,
     fun x y z h1 h2=>by rw [hlt,zbx] at *; exact ⟨by grind,fun e=>by have:=h1.2 (by grind); have:=h2.2 (by grind); omega⟩⟩
   (fun x y h1 h2=>by rw [hlt] at h1 h2; exact Subtype.ext (zmM h1 h2)) 92
   (fun x y=>zr7 x.1 y.1 x.2 y.2) za0 d (by omega)
 rw [hlen] at h;have e1 : rowV (fun x : SzC=>crC x.1) d=rowV crC xs:=by rw [<-hd,zdm]
 have e2 : rowV (fun x : SzC=>crC x.1) (d.mergeSort fun x y=>!(ltOf fun a b : SzC=>cmpC a.1 b.1) y x)=rowV crC (sortC xs):=by
   rw [<-zlS,<-hd,<-List.map_mergeSort (r:=fun x y : SzC=>!(ltOf fun a b : SzC=>cmpC a.1 b.1) y x) (s:=fun x y=>!ltC y x) (f:=fun x : SzC=>x.1) (fun a _ b _=>by rw [hlt]),zdm]
 rw [e1,e2] at h;exact h
theorem zsm (A : Option Addr) (c : Nat) (fv : Value) : FnM PP 91 [.slice A 0 c,fv] (facts [zai A []]) (zaR (.tuple #[])) :=
 ⟨Tryz.sort_crossing.f6.enters rfl,fun w _=>(AnyF.slices_SortFunc_none Tryz.sort_crossing A c fv w).mono (by rintro e w' ⟨rfl,rfl⟩; exact ⟨rfl,Bel.refl _ _⟩)⟩
def fstG : Rat->List (Rat×Nat)->List Nat
 | _,[]=>[]
 | p,(y,i)::r=>if p=y then fstG y r else i::fstG y r
def fstL : List (Rat×Nat)->List Nat
 | []=>[]
 | (y,i)::r=>i::fstG y r
theorem zlj : ∀ (p : Rat) (l : List (Rat×Nat)) (y : Rat) (i : Nat),fstG p (l++[(y,i)])=fstG p l++(if ((p::l.map (·.1)).getLast (by simp))=y then [] else [i])
 | p,[],y,i=>by by_cases h : p=y <;> simp [fstG,h]
 | p,(z,j)::l,y,i=>by
  simp only [zyw,fstG,zxT];rw [zlj z l y i];have e : (p::z::l.map (·.1)).getLast (by simp)=(z::l.map (·.1)).getLast (by simp):=List.getLast_cons _;rw [e];by_cases h : p=z <;> simp [h]
theorem zrl {L : List (Rat×Nat)} {k : Nat} {x y : Rat×Nat} (hk : 0<k) (hx : L[k]?=some x) (hy : L[k-1]?=some y) : fstL (L.take (k+1))=fstL (L.take k)++(if y.1=x.1 then [] else [x.2]):=by
 have hkl:=(zyz.1 hx).1;obtain ⟨⟨z,j⟩,r,hzr⟩ : ∃ z r,L.take k=z::r:=by
  rcases h : L.take k with _ | ⟨z,r⟩
  ·have:=zyr List.length h; rw [zyI,zAK] at this; omega
  ·exact ⟨z,r,rfl⟩
 rw [zaD hx,hzr];show j::fstG z (r++[(x.1,x.2)])=(j::fstG z r)++_;rw [zlj];have hlast : (z::r.map (·.1)).getLast (by simp)=y.1:=by
  have h1 : ((L.take k).map (·.1)).getLast (by rw [hzr]; simp)=y.1:=by
   rw [List.getLast_eq_getElem];have h2:=(zyz.1 hy).2;simp only [List.getElem_map,zyA,List.getElem_take,zyI,zAs (show k<=L.length by omega)];rw [h2]
  rw [<-h1]
  congr 1
  rw [hzr]; rfl
 rw [hlast]; rfl
theorem zna (l : List (Rat×Nat)) : (fstL l).length<=l.length:=by
 have : ∀ (p : Rat) (l : List (Rat×Nat)),(fstG p l).length<=l.length:=fun p l=>by
  induction l generalizing p with
  | nil=>exact zxr _
  | cons x r ih =>
   obtain ⟨y,i⟩:=x;simp only [fstG];split
   ·exact Nat.le_succ_of_le (ih y)
   ·exact zz6 (ih y)
 cases l with
 | nil=>exact zxr _
 | cons x r=>obtain ⟨y,i⟩:=x; exact zz6 (this y r)
end Go.Sx
end
section
namespace Go.Sx
open Go Go.Proofs Go.ChangeShapes Go.WideShapes Go.RowKit
abbrev zBS:=@DataW.trod_struct
section
variable {H : Type} {enc : TypeId×Value->H} {w : World} {base : Nat} {spare : Nat->Bool} {held : Bool} {fuel : Nat} {cs : List Value} {x : DataW H×List MemPlace}
theorem znV : PP.cellsOf zk8=1:=by kernel_rfl
theorem zlw : PP.cellsOf zd1=1:=by kernel_rfl
theorem zle : PP.cellsOf zat=3:=by kernel_rfl
theorem zff : PP.cellsOf zaw=6:=by kernel_rfl
theorem zf0 : PP.cellsOf za8=12:=by kernel_rfl
theorem ztf : PP.underlying zk8=some .bool:=(zab zk8 _ rfl).1.und
theorem zmE : PP.underlying zd1=some .string:=(zab zd1 _ rfl).1.und
theorem zcp {α : Type} {l : List α} {i : Nat} (h : i<l.length) : ∃ y,l[i]?=some y:=⟨_,zyy h⟩
theorem znd (h : DataW.trod enc PP w base spare held fuel zat cs=some x) : ∃ r : Raw,cs=ratC r:=by
 obtain ⟨xs,n,_,_,hlen,hxl,hf⟩:=zBS (zab zat _ rfl).1.und h;rw [zle] at hlen
 match cs,hlen with
 | [a,b,c],_ =>
  obtain ⟨y0,h0⟩:=zcp (show 0<xs.length by rw [hxl]; decide);obtain ⟨y1,h1⟩:=zcp (show 1<xs.length by rw [hxl]; decide);obtain ⟨y2,h2⟩:=zcp (show 2<xs.length by rw [hxl]; decide);have g0 : DataW.trod enc PP w base spare held n zk8 (([a,b,c].drop 0).take (PP.cellsOf zk8))=xs[0]?:=hf 0 _ rfl;have g1 : DataW.trod enc PP w base spare held n zd1 (([a,b,c].drop 1).take (PP.cellsOf zd1))=xs[1]?:=hf 1 _ rfl;have g2 : DataW.trod enc PP w base spare held n zd1 (([a,b,c].drop 2).take (PP.cellsOf zd1))=xs[2]?:=hf 2 _ rfl;rw [h0] at g0; rw [h1] at g1; rw [h2] at g2;rw [znV] at g0; rw [zlw] at g1 g2;obtain ⟨b0,e0,_⟩:=DataW.trod_bool ztf g0
  obtain ⟨s1,e1,_⟩:=DataW.trod_string zmE g1;obtain ⟨s2,e2,_⟩:=DataW.trod_string zmE g2
  cases e0; cases e1; cases e2
  exact ⟨⟨b0,s1.data.toList,s2.data.toList⟩,by rw [ratC,<-zpL,<-zpL]⟩
theorem zjd (h : DataW.trod enc PP w base spare held fuel zaw cs=some x) : ∃ p : Pt,cs=ptC p:=by
 obtain ⟨xs,n,_,_,hlen,hxl,hf⟩:=zBS (zab zaw _ rfl).1.und h;rw [zff] at hlen
 match cs,hlen with
 | [a,b,c,a',b',c'],_ =>
  obtain ⟨y0,h0⟩:=zcp (show 0<xs.length by rw [hxl]; decide);obtain ⟨y1,h1⟩:=zcp (show 1<xs.length by rw [hxl]; decide);have g0 : DataW.trod enc PP w base spare held n zat (([a,b,c,a',b',c'].drop 0).take (PP.cellsOf zat))=xs[0]?:=hf 0 _ rfl;have g1 : DataW.trod enc PP w base spare held n zat (([a,b,c,a',b',c'].drop 3).take (PP.cellsOf zat))=xs[1]?:=hf 1 _ rfl;rw [h0] at g0; rw [h1] at g1;rw [zle] at g0 g1;obtain ⟨r,e0⟩:=znd g0;obtain ⟨s,e1⟩:=znd g1;exact ⟨⟨r,s⟩,by
   have e : [a,b,c,a',b',c']=[a,b,c]++[a',b',c']:=rfl;rw [e,show [a,b,c]=ratC r from e0,show [a',b',c']=ratC s from e1]; rfl⟩
theorem zuw (h : DataW.trod enc PP w base spare held fuel za8 cs=some x) : ∃ e : Pt×Pt,cs=sgC e:=by
 obtain ⟨xs,n,_,_,hlen,hxl,hf⟩:=zBS (zab za8 _ rfl).1.und h;rw [zf0] at hlen;obtain ⟨y0,h0⟩:=zcp (show 0<xs.length by rw [hxl]; decide);obtain ⟨y1,h1⟩:=zcp (show 1<xs.length by rw [hxl]; decide);have g0 : DataW.trod enc PP w base spare held n zaw ((cs.drop 0).take (PP.cellsOf zaw))=xs[0]?:=hf 0 _ rfl;have g1 : DataW.trod enc PP w base spare held n zaw ((cs.drop 6).take (PP.cellsOf zaw))=xs[1]?:=hf 1 _ rfl;rw [h0] at g0; rw [h1] at g1;rw [zff] at g0 g1;obtain ⟨p,e0⟩:=zjd g0;obtain ⟨q,e1⟩:=zjd g1;refine ⟨(p,q),?_⟩;rw [zyJ (by rw [zzw]; omega)] at e1;rw [zAJ] at e0;rw [sgC,<-e0,<-e1,zz0]
end
theorem zl2 : laidOutB PP=true:=by kernel_rfl
theorem ownP : ownKnob PP.godebug=none:=by kernel_rfl
end Go.Sx
end
section
namespace Go.Sx
open Go Go.Proofs Go.ChangeShapes Go.WideShapes Go.RowKit Go.Deep
section
variable {H : Type} {enc : TypeId×Value->H} {w : World} {base : Nat} {spare : Nat->Bool} {held : Bool} {fuel : Nat} {cs : List Value} {x : DataW H×List MemPlace}
theorem zvt {α : Type} {f : α->List Value} {es : Nat} (hf : ∀ x,(f x).length=es) (h0 : 0<es) {l : List α} {j : Nat} {v : Value} (h : (rowV f l)[j]?=some v) : ∃ x,l[j/es]?=some x/\(f x)[j%es]?=some v:=by
 have hj : j<l.length*es:=by rw [<-zad hf]; exact (zyz.1 h).1
 have hi : j/es<l.length:=zzK (by rw [zzG]; exact hj);refine ⟨l[j/es],zyy hi,?_⟩;rw [<-zdB hf (zyy hi),zx7,zxJ (zyl _ h0),zx8,zzG,zAw];exact h
theorem zsN {α : Type} (f : α->List Value) {es : Nat} (hf : ∀ x,(f x).length=es) (h0 : 0<es) {t e : TypeId} (ht : PP.underlying t=some (.slice e)) (hc : PP.cellsOf e=es)
  (htr : ∀ {n : Nat} {cs : List Value} {y : DataW H×List MemPlace},DataW.trod enc PP w base spare held n e cs=some y->∃ x,cs=f x) (h : DataW.trod enc PP w base spare held fuel t cs=some x) :
  ∃ (A : Option Addr) (c : Nat) (l : List α),cs=[.slice A l.length c]/\l.length<=c/\SlF A (rowV f l) w:=by
 rcases open_slice ht h with ⟨h1,_⟩ | ⟨a,len,cap,m,n,D,Pl,hcs,hb,hl,hm,hmm,_,hall⟩
 ·exact ⟨none,0,[],h1,zxr _,.inl rfl⟩
 have hlm : len<=m:=by rw [hmm]; split <;> omega
 have key : ∀ k,k<=len->∃ l : List α,l.length=k/\∀ i x,l[i]?=some x->w.cells? base (a.add (i*es)) es=some (f x):=by
  intro k
  induction k with
  | zero=>intro _; exact ⟨[],rfl,fun i x h=>by simp at h⟩
  | succ k ih =>
   intro hk;obtain ⟨l,hl1,hl2⟩:=ih (by omega);obtain ⟨cs',e1,e2⟩:=hall k (by omega);obtain ⟨x,rfl⟩:=htr e2;rw [hc] at e1;refine ⟨l++[x],by simp [hl1],fun i y hy=>?_⟩;by_cases hi : i<l.length
   ·rw [zyd hi] at hy; exact hl2 i y hy
   ·rw [zyg (by omega)] at hy;have : i-l.length=0:=by
     by_cases h5 : i-l.length=0
     ·exact h5
     ·rw [zym (by simp; omega)] at hy; cases hy
    rw [this] at hy
    cases hy
    rw [show i=k by omega]; exact e1
 obtain ⟨l,hl1,hl2⟩:=key len (zxr _);subst hl1;refine ⟨some a,cap,l,hcs,hl,?_⟩;rcases l with _ | ⟨x0,l⟩
 ·exact .inl rfl
 right
 have hcell : ∀ {i : Nat} {x : α} {r : Nat},(x0::l)[i]?=some x->r<es->w.cell? ((a.add (i*es)).add r)=(f x)[r]?:=fun hi hr=>((World.cells?_some (hl2 _ _ hi)).2.2 _ hr)
 have hspot : a.spot=none:=by
  have h1:=hcell (i:=0) (x:=x0) (r:=0) rfl h0;rw [zBu] at h1;have h2 : ∃ v,(f x0)[0]?=some v:=⟨_,zyy (by rw [hf]; exact h0)⟩;obtain ⟨v,h2⟩:=h2;rw [h2] at h1;have h3 : w.cell? a=some v:=h1;unfold World.cell? at h3;split at h3
  ·split at h3
   ·cases h3
   ·rename_i hs;simpa using hs
  ·cases h3
 refine ⟨a.block,a.off,?_,fun j v hj=>?_⟩
 ·obtain ⟨b,o,s⟩:=a;simp only at hspot;rw [hspot]
 ·obtain ⟨x,hx,hv⟩:=zvt hf h0 hj;have h1:=hcell hx (zyl j h0);rw [hv] at h1;rw [<-h1];obtain ⟨b,o,s⟩:=a;simp only at hspot;subst hspot;rw [zxK,zxK,zxS,zzG,zAw]
end
theorem zmQ {A : Option Addr} {xs : List Value} {w : World} (h : SlF A xs w) : facts [zai A xs] w:=fun R hR=>by rw [zyZ.1 hR]; exact h
end Go.Sx
end
section
namespace Go.Sx
open Go Go.Proofs
def crsO (lo hi : V) (l r : Rat) (p : Pc) : Option (Rat×Nat):=match hgtO p l,hgtO p r with
 | some a,some b=>if a=b/\(a=lo.y\/a=hi.y) then none else some ((a+b)/2,p.i)
 | _,_=>none
def crsL (lo hi : V) (ps : List Pc) (l r : Rat) : List (Rat×Nat):=ps.filterMap (crsO lo hi l r)
def zdN (lo hi : V) (ps : List Pc) (l r : Rat) : List Nat:=fstL (sortC (crsL lo hi ps l r))
theorem zwk {lo hi : V} {ps : List Pc} {l r : Rat} (hps : zfK ps) (hl : Sz KX l) (hr : Sz KX r) : ∀ x∈crsL lo hi ps l r,Sz KV x.1:=fun x hx=>by
 obtain ⟨p,hp,h⟩:=zyU.1 hx;unfold crsO at h;split at h
 ·rename_i a b ha hb;split at h
  ·cases h
  ·cases h
   exact (((ziP (hps p hp).1 hl ha).add (ziP (hps p hp).1 hr hb)).div (show Sz 1 (2 : Rat) from ⟨by decide,by decide⟩)).le (by decide)
 ·cases h
theorem zbi.fld {α : Type} {xs : List α} {j o m n off : Nat} {agg : Bool} {K : SV->Prop} {x : α} (f : α->List Value) (hf : ∀ x,(f x).length=n) (hx : xs[j]?=some x) (he : off=j*n+o)
  (ho : o+m<=n) (h0 : 0<m) (h1 : agg=false->m=1) (hk : K (mkV agg (((f x).drop o).take m))) : zbi (rowV f xs) off m agg K:=by
 subst he;have hj : j<xs.length:=(zyz.1 hx).1;have hp : ((rowV f xs).drop (j*n)).take n=f x:=zdB hf hx;have he : ((rowV f xs).drop (j*n+o)).take m=((f x).drop o).take m:=by
  rw [<-hp,<-zze,List.drop_take,zyH,zAs (by omega)]
 refine ⟨h0,_,by rw [zyI,zzw,hf]; omega,h1,fun i y hj'=>?_,hk⟩;rw [<-he,zx7] at hj';split at hj'
 ·rwa [zx8] at hj'
 ·cases hj'
theorem cr1 (L : List (Rat×Nat)) (x : Rat×Nat) : app (rowV crC L) (crC x)=rowV crC (L++[x]):=by
 rw [za4,zaE]; simp [rowV]
abbrev intC (k : Nat) : List Value:=[.int .i64 k]
theorem zdo (k : Nat) : (intC k).length=1:=rfl
theorem int1 (L : List Nat) (x : Nat) : app (rowV intC L) [.int .i64 x]=rowV intC (L++[x]):=by
 rw [za4,zaE]; simp [rowV]
theorem zae.sortC {C : Cx} {st : SS} {k : Nat} {L : List (Rat×Nat)} {K : SV->SS->Prop} (hs : ∀ x∈L,Sz KV x.1) (hl : L.length<=1000000) (hk : lk k st.me=some (.own za0 4 L.length (rowV crC L)))
   (hK : K (.o (.v (.tuple #[]))) { st with me:=setL k (.own za0 4 (Sx.sortC L).length (rowV crC (Sx.sortC L))) st.me }) {args : List SV} (ha : args=[.o (.w k),.o (.v (fnV 92))]) : zae PP C 91 args st K:=by
 subst ha;have hso : (Sx.sortC L).length=L.length:=(zb0 L).length_eq;by_cases h0 : L.length=0
 · have e1 : L=[]:=zyO.1 h0;subst e1;refine ⟨Tryz.sort_crossing.f6.enters rfl,fun E w hm=>?_⟩;obtain ⟨A,c,hr,hn,hs2⟩:=zzU hk E w (fun k' mm _ hk'=>hm.ent k' mm hk') (fun R hR=>(hm.res R hR).2.1);rw [zxT,zxT,zyt,hr];refine ((zsm A c (fnV 92)).calls w (zmQ hs2)).mono ?_;rintro e w' ⟨rfl,hb⟩;have hm':=hm.world (st:=st) hb;have hlk : ∀ j,lk j (setL k (.own za0 4 (Sx.sortC []).length (rowV crC (Sx.sortC []))) st.me)=lk j st.me:=fun j=>by
     rw [zdv];split
     · rename_i e; subst e; rw [hk]; rfl
     · rfl
   refine ⟨E,{ st with me:=setL k (.own za0 4 (Sx.sortC []).length (rowV crC (Sx.sortC []))) st.me },.o (.v (.tuple #[])),rfl,?_,zxu hb,fun i sv hi=>⟨sv,hi,rfl⟩,hK⟩;exact ⟨fun j m hj=>hm'.ent j m (by rw [<-hlk]; exact hj),fun j m b hj hb=>hm'.ge j m b (by rw [<-hlk]; exact hj) hb,fun j j' m m' b hj hj'=>hm'.inj j j' m m' b (by rw [<-hlk]; exact hj) (by rw [<-hlk]; exact hj'),
     fun R hR=>let ⟨r1,r2,r3⟩:=hm'.res R hR; ⟨r1,r2,fun b hb=>⟨(r3 b hb).1,fun j m hj=>(r3 b hb).2 j m (by rw [<-hlk]; exact hj)⟩⟩,hm'.ext,fun j b m hX hj=>hm'.rig j b m hX (by rw [<-hlk]; exact hj)⟩
 · refine zae.w (k:=k) hk (by omega) (zpw L hs hl).enters (fun E w' hm=>⟨[fnV 92],[],rfl,zpw L hs hl,(fun R hR=>by cases hR),(fun R hR=>by cases hR)⟩) (by rw [zad zj8,zad zj8,hso]) ?_;rw [hso] at hK;exact hK
theorem zqd (lo hi : V) (A : Option Addr) (c : Nat) (ps : List Pc) (l r : Rat) (hlo : SzV K0 lo) (hhi : SzV K0 hi) (hps : zfK ps) (hzl : Sz KX l) (hzr : Sz KX r) (hl : ps.length<=400) :
  FnM PP 43 [bldV lo hi A ps.length c,qV l,qV r] (facts [zai A (rowV pcC ps)]) (zbD zbw 1 (zdN lo hi ps l r).length (rowV intC (zdN lo hi ps l r))):=by
 refine zzp zab mixed Tryz.func43 rfl rfl (zxW rfl) (by simp [zzk]) ?_;intro w hw;obtain ⟨n,hn⟩ : ∃ n,n=ps.length:=⟨_,rfl⟩;have hA : 0<n->A.isSome=true:=fun h=>zam (zaK hw) (by rw [zad zew]; omega)
 rw [<-hn] at hl ⊢;conv=>whnf
 refine zal (ι:=Nat×List (Rat×Nat)) (fun ⟨i,L⟩=>⟨[(3,.o (.p 3 0)),(4,.o (.p 4 0)),(5,.o (.p 5 0)),(7,.o (.w 8)),(19,.o (.v (.slice A n c))),(20,.o (.v (.int .i64 n))),(21,.o (.v (.int .i64 i)))],[(3,bldM lo hi A n c),(4,ratM (Q l)),(5,ratM (Q r)),(8,.own za0 4 L.length (rowV crC L))],[zai A (rowV pcC ps)]⟩)
  (fun ⟨i,L⟩=>i<=n/\L=crsL lo hi (ps.take i) l r) (fun ⟨i,L⟩=>n-i) (0,[]) ⟨zyD _,rfl⟩
  ((SLe.nil 7 8 za0 4 rfl rfl).trans (zzj ⟨rfl,rfl,rfl,rfl,rfl,rfl,rfl,trivial⟩ ⟨mrf rfl,mrf rfl,mrf rfl,mrf rfl,trivial⟩ (fun R hR=>hR))) ?_
 rintro ⟨i,L⟩ ⟨hi0,hL⟩;have hLl : L.length<=i:=by
  rw [hL]; exact zxs (List.length_filterMap_le _ _) (by rw [zyI]; omega)
 have hLs : ∀ x∈L,Sz KV x.1:=fun x hx=>by
  rw [hL] at hx; exact zwk (fun p hp=>hps p (zxP hp)) hzl hzr x hx
 conv=>whnf
 by_cases hin : i<n
 ·refine zag (zz8 (show (i : Int)<(n : Int) by omega)) ?_;obtain ⟨p,hp⟩ : ∃ p,ps[i]?=some p:=⟨_,zyy (by omega)⟩;have hpo:=hps p (zyq hp);have htk : crsL lo hi (ps.take (i+1)) l r=crsL lo hi (ps.take i) l r++(crsO lo hi l r p).toList:=by
   rw [crsL,zaD hp,List.filterMap_append]
   congr 1
  have zl:=fun a=>ziP (y:=a) hpo.1 hzl
  have zr:=fun a=>ziP (y:=a) hpo.1 hzr
  conv=>whnf
  refine ⟨⟨by omega,by omega,hA (by omega)⟩,?_⟩;conv=>whnf
  refine zan.nat (A:=A) pcC zew (zxA ..) rfl hp ?_;obtain ⟨p',rfl⟩ : ∃ z,z=p:=⟨_,rfl⟩;conv=>whnf
  refine cf (zej p' l hpo.1 (hzl.le (by decide)) hpo.2) ?_;conv=>whnf
  refine cf (zej p' r hpo.1 (hzr.le (by decide)) hpo.2) ?_;unfold crsO at htk
  cases ha : hgtO p' l with
  | none =>
   rw [ha] at htk;have fin : crsL lo hi (ps.take (i+1)) l r=L:=by rw [htk,hL]; exact zyP _
   conv=>whnf
   refine zaj ?_ ?_ <;> intro _ <;> conv=>whnf
   ·refine zaj ?_ ?_ <;> intro _ <;> conv=>whnf
    all_goals exact ⟨(i+1,L),⟨by omega,fin.symm⟩,by show n-(i+1)<n-i; omega,zzj ⟨rfl,rfl,rfl,rfl,rfl,rfl,zaq hin (by omega),trivial⟩ ⟨mrf rfl,mrf rfl,mrf rfl,mrf rfl,trivial⟩ (fun R hR=>hR)⟩
   ·exact ⟨(i+1,L),⟨by omega,fin.symm⟩,by show n-(i+1)<n-i; omega,zzj ⟨rfl,rfl,rfl,rfl,rfl,rfl,zaq hin (by omega),trivial⟩ ⟨mrf rfl,mrf rfl,mrf rfl,mrf rfl,trivial⟩ (fun R hR=>hR)⟩
  | some a =>
   cases hb : hgtO p' r with
   | none =>
    rw [ha,hb] at htk;have fin : crsL lo hi (ps.take (i+1)) l r=L:=by rw [htk,hL]; exact zyP _
    conv=>whnf
    refine zaj ?_ ?_ <;> intro _ <;> conv=>whnf
    ·refine zaj ?_ ?_ <;> intro _ <;> conv=>whnf
     all_goals exact ⟨(i+1,L),⟨by omega,fin.symm⟩,by show n-(i+1)<n-i; omega,zzj ⟨rfl,rfl,rfl,rfl,rfl,rfl,zaq hin (by omega),trivial⟩ ⟨mrf rfl,mrf rfl,mrf rfl,mrf rfl,trivial⟩ (fun R hR=>hR)⟩
    ·exact ⟨(i+1,L),⟨by omega,fin.symm⟩,by show n-(i+1)<n-i; omega,zzj ⟨rfl,rfl,rfl,rfl,rfl,rfl,zaq hin (by omega),trivial⟩ ⟨mrf rfl,mrf rfl,mrf rfl,mrf rfl,trivial⟩ (fun R hR=>hR)⟩
   | some b =>
    rw [ha,hb] at htk;replace htk : crsL lo hi (ps.take (i+1)) l r=L++(if a=b/\(a=lo.y\/a=hi.y) then none else some ((a+b)/2,p'.i)).toList:=by rw [htk,hL]
    have zm:=zkR a b ((zl a ha).le (by decide)) ((zr b hb).le (by decide));conv=>whnf
    by_cases hab : a=b
    ·refine zag ((eqR (Q a) (Q b)).trans (zz8 (by rw [hab]))) ?_;conv=>whnf
     by_cases h1 : a=lo.y
     ·refine zag ((eqR (Q a) (Q lo.y)).trans (zz8 (by rw [h1]))) ?_;rw [zxJ ⟨hab,.inl h1⟩] at htk;conv=>whnf
      exact ⟨(i+1,L),⟨by omega,by rw [htk]; exact (zyP _).symm⟩,by show n-(i+1)<n-i; omega,zzj ⟨rfl,rfl,rfl,rfl,rfl,rfl,zaq hin (by omega),trivial⟩ ⟨mrf rfl,mrf rfl,mrf rfl,mrf rfl,trivial⟩ (fun R hR=>hR)⟩
     refine zac ((eqR (Q a) (Q lo.y)).trans (zz9 (fun h=>h1 (ziz.1 h)))) ?_;conv=>whnf
     by_cases h2 : a=hi.y
     ·refine zac (zyr (!·) ((eqR (Q a) (Q hi.y)).trans (zz8 (by rw [h2])))) ?_;rw [zxJ ⟨hab,.inr h2⟩] at htk;conv=>whnf
      exact ⟨(i+1,L),⟨by omega,by rw [htk]; exact (zyP _).symm⟩,by show n-(i+1)<n-i; omega,zzj ⟨rfl,rfl,rfl,rfl,rfl,rfl,zaq hin (by omega),trivial⟩ ⟨mrf rfl,mrf rfl,mrf rfl,mrf rfl,trivial⟩ (fun R hR=>hR)⟩
     refine zag (zyr (!·) ((eqR (Q a) (Q hi.y)).trans (zz9 (fun h=>h2 (ziz.1 h))))) ?_;rw [zxI (fun h=>h.2.elim h1 h2)] at htk;conv=>whnf
     refine zak.qk ?_;conv=>whnf
     refine cd zm ?_;conv=>whnf
     refine ⟨by show L.length+1<=9223372036854775807/\(L.length+1)*48<=140737488355328; omega,?_⟩;conv=>whnf
     refine ⟨(i+1,L++[((a+b)/2,p'.i)]),⟨by omega,by rw [htk]; rfl⟩,by show n-(i+1)<n-i; omega,zzi (fun k=>bif Nat.beq k 8 then 72 else k) ⟨rfl,rfl,rfl,rfl,rfl,rfl,zaq hin (by omega),trivial⟩ ⟨mrf rfl,mrf rfl,mrf rfl,⟨_,rfl,?_⟩,trivial⟩ rfl (fun R hR=>hR)⟩;rw [<-cr1]; simp only [zz2]; exact .refl _
    ·refine zac ((eqR (Q a) (Q b)).trans (zz9 (fun h=>hab (ziz.1 h)))) ?_;rw [zxI (fun h=>hab h.1)] at htk;conv=>whnf
     refine zak.qk ?_;conv=>whnf
     refine cd zm ?_;conv=>whnf
     refine ⟨by show L.length+1<=9223372036854775807/\(L.length+1)*48<=140737488355328; omega,?_⟩;conv=>whnf
     refine ⟨(i+1,L++[((a+b)/2,p'.i)]),⟨by omega,by rw [htk]; rfl⟩,by show n-(i+1)<n-i; omega,zzi (fun k=>bif Nat.beq k 8 then 72 else k) ⟨rfl,rfl,rfl,rfl,rfl,rfl,zaq hin (by omega),trivial⟩ ⟨mrf rfl,mrf rfl,mrf rfl,⟨_,rfl,?_⟩,trivial⟩ rfl (fun R hR=>hR)⟩;rw [<-cr1]; simp only [zz2]; exact .refl _
 refine zac (zz9 (show ¬(i : Int)<(n : Int) by omega)) ?_;rw [zyJ (by omega)] at hL;unfold zdN;rw [<-hL];have hso : (sortC L).length=L.length:=(zb0 L).length_eq;refine zae.sortC (k:=8) hLs (by omega) rfl ?_ rfl;obtain ⟨S,hS⟩ : ∃ S,S=sortC L:=⟨_,rfl⟩;rw [<-hS] at hso ⊢;clear hS hLs hL;obtain ⟨m,hm⟩ : ∃ m,m=S.length:=⟨_,rfl⟩;rw [<-hm];conv=>whnf
 refine zal (ι:=Nat×List Nat) (fun ⟨j,M⟩=>⟨[(7,.o (.w 8)),(15,.o (.w 9)),(76,.o (.w 8)),(77,.o (.v (.int .i64 m))),(78,.o (.v (.int .i64 j)))],[(8,.own za0 4 m (rowV crC S)),(9,.own zbw 1 M.length (rowV intC M))],[zai A (rowV pcC ps)]⟩)
  (fun ⟨j,M⟩=>j<=m/\M=fstL (S.take j)) (fun ⟨j,M⟩=>m-j) (0,[]) ⟨zyD _,rfl⟩
  ((SLe.nil 15 99 zbw 1 rfl rfl).trans (zzi (fun k=>bif Nat.beq k 9 then 99 else k) ⟨rfl,rfl,rfl,rfl,rfl,trivial⟩ ⟨mrf rfl,mrf rfl,trivial⟩ rfl (fun R hR=>hR))) ?_
 rintro ⟨j,M⟩ ⟨hj0,hM⟩;have hMl : M.length<=j:=by rw [hM]; exact zxs (zna _) (by rw [zyI]; omega)
 conv=>whnf
 by_cases hjm : j<m;rotate_left
 ·refine zac (zz9 (show ¬(j : Int)<(m : Int) by omega)) ?_;rw [zyJ (by omega)] at hM;conv=>whnf
  rw [<-hM];exact ⟨9,rfl,rfl⟩
 refine zag (zz8 (show (j : Int)<(m : Int) by omega)) ?_;obtain ⟨x,hx⟩ : ∃ x,S[j]?=some x:=⟨_,zyy (by omega)⟩;conv=>whnf
 refine ⟨by omega,?_⟩;conv=>whnf
 refine zzT crC zj8 (k:=j) (by show (j : Int).toNat*4=j*4; rw [zzS]) (by omega) (by decide) (fun h=>by cases h) ?_;intro x' hx';obtain rfl : x'=x:=by rw [hx] at hx'; exact (zz1 hx').symm
 conv=>whnf
 refine zak.qk ?_;have hm0 : m<=1000:=by omega
 by_cases hj0' : j=0
 ·subst hj0';have hM0 : M=[]:=by rw [hM]; rfl
  have hft : fstL (S.take 1)=[x'.2]:=by
   cases S with
   | nil=>cases hx
   | cons a t=>obtain rfl : a=x':=zz1 hx; obtain ⟨y,i⟩:=a; rfl
  conv=>whnf
  refine ⟨by show M.length+1<=9223372036854775807/\(M.length+1)*8<=140737488355328; omega,?_⟩;conv=>whnf
  refine ⟨(1,M++[x'.2]),⟨by omega,by rw [hM0,hft]; rfl⟩,by show m-1<m-0; omega,zzi (fun k=>bif Nat.beq k 9 then 100 else k) ⟨rfl,rfl,rfl,rfl,rfl,trivial⟩ ⟨mrf rfl,⟨_,rfl,?_⟩,trivial⟩ rfl (fun R hR=>hR)⟩;rw [<-int1]; simp only [zz2]; exact .refl _
 ·obtain ⟨y,hy⟩ : ∃ y,S[j-1]?=some y:=⟨_,zyy (by omega)⟩;have hft : fstL (S.take (j+1))=M++(if y.1=x'.1 then [] else [x'.2]):=by
   rw [hM]; exact zrl (by omega) hx hy
  have hwp : IntKind.i64.wrap ((j : Int)-1)=((j-1 : Nat) : Int):=by rw [wrap_i64 (by omega) (by omega)]; omega
  conv=>whnf
  rw [show ((j : Int)==0)=false from by rw [zBO]; omega];conv=>whnf
  refine ⟨by rw [hwp]; omega,?_⟩;conv=>whnf
  refine ⟨by omega,?_⟩;conv=>whnf
  refine zbi.fld (o:=0) crC zj8 hy (by show (IntKind.i64.wrap ((j : Int)-1)).toNat*4+0=_; rw [hwp,zzS]) (by decide) (by decide) (fun h=>by cases h) ?_;conv=>whnf
  refine zaj ?_ ?_ <;> intro h
  ·have hyx : ¬y.1=x'.1:=fun e=>by
    have h' : (!decide (Q y.1=Q x'.1))=true:=by rw [<-eqR]; exact h
    rw [zz8 (ziz.2 e)] at h'; cases h'
   rw [zxI hyx] at hft;conv=>whnf
   refine ⟨by show M.length+1<=9223372036854775807/\(M.length+1)*8<=140737488355328; omega,?_⟩;conv=>whnf
   refine ⟨(j+1,M++[x'.2]),⟨by omega,hft.symm⟩,by show m-(j+1)<m-j; omega,zzi (fun k=>bif Nat.beq k 9 then 100 else k) ⟨rfl,rfl,rfl,rfl,zaq hjm (by omega),trivial⟩ ⟨mrf rfl,⟨_,rfl,?_⟩,trivial⟩ rfl (fun R hR=>hR)⟩;rw [<-int1]; simp only [zz2]; exact .refl _
  ·have hyx : y.1=x'.1:=ziz.1 (by
    have h' : (!decide (Q y.1=Q x'.1))=false:=by rw [<-eqR]; exact h
    exact zA0 (by simpa using h'))
   rw [zxJ hyx,zyP] at hft;conv=>whnf
   exact ⟨(j+1,M),⟨by omega,hft.symm⟩,by show m-(j+1)<m-j; omega,zzj ⟨rfl,rfl,rfl,rfl,zaq hjm (by omega),trivial⟩ ⟨mrf rfl,mrf rfl,trivial⟩ (fun R hR=>hR)⟩
theorem zvh {a b : V} : PQ a=PQ b↔a=b:=⟨fun h=>by rw [<-PQ_v a,h,PQ_v],fun h=>by rw [h]⟩
theorem eqPV (p q : V) : (((PQ p).x.neg==(PQ q).x.neg&&((bs (PQ p).x.num).toList==(bs (PQ q).x.num).toList&&((bs (PQ p).x.den).toList==(bs (PQ q).x.den).toList&&((PQ p).y.neg==(PQ q).y.neg&&((bs (PQ p).y.num).toList==(bs (PQ q).y.num).toList&&((bs (PQ p).y.den).toList==(bs (PQ q).y.den).toList&&true)))))))=decide (p=q):=by
 have h1:=eqR (PQ p).x (PQ q).x;have h2:=eqR (PQ p).y (PQ q).y;simp only [zzc] at h1 h2;rw [show ((PQ p).x.neg==(PQ q).x.neg&&((bs (PQ p).x.num).toList==(bs (PQ q).x.num).toList&&((bs (PQ p).x.den).toList==(bs (PQ q).x.den).toList&&((PQ p).y.neg==(PQ q).y.neg&&((bs (PQ p).y.num).toList==(bs (PQ q).y.num).toList&&((bs (PQ p).y.den).toList==(bs (PQ q).y.den).toList&&true))))))
  = (((PQ p).x.neg==(PQ q).x.neg&&((bs (PQ p).x.num).toList==(bs (PQ q).x.num).toList&&((bs (PQ p).x.den).toList==(bs (PQ q).x.den).toList)))&&((PQ p).y.neg==(PQ q).y.neg&&((bs (PQ p).y.num).toList==(bs (PQ q).y.num).toList&&((bs (PQ p).y.den).toList==(bs (PQ q).y.den).toList)))) from by simp only [zzc,Bool.and_assoc],h1,h2,<-Bool.decide_and]
 refine decide_eq_decide.2 ⟨fun h=>?_,fun h=>by rw [h]; exact ⟨rfl,rfl⟩⟩;have e1:=ziz.1 h.1;have e2:=ziz.1 h.2
 cases p; cases q; simp only at e1 e2; rw [e1,e2]
def pcsO (lo hi : V) (e : V×V) (i : Nat) : Option Pc:=match zch ⟨PQ lo,PQ hi⟩ e.1 e.2 with
 | none=>none
 | some (c,d)=>if c=d then none else some ⟨(ordV c d).1,(ordV c d).2,i⟩
def pcsF (lo hi : V) : Nat->List (V×V)->List Pc
 | _,[]=>[]
 | i,e::r=>(pcsO lo hi e i).toList++pcsF lo hi (i+1) r
def pcsL (lo hi : V) (E : List (V×V)) : List Pc:=pcsF lo hi 0 E
theorem zij (lo hi : V) : ∀ (i : Nat) (l r : List (V×V)),pcsF lo hi i (l++r)=pcsF lo hi i l++pcsF lo hi (i+l.length) r
 | i,[],r=>rfl
 | i,e::l,r=>by simp only [zyw,pcsF,zij lo hi (i+1) l r,zyF,zxR]; congr 3; omega
theorem zoP {lo hi : V} {E : List (V×V)} {i : Nat} {e : V×V} (h : E[i]?=some e) : pcsL lo hi (E.take (i+1))=pcsL lo hi (E.take i)++(pcsO lo hi e i).toList:=by
 have hlt:=(zyz.1 h).1;rw [pcsL,zaD h,zij,zyI,zAs (by omega),zyo];show _=pcsF lo hi 0 _++_
 congr 1; simp [pcsF]
theorem zhj (lo hi : V) : ∀ (i : Nat) (l : List (V×V)),(pcsF lo hi i l).length<=l.length
 | i,[]=>zxr _
 | i,e::r=>by
  have:=zhj lo hi (i+1) r;simp only [pcsF,zz2,zxR]
  cases pcsO lo hi e i <;> simp <;> omega
theorem zlV {k : Nat} {a b : V} (ha : SzV k a) (hb : SzV k b) : SzV k (ordV a b).1/\SzV k (ordV a b).2:=by
 unfold ordV; split
 ·exact ⟨hb,ha⟩
 ·exact ⟨ha,hb⟩
theorem zqt {a b : V} (h : a≠b) : (ordV a b).1≠(ordV a b).2:=by
 unfold ordV; split
 ·exact h.symm
 ·exact h
theorem Bx.szs {lo hi : V} (hlo : SzV K0 lo) (hhi : SzV K0 hi) : (⟨PQ lo,PQ hi⟩ : Bx).sm K0:=⟨hlo.q,hhi.q⟩
theorem zfs {lo hi a b c d : V} (hlo : SzV K0 lo) (hhi : SzV K0 hi) (ha : SzV K0 a) (hb : SzV K0 b) (h : zch ⟨PQ lo,PQ hi⟩ a b=some (c,d)) : SzV KP c/\SzV KP d:=by
 unfold zch at h;split at h
 ·cases h
 ·rename_i l t hc;split at h
  ·cases h
  ·cases h
   obtain ⟨z1,z2⟩:=zgT (Bx.szs hlo hhi) ha hb 4 l t hc;have k:=fun (t : Rat) (z : Sz 605 t)=>((ha.add ((hb.sub ha).scale z)).le (show K0+(K0+K0+1+605)+1<=KP by decide))
   exact ⟨k _ z1,k _ z2⟩
theorem zt3 {lo hi : V} {e : V×V} {i : Nat} {p : Pc} (hlo : SzV K0 lo) (hhi : SzV K0 hi) (he : SzV K0 e.1/\SzV K0 e.2) (h : pcsO lo hi e i=some p) : p.sm KP/\p.a≠p.b:=by
 unfold pcsO at h;split at h
 ·cases h
 ·rename_i c d hc;split at h
  ·cases h
  ·rename_i hcd
   cases h
   obtain ⟨z1,z2⟩:=zfs hlo hhi he.1 he.2 hc;exact ⟨zlV z1 z2,zqt hcd⟩
theorem zmh {lo hi : V} {E : List (V×V)} (hlo : SzV K0 lo) (hhi : SzV K0 hi) (hE : ∀ e∈E,SzV K0 e.1/\SzV K0 e.2) : zfK (pcsL lo hi E):=by
 have : ∀ (l : List (V×V)) (i : Nat),(∀ e∈l,SzV K0 e.1/\SzV K0 e.2)->zfK (pcsF lo hi i l):=fun l=>by
  induction l with
  | nil=>intro i _ p hp; cases hp
  | cons e r ih =>
   intro i h p hp;rcases zyK.1 hp with hp | hp
   ·cases ho : pcsO lo hi e i with
    | none=>rw [ho] at hp; cases hp
    | some q=>rw [ho] at hp; obtain rfl:=zyZ.1 hp; exact zt3 hlo hhi (h e (zxA ..)) ho
   ·exact ih (i+1) (fun e he=>h e (zxB _ he)) p hp
 exact this E 0 hE
abbrev sgq (e : V×V) : List Value:=sgC (PQ e.1,PQ e.2)
theorem zaT (e : V×V) : (sgq e).length=12:=rfl
theorem pc1 (L : List Pc) (x : Pc) : app (rowV pcC L) (pcC x)=rowV pcC (L++[x]):=by
 rw [za4,zaE]; simp [rowV]
theorem znr (lo hi : V) (A : Option Addr) (c : Nat) (E : List (V×V)) (hlo : SzV K0 lo) (hhi : SzV K0 hi) (hx : lo.x<=hi.x) (hy : lo.y<=hi.y) (hE : ∀ e∈E,(SzV K0 e.1/\SzV K0 e.2)/\e.1≠e.2) (hl : E.length<=400) :
  FnM PP 40 [bxV ⟨PQ lo,PQ hi⟩,.slice A E.length c] (facts [zai A (rowV sgq E)]) (zbD zcO 13 (pcsL lo hi E).length (rowV pcC (pcsL lo hi E))):=by
 refine zzp zab mixed Tryz.func40 rfl rfl (zxW rfl) (by simp [zzk]) ?_;intro w hw;obtain ⟨n,hn⟩ : ∃ n,n=E.length:=⟨_,rfl⟩;have hA : 0<n->A.isSome=true:=fun h=>zam (zaK hw) (by rw [zad zaT]; omega)
 rw [<-hn] at hl ⊢;conv=>whnf
 refine zal (ι:=Nat×List Pc) (fun ⟨i,L⟩=>⟨[(2,.o (.p 2 0)),(5,.o (.w 6)),(11,.o (.v (.slice A n c))),(12,.o (.v (.int .i64 n))),(13,.o (.v (.int .i64 i)))],[(2,.box ((boxC ⟨PQ lo,PQ hi⟩).map AV.v) zaM),(6,.own zcO 13 L.length (rowV pcC L))],[zai A (rowV sgq E)]⟩)
  (fun ⟨i,L⟩=>i<=n/\L=pcsL lo hi (E.take i)) (fun ⟨i,L⟩=>n-i) (0,[]) ⟨zyD _,rfl⟩
  ((SLe.nil 5 6 zcO 13 rfl rfl).trans (zzj ⟨rfl,rfl,rfl,rfl,rfl,trivial⟩ ⟨mrf rfl,mrf rfl,trivial⟩ (fun R hR=>hR))) ?_
 rintro ⟨i,L⟩ ⟨hi0,hL⟩;have hLl : L.length<=i:=by
  rw [hL]; exact zxs (zhj ..) (by rw [zyI]; omega)
 conv=>whnf
 by_cases hin : i<n;rotate_left
 ·refine zac (zz9 (show ¬(i : Int)<(n : Int) by omega)) ?_;rw [zyJ (by omega)] at hL;conv=>whnf
  rw [<-hL];exact ⟨6,rfl,rfl⟩
 refine zag (zz8 (show (i : Int)<(n : Int) by omega)) ?_;obtain ⟨e,he⟩ : ∃ e,E[i]?=some e:=⟨_,zyy (by omega)⟩;have heo:=hE e (zyq he);have htk:=zoP (lo:=lo) (hi:=hi) he;rw [<-hL] at htk;conv=>whnf
 refine ⟨⟨by omega,by omega,hA (by omega)⟩,?_⟩;conv=>whnf
 refine zan.nat (A:=A) sgq zaT (zxA ..) rfl he ?_;obtain ⟨e',rfl⟩ : ∃ z,z=e:=⟨_,rfl⟩;conv=>whnf
 have hd : ¬zb3 ⟨PQ e'.1,PQ e'.2⟩:=fun h=>heo.2 (by have:=zaI.1 h; simpa using this)
 have hcv : zlc ⟨PQ e'.1,PQ e'.2⟩ ⟨PQ lo,PQ hi⟩=match zch ⟨PQ lo,PQ hi⟩ e'.1 e'.2 with
   | none=>zpx 0
   | some (c,d)=>.tuple #[sV ⟨PQ c,PQ d⟩,.bool true,.int .i64 0]:=by
  rw [zlc,zxI hd,zxI (fun h=>h.elim (fun h=>absurd hx (zz7.2 (by rw [<-Q_v lo.x,<-Q_v hi.x]; exact h))) (fun h=>absurd hy (zz7.2 (by rw [<-Q_v lo.y,<-Q_v hi.y]; exact h)))),show (⟨PQ e'.1,PQ e'.2⟩ : Sg).A.v=e'.1 from PQ_v _,show (⟨PQ e'.1,PQ e'.2⟩ : Sg).B.v=e'.2 from PQ_v _]
  all_goals (cases zch ⟨PQ lo,PQ hi⟩ e'.1 e'.2 <;> rfl)
 refine cf (zwb ⟨PQ e'.1,PQ e'.2⟩ ⟨PQ lo,PQ hi⟩ ⟨heo.1.1.q,heo.1.2.q⟩ (Bx.szs hlo hhi)) ?_;rw [hcv];unfold pcsO at htk
 cases hcl : zch ⟨PQ lo,PQ hi⟩ e'.1 e'.2 with
 | none =>
  rw [hcl] at htk;conv=>whnf
  exact ⟨(i+1,L),⟨by omega,by rw [htk]; exact (zyP _).symm⟩,by show n-(i+1)<n-i; omega,zzj ⟨rfl,rfl,rfl,rfl,zaq hin (by omega),trivial⟩ ⟨mrf rfl,mrf rfl,trivial⟩ (fun R hR=>hR)⟩
 | some cd =>
  obtain ⟨c1,d1⟩:=cd;rw [hcl] at htk;conv=>whnf
  by_cases hcd : c1=d1
  ·refine zac (zyr (!·) ((eqPV c1 d1).trans (zz8 hcd))) ?_;replace htk : pcsL lo hi (E.take (i+1))=L++[]:=by rw [htk]; show _++(if c1=d1 then none else some _).toList=_; rw [zxJ hcd]; rfl
   conv=>whnf
   exact ⟨(i+1,L),⟨by omega,by rw [htk]; exact (zyP _).symm⟩,by show n-(i+1)<n-i; omega,zzj ⟨rfl,rfl,rfl,rfl,zaq hin (by omega),trivial⟩ ⟨mrf rfl,mrf rfl,trivial⟩ (fun R hR=>hR)⟩
  refine zag (zyr (!·) ((eqPV c1 d1).trans (zz9 hcd))) ?_;replace htk : pcsL lo hi (E.take (i+1))=L++[⟨(ordV c1 d1).1,(ordV c1 d1).2,i⟩]:=by rw [htk]; show _++(if c1=d1 then none else some _).toList=_; rw [zxI hcd]; rfl
  obtain ⟨z1,z2⟩:=zfs hlo hhi heo.1.1 heo.1.2 hcl;have ho:=zlI ⟨PQ c1,PQ d1⟩ ⟨z1.q.le (by decide),z2.q.le (by decide)⟩;rw [show (⟨PQ c1,PQ d1⟩ : Sg).A.v=c1 from PQ_v _,show (⟨PQ c1,PQ d1⟩ : Sg).B.v=d1 from PQ_v _] at ho;conv=>whnf
  refine cf ho ?_;conv=>whnf
  refine ⟨by show L.length+1<=9223372036854775807/\(L.length+1)*168<=140737488355328; omega,?_⟩;conv=>whnf
  refine ⟨(i+1,L++[⟨(ordV c1 d1).1,(ordV c1 d1).2,i⟩]),⟨by omega,htk.symm⟩,by show n-(i+1)<n-i; omega,zzi (fun k=>bif Nat.beq k 6 then 43 else k) ⟨rfl,rfl,rfl,rfl,zaq hin (by omega),trivial⟩ ⟨mrf rfl,⟨_,rfl,?_⟩,trivial⟩ rfl (fun R hR=>hR)⟩;rw [<-pc1]; simp only [zz2]; exact .refl _
abbrev zBV:=@List.mem_append_right
abbrev zBU:=@Rat.le_of_lt
structure Ln (α : Type) where
 A : Option Addr
 c : Nat
 xs : List α
abbrev Ln.V {α : Type} (l : Ln α) : Value:=.slice l.A l.xs.length l.c
abbrev Ln.C {α : Type} (l : Ln α) : List Value:=[l.V]
def Ln.R {α : Type} (f : α->List Value) (l : Ln α) : Res:=zai l.A (rowV f l.xs)
theorem Ln.C_len {α : Type} (l : Ln α) : l.C.length=1:=rfl
abbrev zBT:=@Ln.C_len
abbrev ratQ (x : Rat) : List Value:=ratC (Q x)
theorem zas (x : Rat) : (ratQ x).length=3:=rfl
theorem zkk (l : List Rat) : rowV ratC (l.map Q)=rowV ratQ l:=by rw [zdm]
structure Sl where
 lo : V
 hi : V
 sg : Ln (V×V)
 X : Ln Rat
 L : Ln (Ln Rat)
 S : Ln (Ln Nat)
def Sl.C (s : Sl) : List Value:=boxC ⟨PQ s.lo,PQ s.hi⟩++[s.sg.V,s.X.V,s.L.V,s.S.V]
abbrev Sl.V (s : Sl) : Value:=.agg ⟨s.C⟩
def Sl.F (s : Sl) : List Res:=(s.L.xs.map (Ln.R ratQ)++s.S.xs.map (Ln.R intC))++[s.L.R Ln.C,s.S.R Ln.C,s.X.R ratQ,s.sg.R sgq]
def zbC (f : Rat->Rat->List Nat) : List Rat->List (List Nat)
 | x::y::r=>f x y::zbC f (y::r)
 | _=>[]
theorem zek (f : Rat->Rat->List Nat) : ∀ (l : List Rat) (x y : Rat),zbC f (l++[x,y])=zbC f (l++[x])++[f x y]
 | [],x,y=>rfl
 | [a],x,y=>rfl
 | a::b::r,x,y=>by
  have:=zek f (b::r) x y;simp only [zyw] at this ⊢;simp only [zbC];rw [this]; rfl
theorem zdY (f : Rat->Rat->List Nat) : ∀ (l : List Rat),(zbC f l).length=l.length-1
 | []=>rfl
 | [_]=>rfl
 | x::y::r=>by have:=zdY f (y::r); simp only [zbC,zxR,this]; omega
def Sl.is (s : Sl) : Prop:=s.X.xs=xsL s.lo s.hi (pcsL s.lo s.hi s.sg.xs)/\s.L.xs.map (·.xs)=s.X.xs.map (ysL s.lo s.hi (pcsL s.lo s.hi s.sg.xs))/\s.S.xs.map (·.xs)=zbC (zdN s.lo s.hi (pcsL s.lo s.hi s.sg.xs)) s.X.xs
def Sl.caps (s : Sl) : Prop:=s.X.xs.length<=s.X.c/\s.L.xs.length<=s.L.c/\s.S.xs.length<=s.S.c
theorem zs1 {lo hi : V} {ps : List Pc} (hlo : SzV K0 lo) (hhi : SzV K0 hi) (hps : zfK ps) : ∀ x∈xsL lo hi ps,Sz KX x:=fun x hx=>by
 rw [xsL,zbv] at hx;rcases zy1.1 hx with rfl | hx
 ·exact hlo.1.le (by decide)
 rcases zy1.1 hx with rfl | hx
 ·exact hhi.1.le (by decide)
 exact zlO hps _ x hx
theorem zhm (l : List Rat) : (ascL l).length<=l.length:=by rw [<-zd0]; exact zxs (zhJ _) (zxt (zcK l).length_eq)
theorem zuK {lo hi : V} {ps : List Pc} (hl : ps.length<=400) : (xsL lo hi ps).length<=400000:=by
 refine zxs (zhm _) ?_;have:=zfr ps ps.length hl;simp only [zxR]; omega
abbrev nilV : Value:=.slice none 0 0
abbrev slZ : List Value:=boxC ⟨S0.A,S0.B⟩++[nilV,nilV,nilV,nilV]
abbrev zjE (lo hi : V) (E : List (V×V)) (A : Option Addr) (c : Nat) : Type:={ s : Sl // s.lo=lo/\s.hi=hi/\s.sg=⟨A,c,E⟩/\s.is/\s.caps }
def Sl.F' (s : Sl) : List Res:=(s.L.xs.map (Ln.R ratQ)++s.S.xs.map (Ln.R intC))++[s.L.R Ln.C,s.S.R Ln.C,s.X.R ratQ]
theorem FnE.ofS {P : Program} {T : TT} (hT : zaY P T) (hmix : P.follows .mixedOrders=true) {f : FuncId} {fn : Func} {c : Code} {vs : List Value} {re : List Res} {ι : Type} {val : ι->Value} {rs : ι->List Res}
  (hf : P.funcs[f]? = some fn) (hb : fn.body = some c) (hnm : (fn.name == "runtime.NumGoroutine") = false) (hn : vs.length <= fn.ntmps) (hok : ∀ R ∈ re, R.ok)
  (hs : ∀ w,facts re w->WPS P ⟨w,[],fn.ntmps⟩ c ⟨zdx 0 (vsv vs),[],re⟩ (retQ T fn (fun l st=>zsr val rs w l st))) : FnM P f vs (facts re) (zea val rs):=by
 refine ⟨zda hf hnm (by rw [hb]; rfl),fun w hw=>?_⟩;have E0 : Env:=⟨fun _=>none,fun _=>(0,0)⟩;have:=zb5 (T:=T) hT hmix (E:=E0) hf hb (by
  have : ∀ l : List Value,(vsv l).length=l.length:=fun l=>by induction l with | nil=>rfl | cons x r ih=>simp [vsv,ih]
  rw [this]; exact hn) (zaV.init w [] fn.ntmps E0 hok hw) (hs w hw) (R:=zea val rs w) (fun l st E' w' hp hm=>by
   obtain ⟨i,h1,h2,h3⟩:=hp _ _ _ hm;exact ⟨i,by rw [h1],h2,h3,hm.ext.below⟩)
 rw [zbk] at this;exact this
theorem ln1 {α : Type} (L : List (Ln α)) (x : Ln α) : app (rowV Ln.C L) x.C=rowV Ln.C (L++[x]):=by
 rw [za4,zaE]; simp [rowV]
theorem zpb {a b c : List Res} {r R : Res} (h : R∈((a++[r])++b)++c) : R∈r::((a++b)++c):=by
 simp only [zyK,zy1,zBL,or_false] at *;rcases h with ((h | h) | h) | h <;> simp [h]
theorem zse {a b c : List Res} {r s R : Res} (h : R∈((a++[r])++(b++[s]))++c) : R∈s::r::((a++b)++c):=by
 simp only [zyK,zy1,zBL,or_false] at *;rcases h with ((h | h) | (h | h)) | h <;> simp [h]
theorem zpA (lo hi : V) (A : Option Addr) (c : Nat) (E : List (V×V)) (hlo : SzV K0 lo) (hhi : SzV K0 hi) (hx : lo.x<hi.x) (hy : lo.y<hi.y) (hE : ∀ e∈E,(SzV K0 e.1/\SzV K0 e.2)/\e.1≠e.2) (hl : E.length<=400) :
  FnM PP 8 [bxV ⟨PQ lo,PQ hi⟩,.slice A E.length c] (facts [zai A (rowV sgq E)]) (zea (ι:=zjE lo hi E A c) (fun s=>.tuple #[s.1.V,.int .i64 0]) (fun s=>s.1.F')):=by
 refine FnE.ofS zab mixed Tryz.func8 rfl rfl (zxW rfl) (by simp [zzk]) ?_;intro w hw;obtain ⟨n,hn⟩ : ∃ n,n=E.length:=⟨_,rfl⟩;have hA : 0<n->A.isSome=true:=fun h=>zam (zaK hw) (by rw [zad zaT]; omega)
 have hgood : (⟨PQ lo,PQ hi⟩ : Bx).good:=⟨zow _,zow _,by show (Q lo.x).v<(Q hi.x).v; rw [Q_v,Q_v]; exact hx,by show (Q lo.y).v<(Q hi.y).v; rw [Q_v,Q_v]; exact hy⟩;have hvb:=zoB ⟨PQ lo,PQ hi⟩ ⟨hlo.q.le (by decide),hhi.q.le (by decide)⟩;rw [zz8 hgood] at hvb;rw [<-hn];refine zy9 zab mixed ?_;conv=>whnf
 refine zy9 zab mixed ?_;conv=>whnf
 refine cf hvb ?_;conv=>whnf
 refine zy9 zab mixed ?_;conv=>whnf
 refine zac (zz9 (show ¬(n : Int)>(400 : Int) by omega)) ?_;conv=>whnf
 refine zy9 zab mixed ?_;conv=>whnf
 refine zal (ι:=Nat) (fun i=>⟨[(1,.o (.v (.slice A n c))),(2,.o (.p 2 0)),(4,.o (.p 4 0)),(20,.o (.v (.slice A n c))),(21,.o (.v (.int .i64 n))),(22,.o (.v (.int .i64 i)))],[(2,.box ((boxC ⟨PQ lo,PQ hi⟩).map AV.v) zaM),(4,.box (slZ.map AV.v) zaL)],[zai A (rowV sgq E)]⟩)
  (fun i=>i<=n) (fun i=>n-i) 0 (zyD _)
  (zzj ⟨rfl,rfl,rfl,rfl,rfl,rfl,trivial⟩ ⟨mrf rfl,mrf rfl,trivial⟩ (fun R hR=>hR)) ?_
 intro i hi0;conv=>whnf
 by_cases hin : i<n
 ·refine zag (zz8 (show (i : Int)<(n : Int) by omega)) ?_;obtain ⟨e,he⟩ : ∃ e,E[i]?=some e:=⟨_,zyy (by omega)⟩;have heo:=hE e (zyq he);have hca:=zg6 (PQ e.1) (heo.1.1.q.le (by decide));have hcb:=zg6 (PQ e.2) (heo.1.2.q.le (by decide));rw [zxJ (zow _)] at hca hcb;conv=>whnf
  refine ⟨⟨by omega,by omega,hA (by omega)⟩,?_⟩;conv=>whnf
  refine zan.nat (A:=A) sgq zaT (zxA ..) rfl he ?_;obtain ⟨e',rfl⟩ : ∃ z,z=e:=⟨_,rfl⟩;conv=>whnf
  refine cf hca ?_;conv=>whnf
  refine cf hcb ?_;conv=>whnf
  refine zac ((eqPV e'.1 e'.2).trans (zz9 heo.2)) ?_;conv=>whnf
  exact ⟨i+1,by show i+1<=n; omega,by show n-(i+1)<n-i; omega,zzj ⟨rfl,rfl,rfl,rfl,rfl,zaq hin (by omega),trivial⟩ ⟨mrf rfl,mrf rfl,trivial⟩ (fun R hR=>hR)⟩
 refine zac (zz9 (show ¬(i : Int)<(n : Int) by omega)) ?_;conv=>whnf
 refine zy9 zab mixed ?_;conv=>whnf
 refine zak.qk ?_;conv=>whnf
 have hcl:=znr lo hi A c E hlo hhi (zBU hx) (zBU hy) hE hl;rw [<-hn] at hcl;refine zA8 hcl.enters (zzq hcl rfl (fun R h=>h)) ?_;have hps : zfK (pcsL lo hi E):=zmh hlo hhi (fun e he=>(hE e he).1);have hpl : (pcsL lo hi E).length<=400:=zxs (zhj ..) hl;obtain ⟨ps,hpsd⟩ : ∃ ps,ps=pcsL lo hi E:=⟨_,rfl⟩;rw [<-hpsd] at hps hpl ⊢;conv=>whnf
 refine WPS.ofX (zBJ 47 rfl (fun A2 cp hcp hfr=>zBK ?_));refine zy9 zab mixed ?_;conv=>whnf
 refine zak.qk ?_;conv=>whnf
 have hab:=zmi lo hi A2 cp ps hlo hhi hps hpl hcp;refine zA8 hab.enters (zzq hab rfl (fun R h=>by rw [zyZ.1 h]; exact zxA ..)) ?_;have hxs : ∀ x∈xsL lo hi ps,Sz KX x:=zs1 hlo hhi hps;have hxl : (xsL lo hi ps).length<=400000:=zuK hpl;obtain ⟨X,hX⟩ : ∃ X,X=xsL lo hi ps:=⟨_,rfl⟩;rw [<-hX] at hxs hxl ⊢;rw [zkk];conv=>whnf
 refine WPS.ofX (zBJ 52 rfl (fun AX cX hcX hfX=>zBK ?_));refine WPS.pure (p:=0<X.length->AX.isSome=true) (fun w' hR h=>zam (hR _ (zxA ..)) (by rw [zad zas]; omega)) (fun hAX=>?_);refine zy9 zab mixed ?_;conv=>whnf
 obtain ⟨nx,hnx⟩ : ∃ nx,nx=X.length:=⟨_,rfl⟩;obtain ⟨m,hm⟩ : ∃ m,m=ps.length:=⟨_,rfl⟩;rw [<-hnx] at hcX hxl hAX ⊢;rw [<-hm] at hcp ⊢;refine zal (ι:=Nat×List (Ln Rat)×List (Ln Nat)) (fun ⟨i,LS,SS⟩=>⟨[(4,.o (.p 4 0)),(8,.o (.p 8 0)),(9,.o (.p 9 0)),(55,.o (.v (.slice AX nx cX))),(56,.o (.v (.int .i64 nx))),(57,.o (.v (.int .i64 i)))],
   [(4,.box (slZ.map AV.v) zaL),(8,bldM lo hi A2 m cp),(9,.box ((boxC ⟨PQ lo,PQ hi⟩++[Value.slice A n c,Value.slice AX nx cX]).map AV.v++[.w 3,.w 6]) zaL),(3,.own zcx 1 LS.length (rowV Ln.C LS)),(6,.own zeP 1 SS.length (rowV Ln.C SS))],
   (LS.map (Ln.R ratQ)++SS.map (Ln.R intC))++[zai AX (rowV ratQ X),zai A2 (rowV pcC ps),zai A (rowV sgq E)]⟩)
  (fun ⟨i,LS,SS⟩=>i<=nx/\LS.map (·.xs)=(X.take i).map (ysL lo hi ps)/\SS.map (·.xs)=zbC (zdN lo hi ps) (X.take i)/\(∀ l∈LS,Fr w l.A)/\(∀ l∈SS,Fr w l.A)) (fun ⟨i,_,_⟩=>nx-i) (0,[],[]) ⟨zyD _,rfl,rfl,(fun l h=>by cases h),(fun l h=>by cases h)⟩
  ((SLe.nilB 9 3 zcx 1 (cs:=(boxC ⟨PQ lo,PQ hi⟩++[Value.slice A n c,Value.slice AX nx cX]).map AV.v) (ds:=[.v nilV]) rfl rfl).trans ((SLe.nilB 9 6 zeP 1 (cs:=(boxC ⟨PQ lo,PQ hi⟩++[Value.slice A n c,Value.slice AX nx cX]).map AV.v++[.w 3]) (ds:=[]) rfl rfl).trans
   (zzj ⟨rfl,rfl,rfl,rfl,rfl,rfl,trivial⟩ ⟨mrf rfl,mrf rfl,mrf rfl,mrf rfl,mrf rfl,trivial⟩ (fun R hR=>hR)))) ?_
 rintro ⟨i,LS,SS⟩ ⟨hi0,hLS,hSS,hFL,hFS⟩;have hLl : LS.length=i:=by have:=zyr List.length hLS; simp only [zyA,zyI] at this; omega
 have hSl : SS.length=i-1:=by have:=zyr List.length hSS; rw [zdY] at this; simp only [zyA,zyI] at this; omega
 conv=>whnf
 by_cases hin : i<nx;rotate_left
 ·refine zac (zz9 (show ¬(i : Int)<(nx : Int) by omega)) ?_;rw [zyJ (by omega)] at hLS hSS;conv=>whnf
  refine zy7 zab mixed ?_;conv=>whnf
  intro N E1 w' hm;obtain ⟨AL,cL,hrL,hnL,hsL,hfL⟩:=hm.frz (k:=3) rfl;obtain ⟨AS,cS,hrS,hnS,hsS,hfS⟩:=hm.frz (k:=6) rfl;refine ⟨⟨⟨lo,hi,⟨A,c,E⟩,⟨AX,cX,X⟩,⟨AL,cL,LS⟩,⟨AS,cS,SS⟩⟩,rfl,rfl,rfl,⟨hpsd▸hX,hpsd▸hLS,hpsd▸hSS⟩,⟨by rw [<-hnx]; exact hcX,hnL,hnS⟩⟩,?_,?_,?_⟩
  ·show Value.tuple #[.agg ⟨boxC ⟨PQ lo,PQ hi⟩++[Value.slice A n c,Value.slice AX nx cX,(AV.w 3).real E1,(AV.w 6).real E1]⟩,.int .i64 0]=Value.tuple #[.agg ⟨boxC ⟨PQ lo,PQ hi⟩++[Value.slice A E.length c,Value.slice AX X.length cX,Value.slice AL LS.length cL,Value.slice AS SS.length cS]⟩,.int .i64 0];rw [hrL,hrS,<-hnx,<-hn]
  ·intro R hR;rcases zyK.1 hR with hR | hR
   ·exact (hm.res R (zyT _ hR)).2.1
   ·simp only [zy1,zBL,or_false] at hR;rcases hR with rfl | rfl | rfl
    ·exact hsL
    ·exact hsS
    ·exact (hm.res _ (zBV _ (zxA ..))).2.1
  ·intro R hR;rcases zyK.1 hR with hR | hR
   ·rcases zyK.1 hR with hR | hR
    ·obtain ⟨l,hl',rfl⟩:=zx1.1 hR; exact Fr.bs (hFL l hl')
    ·obtain ⟨l,hl',rfl⟩:=zx1.1 hR; exact Fr.bs (hFS l hl')
   ·simp only [zy1,zBL,or_false] at hR;rcases hR with rfl | rfl | rfl
    ·exact Fr.bs hfL
    ·exact Fr.bs hfS
    ·exact Fr.bs hfX
 refine zag (zz8 (show (i : Int)<(nx : Int) by omega)) ?_;obtain ⟨x,hxi⟩ : ∃ x,X[i]?=some x:=⟨_,zyy (by omega)⟩;have hxz:=hxs x (zyq hxi);conv=>whnf
 refine ⟨⟨by omega,by omega,hAX (by omega)⟩,?_⟩;conv=>whnf
 refine zan.nat (A:=AX) ratQ zas (zBV _ (zxA ..)) rfl hxi ?_;obtain ⟨x',rfl⟩ : ∃ z,z=x:=⟨_,rfl⟩;conv=>whnf
 refine zak.qk ?_;conv=>whnf
 have hor:=zme lo hi A2 cp ps x' hlo hhi hps hxz hpl;rw [<-hm,zkk] at hor;refine zA8 hor.enters (zzq hor rfl (fun R h=>by rw [zyZ.1 h]; exact zBV _ (zxB _ (zxA ..)))) ?_;obtain ⟨Y,hY⟩ : ∃ Y,Y=ysL lo hi ps x':=⟨_,rfl⟩;rw [<-hY];conv=>whnf
 refine zgI.of (zBJ 66 rfl (fun AY cY hcY hfY=>zBK ?_));conv=>whnf
 refine ⟨by show LS.length+1<=9223372036854775807/\(LS.length+1)*24<=140737488355328; omega,?_⟩;conv=>whnf
 have hLS' : (LS++[(⟨AY,cY,Y⟩ : Ln Rat)]).map (·.xs)=(X.take (i+1)).map (ysL lo hi ps):=by
  rw [zaD hxi,zzL,zzL,hLS,hY]; rfl
 have hFL' : ∀ l∈LS++[(⟨AY,cY,Y⟩ : Ln Rat)],Fr w l.A:=fun l h=>by
  rcases zyK.1 h with h | h
  ·exact hFL l h
  ·rw [zyZ.1 h]; exact hfY
 by_cases hi1 : 0<i;rotate_left
 ·refine zac (zz9 (show ¬(i : Int)>0 by omega)) ?_;conv=>whnf
  have hSS' : SS.map (·.xs)=zbC (zdN lo hi ps) (X.take (i+1)):=by
   obtain rfl : i=0:=by omega
   rw [hSS,zaD hxi]; rfl
  refine ⟨(i+1,LS++[⟨AY,cY,Y⟩],SS),⟨by omega,hLS',hSS',hFL',hFS⟩,by show nx-(i+1)<nx-i; omega,zzi (fun k=>bif Nat.beq k 3 then 68 else k) ⟨rfl,rfl,rfl,rfl,rfl,zaq hin (by omega),trivial⟩ ⟨mrf rfl,mrf rfl,mrf rfl,⟨_,rfl,?_⟩,mrf rfl,trivial⟩ rfl (fun R hR=>?_)⟩
  ·rw [<-ln1]; simp only [zz2]; exact .refl _
  ·exact zpb (by rw [show List.map (Ln.R ratQ) LS++[zai AY (rowV ratQ Y)]=List.map (Ln.R ratQ) (LS++[⟨AY,cY,Y⟩]) from by rw [zzL]; rfl]; exact hR)
 refine zag (zz8 (show (i : Int)>0 by omega)) ?_;have hw1 : IntKind.i64.wrap ((i : Int)-1)=((i-1 : Nat) : Int):=by rw [wrap_i64 (by omega) (by omega)]; omega
 obtain ⟨z,hzi⟩ : ∃ z,X[i-1]?=some z:=⟨_,zyy (by omega)⟩;have hzz:=hxs z (zyq hzi);conv=>whnf
 refine zak.qk ?_;conv=>whnf
 refine ⟨⟨by rw [hw1]; omega,by rw [hw1]; omega,hAX (by omega)⟩,?_⟩;conv=>whnf
 refine zan.nat (A:=AX) ratQ zas (zxB _ (zBV _ (zxA ..))) (by rw [hw1]) hzi ?_;obtain ⟨z',rfl⟩ : ∃ q,q=z:=⟨_,rfl⟩;conv=>whnf
 have hst:=zqd lo hi A2 cp ps z' x' hlo hhi hps hzz hxz hpl;rw [<-hm] at hst;refine zA8 hst.enters (zzq hst rfl (fun R h=>by rw [zyZ.1 h]; exact zxB _ (zBV _ (zxB _ (zxA ..))))) ?_;obtain ⟨T,hT⟩ : ∃ T,T=zdN lo hi ps z' x':=⟨_,rfl⟩;rw [<-hT];conv=>whnf
 refine zgI.of (zBJ 82 rfl (fun AT cT hcT hfT=>zBK ?_));conv=>whnf
 refine ⟨by show SS.length+1<=9223372036854775807/\(SS.length+1)*24<=140737488355328; omega,?_⟩;conv=>whnf
 have hSS' : (SS++[(⟨AT,cT,T⟩ : Ln Nat)]).map (·.xs)=zbC (zdN lo hi ps) (X.take (i+1)):=by
  have e1 : X.take i=X.take (i-1)++[z']:=by have:=zaD hzi; rwa [show i-1+1=i by omega] at this
  rw [zaD hxi,e1,zyF,show [z']++[x']=[z',x'] from rfl,zek,<-e1,zzL,hSS,hT]; rfl
 have hFS' : ∀ l∈SS++[(⟨AT,cT,T⟩ : Ln Nat)],Fr w l.A:=fun l h=>by
  rcases zyK.1 h with h | h
  ·exact hFS l h
  ·rw [zyZ.1 h]; exact hfT
 refine ⟨(i+1,LS++[⟨AY,cY,Y⟩],SS++[⟨AT,cT,T⟩]),⟨by omega,hLS',hSS',hFL',hFS'⟩,by show nx-(i+1)<nx-i; omega,zzi (fun k=>bif Nat.beq k 3 then 68 else bif Nat.beq k 6 then 84 else k) ⟨rfl,rfl,rfl,rfl,rfl,zaq hin (by omega),trivial⟩ ⟨mrf rfl,mrf rfl,mrf rfl,⟨_,rfl,?_⟩,⟨_,rfl,?_⟩,trivial⟩ rfl (fun R hR=>?_)⟩
 ·rw [<-ln1]; simp only [zz2]; exact .refl _
 ·rw [<-ln1]; simp only [zz2]; exact .refl _
 ·exact zse (by rw [show List.map (Ln.R ratQ) LS++[zai AY (rowV ratQ Y)]=List.map (Ln.R ratQ) (LS++[⟨AY,cY,Y⟩]) from by rw [zzL]; rfl,show List.map (Ln.R intC) SS++[zai AT (rowV intC T)]=List.map (Ln.R intC) (SS++[⟨AT,cT,T⟩]) from by rw [zzL]; rfl]; exact hR)
def segE : List (Pt×Pt)->Int
 | []=>0
 | e::r=>if ¬(e.1.ok/\e.2.ok) then 1 else if e.1=e.2 then 12 else segE r
def bldE (b : Bx) (l : List (Pt×Pt)) : Int:=if ¬b.good then 1 else if 400<l.length then 4 else segE l
theorem zpu {l : List (Pt×Pt)} : ∀ {i : Nat} {e : Pt×Pt},l[i]?=some e->segE (l.drop i)=if ¬(e.1.ok/\e.2.ok) then 1 else if e.1=e.2 then 12 else segE (l.drop (i+1)):=fun {i e} h=>by
 have h1:=zzd (zyz.1 h).1;rw [(zyz.1 h).2] at h1;rw [h1]; rfl
theorem zlB : ∀ {l : List (Pt×Pt)},segE l=0->∃ E : List (V×V),l=E.map (fun e=>(PQ e.1,PQ e.2))/\∀ e∈E,e.1≠e.2
 | [],_=>⟨[],rfl,fun e h=>by cases h⟩
 | e::r,h=>by
  unfold segE at h;split at h
  ·cases h
  ·rename_i h1;split at h
   ·cases h
   ·rename_i h2;have h1:=Classical.not_not.1 h1;obtain ⟨E,h3,h4⟩:=zlB h;refine ⟨(e.1.v,e.2.v)::E,?_,?_⟩
    ·rw [zxT,<-h3,<-zBs h1.1,<-zBs h1.2]
    ·intro x hx;rcases zy1.1 hx with rfl | hx
     ·intro k; exact h2 (by rw [zBs h1.1,zBs h1.2]; exact zvh.2 k)
     ·exact h4 x hx
theorem zla {b : Bx} {l : List (Pt×Pt)} (h : bldE b l=0) : ∃ (lo hi : V) (E : List (V×V)),b=⟨PQ lo,PQ hi⟩/\lo.x<hi.x/\lo.y<hi.y/\l=E.map (fun e=>(PQ e.1,PQ e.2))/\(∀ e∈E,e.1≠e.2)/\E.length<=400:=by
 unfold bldE at h;split at h
 ·cases h
 ·rename_i h1;split at h
  ·cases h
  ·rename_i h2;obtain ⟨h3,h4,h5,h6⟩:=Classical.not_not.1 h1;obtain ⟨E,h7,h8⟩:=zlB h;refine ⟨b.lo.v,b.hi.v,E,?_,h5,h6,h7,h8,?_⟩
   ·rw [<-zBs h3,<-zBs h4]
   ·rw [h7,zyA] at h2; omega
section
variable {P : Program} {C : Cx} {st : SS}
theorem zae.f1F {g g' : FuncId} {args : List SV} {c1 : List Value} {K : SV->SS->Prop} (hE : Enters P g) (h : zaC P g args st (zld g' [c1]))
  (hk : ∀ a1,Fr C.W0 (some a1)->K (.o (.v (.func (.func g') #[] ⟨[ptrV a1]⟩))) { st with re:=zai (some a1) c1::st.re }) : zae P C g args st K:=by
 refine ⟨hE,fun E w hm=>(h E w (fun k mm _ hk=>hm.ent k mm hk) (fun R hR=>(hm.res R hR).2.1)).mono ?_⟩;rintro e w' ⟨av,hlen,rfl,hcs,hb⟩;obtain ⟨a1,rfl⟩ : ∃ a1,av=[a1]:=by
  match av,hlen with
  | [a],_=>exact ⟨a,rfl⟩
 obtain ⟨f1,n1⟩:=hcs 0 a1 c1 rfl rfl;have hm':=hm.world (st:=st) hb;refine ⟨E,{ st with re:=zai (some a1) c1::st.re },.o (.v (.func (.func g') #[] ⟨[ptrV a1]⟩)),rfl,hm'.more (zzk _ _) f1 (fun b hb' k m hkk hβ=>?_),zxu hb,fun i sv hi=>⟨sv,hi,rfl⟩,hk a1 (fun a ha=>by cases ha; exact zxs hm.ext.size n1)⟩;have h1:=zkN hb';have:=(hm.ge k m b hkk hβ).2;omega
end
theorem zg0 (d : Int) : FnM PP 105 [.int .i64 d] (facts []) (zld 106 [[.int .i64 d]]):=by
 refine FnF.of zab mixed Tryz.func105 rfl rfl (zxW rfl) (by simp) ?_;intro w hw;conv=>whnf
 exact zk5 rfl
theorem zg7 (d : Int) : FnM PP 107 [.int .i64 d] (facts []) (zld 108 [[.int .i64 d]]):=by
 refine FnF.of zab mixed Tryz.func107 rfl rfl (zxW rfl) (by simp) ?_;intro w hw;conv=>whnf
 exact zk5 rfl
abbrev clo1 (g : FuncId) (a : Addr) : Value:=.func (.func g) #[] ⟨[ptrV a]⟩
abbrev zdQ (a1 a2 a3 a4 : Addr) : List Value:=[clo1 106 a1,fnV 109,fnV 110,clo1 106 a2,fnV 111,fnV 112,
 clo1 108 a3,fnV 113,fnV 115,clo1 108 a4,fnV 116,fnV 117]
abbrev zrT (a1 a2 a3 a4 : Addr) : List Res:=[zai (some a4) [.int .i64 1],zai (some a3) [.int .i64 2],zai (some a2) [.int .i64 1],zai (some a1) [.int .i64 0]]
theorem zbI : FnM PP 56 [] (facts []) (zea (ι:=Addr×Addr×Addr×Addr) (fun a=>.agg ⟨zdQ a.1 a.2.1 a.2.2.1 a.2.2.2⟩) (fun a=>zrT a.1 a.2.1 a.2.2.1 a.2.2.2)):=by
 refine FnE.of zab mixed Tryz.func56 rfl rfl (zxW rfl) (by simp) ?_;intro w hw;conv=>whnf
 refine zae.f1F (zg0 0).enters (zzq (zg0 0) rfl (by simp)) (fun a1 f1=>?_);conv=>whnf
 refine zae.f1F (zg0 1).enters (zzq (zg0 1) rfl (by simp)) (fun a2 f2=>?_);conv=>whnf
 refine zae.f1F (zg7 2).enters (zzq (zg7 2) rfl (by simp)) (fun a3 f3=>?_);conv=>whnf
 refine zae.f1F (zg7 1).enters (zzq (zg7 1) rfl (by simp)) (fun a4 f4=>?_);conv=>whnf
 intro N E1 w' hm;refine ⟨(a1,a2,a3,a4),rfl,fun R hR=>(hm.res R hR).2.1,fun R hR=>?_⟩;simp only [zy1,zBL,or_false] at hR;rcases hR with rfl | rfl | rfl | rfl
 ·exact Fr.bs f4
 ·exact Fr.bs f3
 ·exact Fr.bs f2
 ·exact Fr.bs f1
def Sl.small (s : Sl) : Prop:=s.X.xs.length<=1000000/\s.L.xs.length<=1000000/\s.S.xs.length<=1000000/\(∀ l∈s.L.xs,l.xs.length<=1000000)/\(∀ l∈s.S.xs,l.xs.length<=1000000)/\s.sg.xs.length<=1000000
theorem Sl.F_L {s : Sl} : zai s.L.A (rowV Ln.C s.L.xs)∈s.F:=zBV _ (zxA ..)
abbrev zBW:=@Sl.F_L
theorem Sl.F_S {s : Sl} : zai s.S.A (rowV Ln.C s.S.xs)∈s.F:=zBV _ (zxB _ (zxA ..))
abbrev zBX:=@Sl.F_S
theorem Sl.F_X {s : Sl} : zai s.X.A (rowV ratQ s.X.xs)∈s.F:=zBV _ (zxB _ (zxB _ (zxA ..)))
abbrev zBY:=@Sl.F_X
theorem Sl.F_sg {s : Sl} : zai s.sg.A (rowV sgq s.sg.xs)∈s.F:=zBV _ (zxB _ (zxB _ (zxB _ (zxA ..))))
theorem Sl.F_l {s : Sl} {l : Ln Rat} (h : l∈s.L.xs) : zai l.A (rowV ratQ l.xs)∈s.F:=zyT _ (zyT _ (zx1.2 ⟨l,h,rfl⟩))
abbrev zBZ:=@Sl.F_l
theorem Sl.F_s {s : Sl} {l : Ln Nat} (h : l∈s.S.xs) : zai l.A (rowV intC l.xs)∈s.F:=zyT _ (zBV _ (zx1.2 ⟨l,h,rfl⟩))
theorem Sl.F_ok (s : Sl) : ∀ R∈s.F,R.ok:=fun R hR=>by
 rcases zyK.1 hR with hR | hR
 ·rcases zyK.1 hR with hR | hR
  ·obtain ⟨l,_,rfl⟩:=zx1.1 hR; exact zzk _ _
  ·obtain ⟨l,_,rfl⟩:=zx1.1 hR; exact zzk _ _
 ·simp only [zy1,zBL,or_false] at hR;rcases hR with rfl | rfl | rfl | rfl <;> exact zzk _ _
def zb2 (s : Sl) (d : Nat) (col : Nat) : Int:=if col<s.L.xs.length/\col<s.X.xs.length then ((s.L.xs.map (·.xs.length)).getD col 0 : Int)-d else 0
def za6 (s : Sl) (d : Nat) (col : Nat) : Int:=if col<s.S.xs.length/\col+1<s.X.xs.length/\col+1<s.L.xs.length then ((s.S.xs.map (·.xs.length)).getD col 0 : Int)+d else 0
theorem zhW (a : Addr) (d : Nat) (s : Sl) (col : Nat) (hs : s.small) (hc : col<=1000000) (hd : d<=2) :
  FnM PP 106 [s.V,.int .i64 col,ptrV a] (facts (zai (some a) [.int .i64 d]::s.F)) (zaR (.int .i64 (zb2 s d col))):=by
 refine zzo zab mixed Tryz.func106 rfl rfl (zxW rfl) (fun R hR=>(zy1.1 hR).elim (fun h=>h▸zzk _ _) (s.F_ok R)) ?_;intro w hw;obtain ⟨b,o,rfl⟩:=zbT (hw _ (zxA ..)) (by simp);have hA : 0<s.L.xs.length->s.L.A.isSome=true:=fun h=>zam (hw _ (zxB _ zBW)) (by rw [zad zBT]; omega)
 obtain ⟨s1,s2,s3,s4,s5⟩:=hs;unfold zb2;conv=>whnf
 by_cases h1 : col<s.L.xs.length;rotate_left
 ·rw [zxI (fun h=>h1 h.1)];refine zac (zz9 (show ¬(col : Int)<(s.L.xs.length : Int) by omega)) ?_;conv=>whnf
  exact zaa rfl
 refine zag (zz8 (show (col : Int)<(s.L.xs.length : Int) by omega)) ?_;conv=>whnf
 by_cases h2 : col<s.X.xs.length;rotate_left
 ·rw [zxI (fun h=>h2 h.2)];refine zac (zz9 (show ¬(col : Int)<(s.X.xs.length : Int) by omega)) ?_;conv=>whnf
  exact zaa rfl
 refine zag (zz8 (show (col : Int)<(s.X.xs.length : Int) by omega)) ?_;rw [zxJ ⟨h1,h2⟩];conv=>whnf
 refine zak.qk ?_;conv=>whnf
 refine ⟨⟨by omega,by omega,hA (by omega)⟩,?_⟩;conv=>whnf
 refine zzR (A:=s.L.A) (xs:=s.L.xs) (j:=(col : Int)) Ln.C zBT (zxB _ zBW) rfl (by rw [zzS]; omega) (by decide) (fun _=>rfl) ?_;intro l hl;rw [zzS] at hl;have hll:=s4 l (zyq hl);conv=>whnf
 refine zzv (off:=0) (zxA ..) (zbJ _ _) (zxW rfl) (by decide) (fun _=>rfl) ?_;conv=>whnf
 refine zaa ?_;rw [zzO,zx4,hl,wrap_i64 (by omega) (by omega)]; rfl
theorem zft (a : Addr) (d : Nat) (s : Sl) (col : Nat) (hs : s.small) (hc : col<=1000000) (hd : d<=2) :
  FnM PP 108 [s.V,.int .i64 col,ptrV a] (facts (zai (some a) [.int .i64 d]::s.F)) (zaR (.int .i64 (za6 s d col))):=by
 refine zzo zab mixed Tryz.func108 rfl rfl (zxW rfl) (fun R hR=>(zy1.1 hR).elim (fun h=>h▸zzk _ _) (s.F_ok R)) ?_;intro w hw;obtain ⟨b,o,rfl⟩:=zbT (hw _ (zxA ..)) (by simp);have hA : 0<s.S.xs.length->s.S.A.isSome=true:=fun h=>zam (hw _ (zxB _ zBX)) (by rw [zad zBT]; omega)
 obtain ⟨s1,s2,s3,s4,s5,s6⟩:=hs;have hw1 : IntKind.i64.wrap ((col : Int)+1)=((col+1 : Nat) : Int):=by rw [wrap_i64 (by omega) (by omega)]; rfl
 unfold za6;conv=>whnf
 by_cases h1 : col<s.S.xs.length;rotate_left
 ·rw [zxI (fun h=>h1 h.1)];refine zac (zz9 (show ¬(col : Int)<(s.S.xs.length : Int) by omega)) ?_;conv=>whnf
  exact zaa rfl
 refine zag (zz8 (show (col : Int)<(s.S.xs.length : Int) by omega)) ?_;conv=>whnf
 by_cases h2 : col+1<s.X.xs.length;rotate_left
 ·rw [zxI (fun h=>h2 h.2.1)];refine zac (zz9 (show ¬IntKind.i64.wrap ((col : Int)+1)<(s.X.xs.length : Int) by rw [hw1]; omega)) ?_;conv=>whnf
  exact zaa rfl
 refine zag (zz8 (show IntKind.i64.wrap ((col : Int)+1)<(s.X.xs.length : Int) by rw [hw1]; omega)) ?_;conv=>whnf
 by_cases h3 : col+1<s.L.xs.length;rotate_left
 ·rw [zxI (fun h=>h3 h.2.2)];refine zac (zz9 (show ¬IntKind.i64.wrap ((col : Int)+1)<(s.L.xs.length : Int) by rw [hw1]; omega)) ?_;conv=>whnf
  exact zaa rfl
 refine zag (zz8 (show IntKind.i64.wrap ((col : Int)+1)<(s.L.xs.length : Int) by rw [hw1]; omega)) ?_;rw [zxJ ⟨h1,h2,h3⟩];conv=>whnf
 refine zak.qk ?_;conv=>whnf
 refine ⟨⟨by omega,by omega,hA (by omega)⟩,?_⟩;conv=>whnf
 refine zzR (A:=s.S.A) (xs:=s.S.xs) (j:=(col : Int)) Ln.C zBT (zxB _ zBX) rfl (by rw [zzS]; omega) (by decide) (fun _=>rfl) ?_;intro l hl;rw [zzS] at hl;have hll:=s5 l (zyq hl);conv=>whnf
 refine zzv (off:=0) (zxA ..) (zbJ _ _) (zxW rfl) (by decide) (fun _=>rfl) ?_;conv=>whnf
 refine zaa ?_;rw [zzO,zx4,hl,wrap_i64 (by omega) (by omega)]; rfl
end Go.Sx
end
section
namespace Go.Sx
open Go Go.RowKit
section
variable {P : Program} {T : TT}
def JRX (W : World) (B : List Nat) (J : List Nat->World->Prop) (ex : List Res) (Z : List Nat) : Res:=⟨B++Z,fun w=>J Z w/\∀ k∈Z,W.heap.size<=k/\∀ S∈ex,k ∉ S.bs⟩
theorem JRX.ok {W : World} {B : List Nat} {J : List Nat->World->Prop} {ex : List Res} (h : Own B J) (Z : List Nat) : (JRX W B J ex Z).ok :=
 ⟨fun w w' hj hb=>⟨h.stable Z w w' hj.1 (fun k hk=>hb k (zyK.2 hk)),hj.2⟩,fun w hj b hb=>h.kept Z w hj.1 b (zyK.1 hb)⟩
theorem zdW.nextX {l N : Nat} {W : World} {B : List Nat} {xs : List (List Value)} {J : Nat->List Nat->World->Prop} {Jx : List Nat->World->Prop} {re ex : List Res} {st : SS} {K : SV->SS->Prop} {args : List SV} {i : Nat} {Z : List Nat}
  (hr : zne P l W B xs J Jx) (hJ : ∀ i,Own B (J i)) (hJx : Own B Jx) (hre : ∀ R∈re,R.ok) (hW : facts re W) (hd : ∀ R∈re,∀ b∈R.bs,b ∉ B) (hB : ∀ b∈B,b<W.heap.size)
  (hex : ∀ S∈ex,∀ b∈S.bs,W.heap.size<=b)
  (hi : i<xs.length) (hst : st.re=JRX W B (J i) ex Z::(ex++re)) (ha : args=vsv (xs.getD i []))
  (hk1 : ∀ Z',K (.o (.v (.bool true))) { st with re:=JRX W B (J (i+1)) ex Z'::(ex++re) }) (hk2 : ∀ Z',K (.o (.v (.bool false))) { st with re:=JRX W B Jx ex Z'::(ex++re) }) : zdW P ⟨W,B,N⟩ l args st K:=by
 refine ⟨fun E w hm ro m=>?_⟩;have hj:=hm.res _ (by rw [hst]; exact zxA ..);obtain ⟨hj1,hj2⟩:=hj.2.1;have hnot : ∀ b,b∈B\/b∈Z->∀ k mm,lk k st.me=some mm->E.β k≠some b:=fun b hb=>(hj.2.2 b (zyK.2 hb)).2
 have hy:=hr i Z w hi hj1 hm.ext (fun k hk=>(hj2 k hk).1) ro m;rw [ha,zbk];obtain ⟨fn,tmps,assign,body,h1,h2⟩:=hy;refine ⟨fn,tmps,assign,body,h1,h2.mono ?_⟩;have key : ∀ (J' : List Nat->World->Prop) (hO : Own B J') (Z' : List Nat) (w' : World),J' Z' w'->zlh B Z Z' w w'->zaV ⟨W,B,N⟩ E st.me (JRX W B J' ex Z'::(ex++re)) w'/\KD w w':=by
  intro J' hO Z' w' hj' hmv;have hblk : ∀ b,b<w.heap.size->(¬(b∈B\/b∈Z))->w'.heap[b]?=w.heap[b]?:=fun b hb hn=>hmv.block b hb (fun h=>hn (.inl h)) (fun h=>hn (.inr h))
  have hme : ∀ k mm b,lk k st.me=some mm->E.β k=some b->w'.heap[b]?=w.heap[b]?:=fun k mm b hk hb=>hblk b (hm.ge k mm b hk hb).2 (fun h=>hnot b h k mm hk hb)
  refine ⟨⟨fun k mm hk=>(hm.ent k mm hk).of_block (fun b hb=>hme k mm b hk hb),fun k mm b hk hb=>⟨(hm.ge k mm b hk hb).1,zxw (hm.ge k mm b hk hb).2 hmv.size⟩,hm.inj,fun R hR=>?_,?_,hm.rig⟩,fun b hb=>?_⟩
  ·rcases zy1.1 hR with rfl | hR
   ·have hge : ∀ k∈Z',W.heap.size<=k/\∀ S∈ex,k ∉ S.bs:=fun k hk=>by
     rcases hmv.grow k hk with h | h
     ·exact hj2 k h
     ·refine ⟨zxs hm.ext.size h,fun S hS hb=>?_⟩;have:=((hm.res S (by rw [hst]; exact zxB _ (zyT _ hS))).2.2 k hb).1.lt;omega
    refine ⟨(JRX.ok (W:=W) (ex:=ex) hO Z').1,⟨hj',hge⟩,fun b hb=>⟨hO.kept Z' w' hj' b (zyK.1 hb),fun k mm hk hkb=>?_⟩⟩;rcases zyK.1 hb with hb | hb
    ·exact hnot b (.inl hb) k mm hk hkb
    ·rcases hmv.grow b hb with h | h
     ·exact hnot b (.inr h) k mm hk hkb
     ·have:=(hm.ge k mm b hk hkb).2; omega
   ·have hRm : R∈st.re:=by rw [hst]; exact zxB _ hR
    obtain ⟨r1,r2,r3⟩:=hm.res R hRm;have hne : ∀ b∈R.bs,w'.heap[b]?=w.heap[b]?:=fun b hb=>hblk b (r3 b hb).1.lt (fun h=>by
     rcases zyK.1 hR with hR | hR
     ·rcases h with h | h
      ·have:=hB b h; have:=hex R hR b hb; omega
      ·exact (hj2 b h).2 R hR hb
     ·rcases h with h | h
      ·exact hd R hR b hb h
      ·have h5:=((hre R hR).2 W (hW R hR) b hb).lt;have:=(hj2 b h).1;omega)
    exact ⟨r1,r1 _ _ r2 hne,fun b hb=>⟨(r3 b hb).1.keep (hne b hb),(r3 b hb).2⟩⟩
  ·have hx:=hm.ext;refine ⟨hmv.os.trans hx.os,hmv.tape.trans hx.tape,hmv.output.trans hx.output,zxs hx.size hmv.size,fun k hk hn=>?_,zxs hx.drawn hmv.drawn⟩;refine (hblk k (zxw hk hx.size) (fun h=>?_)).trans (hx.block k hk hn);rcases h with h | h
   ·exact hn h
   ·have h6:=(hj2 k h).1;have h7 : k<W.heap.size:=hk;omega
  ·refine (hblk b (zxv.1 hb).1 (fun h=>?_)).trans hb;obtain ⟨o,h3,h4⟩:=(hj.2.2 b (zyK.2 h)).1;rw [hb] at h3; cases h3; cases h4
 rintro e w' (⟨rfl,Z',hj',hmv⟩ | ⟨rfl,Z',hj',hmv⟩)
 ·obtain ⟨a1,a2⟩:=key _ (hJ (i+1)) Z' w' hj' hmv;exact ⟨E,{ st with re:=JRX W B (J (i+1)) ex Z'::(ex++re) },.o (.v (.bool true)),rfl,a1,a2,fun i sv hi=>⟨sv,hi,rfl⟩,hk1 Z'⟩
 ·obtain ⟨a1,a2⟩:=key _ hJx Z' w' hj' hmv;exact ⟨E,{ st with re:=JRX W B Jx ex Z'::(ex++re) },.o (.v (.bool false)),rfl,a1,a2,fun i sv hi=>⟨sv,hi,rfl⟩,hk2 Z'⟩
theorem zae.eX {W : World} {B : List Nat} {N : Nat} {J : List Nat->World->Prop} {re : List Res} {st : SS} {Z : List Nat} {ι : Type} {val : ι->Value} {rs : ι->List Res} {g : FuncId} {args : List SV} {K : SV->SS->Prop}
  (hst : st.re=JRX W B J [] Z::re) (hE : Enters P g) (h : zaC P g args st (zea val rs)) (hok : ∀ i,∀ R∈rs i,R.ok)
  (hk : ∀ i,(∀ R∈rs i,∀ b∈R.bs,W.heap.size<=b)->K (.o (.v (val i))) { st with re:=JRX W B J (rs i) Z::(rs i++re) }) : zae P ⟨W,B,N⟩ g args st K:=by
 refine ⟨hE,fun E w hm=>(h E w (fun k mm _ hk=>hm.ent k mm hk) (fun R hR=>(hm.res R hR).2.1)).mono ?_⟩;rintro e w' ⟨i,rfl,hf,hge,hb⟩;have hm':=hm.world (st:=st) hb;have hJ0:=hm.res _ (show JRX W B J [] Z∈st.re by rw [hst]; exact zxA ..);have hJ1:=hm'.res _ (show JRX W B J [] Z∈st.re by rw [hst]; exact zxA ..);have key : ∀ l : List Res,(∀ R∈l,R∈rs i)->zaV ⟨W,B,N⟩ E st.me (l++st.re) w':=by
  intro l
  induction l with
  | nil=>intro _; exact hm'
  | cons R l ih =>
   intro hl;refine (ih (fun R hR=>hl R (zxB _ hR))).more (hok i R (hl R (zxA ..))) (hf R (hl R (zxA ..))) (fun b hb' k m hkk hβ=>?_);have h3:=hge R (hl R (zxA ..)) b hb';have:=(hm.ge k m b hkk hβ).2;omega
 have hk':=key _ (fun R hR=>hR);refine ⟨E,{ st with re:=JRX W B J (rs i) Z::(rs i++re) },.o (.v (val i)),rfl,⟨hk'.ent,hk'.ge,hk'.inj,fun R hR=>?_,hk'.ext,hk'.rig⟩,zxu hb,fun i sv hi=>⟨sv,hi,rfl⟩,hk i (fun R hR b hb'=>zxs hm.ext.size (hge R hR b hb'))⟩;rcases zy1.1 hR with rfl | hR
 ·refine ⟨fun w1 w2 h1 h2=>?_,⟨hJ1.2.1.1,fun k hk=>⟨(hJ1.2.1.2 k hk).1,fun S hS hb'=>?_⟩⟩,hJ1.2.2⟩
  ·obtain ⟨h3,_⟩:=hJ1.1 w1 w2 ⟨h1.1,fun k hk=>⟨(h1.2 k hk).1,fun S hS=>by cases hS⟩⟩ h2;exact ⟨h3,h1.2⟩
  ·have h3:=hge S hS k hb';have h4:=(hJ0.2.2 k (zBV _ hk)).1.lt;omega
 ·refine hk'.res R ?_;rcases zyK.1 hR with hR | hR
  ·exact zyT _ hR
  ·exact zBV _ (by rw [hst]; exact zxB _ hR)
theorem SeqC.ofX (hT : zaY P T) (hmix : P.follows .mixedOrders=true) {f : FuncId} {fn : Func} {c : Code} {caps : List Value} {re : List Res} {xs : List (List Value)}
  (hf : P.funcs[f]? = some fn) (hb : fn.body = some c) (hnm : (fn.name == "runtime.NumGoroutine") = false) (hn : caps.length + 1 <= fn.ntmps) (hok : ∀ R ∈ re, R.ok)
  (hs : ∀ (l : Nat) (W : World) (B : List Nat) (R : List Res->Nat->List Nat->Res) (X : List Res->List Nat->Res),facts re W ->
   (∀ ex i Z st K args,i<xs.length->(∀ S∈ex,∀ b∈S.bs,W.heap.size<=b)->st.re=R ex i Z::(ex++re)->args=vsv (xs.getD i [])->(∀ Z',K (.o (.v (.bool true))) { st with re:=R ex (i+1) Z'::(ex++re) })->(∀ Z',K (.o (.v (.bool false))) { st with re:=X ex Z'::(ex++re) })->zdW P ⟨W,B,fn.ntmps⟩ l args st K) ->
   (∀ (ι : Type) (val : ι->Value) (rs : ι->List Res) st g args i Z (K : SV->SS->Prop),st.re=R [] i Z::re->Enters P g->zaC P g args st (zea val rs)->(∀ i,∀ R∈rs i,R.ok)->(∀ j,(∀ R∈rs j,∀ b∈R.bs,W.heap.size<=b)->K (.o (.v (val j))) { st with re:=R (rs j) i Z::(rs j++re) })->zae P ⟨W,B,fn.ntmps⟩ g args st K) ->
   WPS P ⟨W,B,fn.ntmps⟩ c ⟨zdx 0 (vsv (zcX l::caps)),[],R [] 0 []::re⟩ (retQ T fn (fun _ st=>(∃ ex Z,R ex xs.length Z∈st.re)\/∃ ex Z,X ex Z∈st.re))) : SeqC P f caps re xs:=by
 refine ⟨zda hf hnm (by rw [hb]; rfl),hok,fun l W B J Jx hW hd hB hJ hJx hr h0=>?_⟩;have E0 : Env:=⟨fun _=>none,fun _=>(0,0)⟩;have hlen : ∀ l : List Value,(vsv l).length=l.length:=fun l=>by induction l with | nil=>rfl | cons x r ih=>simp [vsv,ih]
 have hmem : zaV ⟨W,B,fn.ntmps⟩ E0 [] (JRX W B (J 0) [] []::re) W:=by
  refine ⟨fun k m hk=>by simp [lk] at hk,fun k m b hk=>by simp [lk] at hk,fun k k' m m' b hk=>by simp [lk] at hk,fun R hR=>?_,Ext.refl _ _,fun j b m hX hj=>by simp [lk] at hj⟩;rcases zy1.1 hR with rfl | hR
  ·have hφ : (JRX W B (J 0) [] []).φ W:=⟨h0,fun k hk=>by cases hk⟩;exact ⟨(JRX.ok (hJ 0) []).1,hφ,fun b hb=>⟨(JRX.ok (W:=W) (ex:=[]) (hJ 0) []).2 W hφ b hb,fun k m hk=>by simp [lk] at hk⟩⟩
  ·exact ⟨(hok R hR).1,hW R hR,fun b hb=>⟨(hok R hR).2 W (hW R hR) b hb,fun k m hk=>by simp [lk] at hk⟩⟩
 have:=zb5 (T:=T) hT hmix (E:=E0) (args:=vsv (zcX l::caps)) hf hb (by rw [hlen]; exact hn) hmem
  (hs l W B (fun ex i Z=>JRX W B (J i) ex Z) (fun ex Z=>JRX W B Jx ex Z) hW (fun ex i Z st K args hi hex hst ha hk1 hk2=>zdW.nextX hr hJ hJx hok hW hd hB hex hi hst ha hk1 hk2)
   (fun ι val rs st g args i Z K hst hE h hok' hk=>zae.eX hst hE h hok' hk))
  (R:=fun e w'=>(∃ v,e=.returned v)/\Ext B W w'/\((∃ Z,J xs.length Z w')\/∃ Z,Jx Z w'))
  (fun l st E' w' hp hm=>⟨⟨_,rfl⟩,hm.ext,by
   rcases hp with ⟨ex,Z,hZ⟩ | ⟨ex,Z,hZ⟩
   ·exact .inl ⟨Z,(hm.res _ hZ).2.1.1⟩
   ·exact .inr ⟨Z,(hm.res _ hZ).2.1.1⟩⟩)
 rw [zbk] at this;exact this
end
end Go.Sx
end
