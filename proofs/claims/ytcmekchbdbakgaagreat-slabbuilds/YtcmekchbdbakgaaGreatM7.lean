/- A part of the proof of a law: the symbolic executor, contracts of functions of the program, plain laws. No conditions. -/
import Derived.Test.YtcmekchbdbakgaaGreatM6
import Derived.ProofKit
import Derived.OpenShut
import Derived.Carry
import Derived.ChangeArms
import Derived.Deep.Slices
set_option linter.unusedVariables false
set_option linter.unusedSimpArgs false
set_option linter.unusedSectionVars false
section
set_option maxRecDepth 10000
set_option maxHeartbeats 2000000
namespace Go.Sx
open Go Go.Proofs
def ltC (a b : Rat×Nat) : Bool:=decide (a.1<b.1)||(decide (a.1=b.1)&&decide (a.2<b.2))
theorem znO {a b : Rat×Nat} : ltC a b=true↔a.1<b.1∨(a.1=b.1∧a.2<b.2):=by simp [ltC]
theorem zbO {a b : Rat×Nat} : ltC a b=false↔b.1≤a.1∧(a.1=b.1→b.2≤a.2):=by
 rw [Bool.eq_false_iff,ne_eq,znO]
 constructor
 ·intro h; exact ⟨by grind,fun e=>by grind⟩
 ·rintro ⟨h1,h2⟩ h; rcases h with h | ⟨h,h3⟩; grind; have:=h2 h; omega
theorem ztZ {a b : Rat×Nat} (h1 : ltC a b=false) (h2 : ltC b a=false) : a=b:=by
 rw [zbO] at h1 h2
 have e : a.1=b.1:=by grind
 exact Prod.ext e (by have:=h1.2 e; have:=h2.2 e.symm; omega)
theorem zzQ (a b : Rat×Nat) : ltOf cmpC a b=ltC a b:=by
 rw [Bool.eq_iff_iff,znO]
 show decide (cmpC a b<0)=true↔_
 rw [decide_eq_true_eq,cmpC]
 unfold orL orL orL
 by_cases h : cmpQ a.1 b.1=0
 ·rw [if_pos h]
  have e:=zbL.1 h
  unfold cmpI
  constructor
  ·intro h3
   right
   refine ⟨e,?_⟩
   split at h3
   ·split at h3 <;> omega
   ·split at h3
    ·omega
    ·split at h3 <;> omega
  ·rintro (h3 | ⟨_,h3⟩)
   ·grind
   ·have e1 : (if (a.2 : Int)<(b.2 : Int) then (-1 : Int) else if (b.2 : Int)<(a.2 : Int) then 1 else 0)=-1:=if_pos (by omega)
    rw [e1]; decide
 ·rw [if_neg h,zbg]
  have : a.1≠b.1:=fun e=>h (zbL.2 e)
  constructor
  ·exact .inl
  ·rintro (h3 | ⟨h3,_⟩); exact h3; exact absurd h3 this
def insC (x : Rat×Nat) : List (Rat×Nat)→List (Rat×Nat)
 | []=>[x]
 | y::l=>if ltC y x=true then y::insC x l else x::y::l
def sortC (l : List (Rat×Nat)) : List (Rat×Nat):=l.foldr insC []
abbrev SrtC (l : List (Rat×Nat)) : Prop:=l.Pairwise fun x y=>ltC y x=false
theorem zn9 (x : Rat×Nat) : ∀ l,(insC x l).Perm (x::l)
 | []=>.refl _
 | y::l=>by
  unfold insC
  split
  ·exact ((zn9 x l).cons y).trans (.swap x y l)
  ·exact .refl _
theorem zuP {x : Rat×Nat} : ∀ {l},SrtC l→SrtC (insC x l)
 | [],_=>by simp [insC]
 | y::l,h=>by
  have h1:=List.pairwise_cons.1 h
  unfold insC
  split
  ·rename_i hy
   refine List.pairwise_cons.2 ⟨fun z hz=>?_,zuP h1.2⟩
   rcases List.mem_cons.1 ((zn9 x l).mem_iff.1 hz) with rfl | hz
   ·rw [znO] at hy; rw [zbO]; constructor
    ·rcases hy with hy | hy <;> grind
    ·intro e; rcases hy with hy | hy; grind; omega
   ·exact h1.1 z hz
  ·rename_i hy
   have hy:=Bool.eq_false_iff.2 hy
   refine List.pairwise_cons.2 ⟨fun z hz=>?_,h⟩
   rcases List.mem_cons.1 hz with rfl | hz
   ·exact hy
   ·have h2:=h1.1 z hz
    rw [zbO] at hy h2 ⊢
    exact ⟨by grind,fun e=>by have:=hy.2 (by grind); have:=h2.2 (by grind); omega⟩
theorem zev : ∀ l,(sortC l).Perm l
 | []=>.refl _
 | x::l=>(zn9 x (sortC l)).trans ((zev l).cons x)
theorem zkx : ∀ l,SrtC (sortC l)
 | []=>.nil
 | x::l=>zuP (zkx l)
theorem zs8 (l : List (Rat×Nat)) : (l.mergeSort fun x y=>!ltC y x)=sortC l:=by
 have hs:=List.pairwise_mergeSort (le:=fun x y=>!ltC y x) (fun a b c h1 h2=>by
  simp only [Bool.not_eq_true'] at *
  rw [zbO] at *
  exact ⟨by grind,fun e=>by have:=h1.2 (by grind); have:=h2.2 (by grind); omega⟩) (fun a b=>by
  cases h1 : ltC b a with
  | false=>rfl
  | true =>
   cases h2 : ltC a b with
   | false=>rfl
   | true=>rw [znO] at h1 h2; exfalso; rcases h1 with h1 | h1 <;> rcases h2 with h2 | h2 <;> first | grind | omega) l
 refine List.Perm.eq_of_pairwise (le:=fun x y=>ltC y x=false) (fun a b _ _ h1 h2=>ztZ h2 h1) (hs.imp (by intro a b h; simpa using h)) (zkx l) ((List.mergeSort_perm _ _).trans (zev l).symm)
abbrev SzC:={ x : Rat×Nat // Sz KV x.1 }
instance : Inhabited SzC:=⟨⟨(0,0),(show Sz 1 (0 : Rat) from ⟨by decide,by decide⟩).le (by decide)⟩⟩
theorem zAT (x : Rat×Nat) : ∀ v∈crC x,v.oneCell'=true:=fun v hv=>by
 rcases List.mem_append.1 hv with hv | hv
 ·exact zuc _ v hv
 ·rw [List.mem_singleton.1 hv]; rfl
theorem zwF (xs : List (Rat×Nat)) (hs : ∀ x∈xs,Sz KV x.1) (hl : xs.length≤1000000) :
   FnW PP zaF [fnV zaS] [] zaV xs.length (rowV crC xs) (rowV crC (sortC xs)) (.tuple #[]):=by
 obtain ⟨d,hd⟩ : ∃ d : List SzC,d.map (·.1)=xs:=⟨xs.attach.map fun x=>⟨x.1,hs x.1 x.2⟩,by rw [List.map_map]; exact List.attach_map_subtype_val xs⟩
 have hlen : d.length=xs.length:=by rw [←hd,List.length_map]
 have hlt : ∀ x y : SzC,ltOf (fun a b : SzC=>cmpC a.1 b.1) x y=ltC x.1 y.1:=fun x y=>zzQ x.1 y.1
 have h:=FnW.sortK (P:=PP) Tryz.sort_crossing 4 (fun w=>(zab zaV _ rfl).1.run_isAgg) (fun w=>(zab zaV _ rfl).1.run_size) (fun x : SzC=>crC x.1) (fun x=>rfl) (fun x=>zAT _) (fun a b=>cmpC a.1 b.1)
   ⟨fun x=>by rw [hlt,zbO]; exact ⟨Rat.le_refl,fun _=>Nat.le_refl _⟩,fun x y z h1 h2=>by
       rw [hlt,znO] at *; rcases h1 with h1 | h1 <;> rcases h2 with h2 | h2 <;> first | exact .inl (by grind) | exact .inr ⟨by grind,by omega⟩,
     fun x y z h1 h2=>by rw [hlt,zbO] at *; exact ⟨by grind,fun e=>by have:=h1.2 (by grind); have:=h2.2 (by grind); omega⟩⟩
   (fun x y h1 h2=>by rw [hlt] at h1 h2; exact Subtype.ext (ztZ h1 h2)) zaS
   (fun x y=>zxW x.1 y.1 x.2 y.2) zaV d (by omega)
 rw [hlen] at h
 have e1 : rowV (fun x : SzC=>crC x.1) d=rowV crC xs:=by rw [←hd,zgl]
 have e2 : rowV (fun x : SzC=>crC x.1) (d.mergeSort fun x y=>!(ltOf fun a b : SzC=>cmpC a.1 b.1) y x)=rowV crC (sortC xs):=by
   rw [←zs8,←hd,←List.map_mergeSort (r:=fun x y : SzC=>!(ltOf fun a b : SzC=>cmpC a.1 b.1) y x) (s:=fun x y=>!ltC y x) (f:=fun x : SzC=>x.1) (fun a _ b _=>by rw [hlt]),zgl]
 rw [e1,e2] at h
 exact h
theorem zxA (A : Option Addr) (c : Nat) (fv : Value) : FnM PP zaF [.slice A 0 c,fv] (facts [zaf A []]) (zbu (.tuple #[])) :=
 ⟨Tryz.sort_crossing.f6.enters rfl,fun w _=>(AnyF.slices_SortFunc_none Tryz.sort_crossing A c fv w).mono (by rintro e w' ⟨rfl,rfl⟩; exact ⟨rfl,Bel.refl _ _⟩)⟩
def fstG : Rat→List (Rat×Nat)→List Nat
 | _,[]=>[]
 | p,(y,i)::r=>if p=y then fstG y r else i::fstG y r
def fstL : List (Rat×Nat)→List Nat
 | []=>[]
 | (y,i)::r=>i::fstG y r
theorem zrw : ∀ (p : Rat) (l : List (Rat×Nat)) (y : Rat) (i : Nat),fstG p (l++[(y,i)])=fstG p l++(if ((p::l.map (·.1)).getLast (by simp))=y then [] else [i])
 | p,[],y,i=>by by_cases h : p=y <;> simp [fstG,h]
 | p,(z,j)::l,y,i=>by
  simp only [List.cons_append,fstG,List.map_cons]
  rw [zrw z l y i]
  have e : (p::z::l.map (·.1)).getLast (by simp)=(z::l.map (·.1)).getLast (by simp):=List.getLast_cons _
  rw [e]
  by_cases h : p=z <;> simp [h]
theorem zye {L : List (Rat×Nat)} {k : Nat} {x y : Rat×Nat} (hk : 0<k) (hx : L[k]?=some x) (hy : L[k-1]?=some y) : fstL (L.take (k+1))=fstL (L.take k)++(if y.1=x.1 then [] else [x.2]):=by
 have hkl:=(List.getElem?_eq_some_iff.1 hx).1
 obtain ⟨⟨z,j⟩,r,hzr⟩ : ∃ z r,L.take k=z::r:=by
  rcases h : L.take k with _ | ⟨z,r⟩
  ·have:=congrArg List.length h; rw [List.length_take,List.length_nil] at this; omega
  ·exact ⟨z,r,rfl⟩
 rw [zaE hx,hzr]
 show j::fstG z (r++[(x.1,x.2)])=(j::fstG z r)++_
 rw [zrw]
 have hlast : (z::r.map (·.1)).getLast (by simp)=y.1:=by
  have h1 : ((L.take k).map (·.1)).getLast (by rw [hzr]; simp)=y.1:=by
   rw [List.getLast_eq_getElem]
   have h2:=(List.getElem?_eq_some_iff.1 hy).2
   simp only [List.getElem_map,List.length_map,List.getElem_take,List.length_take,Nat.min_eq_left (show k≤L.length by omega)]
   rw [h2]
  rw [←h1]
  congr 1
  rw [hzr]; rfl
 rw [hlast]; rfl
theorem ztP (l : List (Rat×Nat)) : (fstL l).length≤l.length:=by
 have : ∀ (p : Rat) (l : List (Rat×Nat)),(fstG p l).length≤l.length:=fun p l=>by
  induction l generalizing p with
  | nil=>exact Nat.le_refl _
  | cons x r ih =>
   obtain ⟨y,i⟩:=x
   simp only [fstG]
   split
   ·exact Nat.le_succ_of_le (ih y)
   ·exact Nat.succ_le_succ (ih y)
 cases l with
 | nil=>exact Nat.le_refl _
 | cons x r=>obtain ⟨y,i⟩:=x; exact Nat.succ_le_succ (this y r)
end Go.Sx
end
section
/- What the arguments of the laws hold: numbers, points, segments; and the way from a law's walk to its statement. -/
set_option maxRecDepth 10000
set_option maxHeartbeats 2000000
namespace Go.Sx
open Go Go.Proofs Go.ChangeShapes Go.WideShapes Go.RowKit
section
variable {H : Type} {enc : TypeId×Value→H} {w : World} {base : Nat} {spare : Nat→Bool} {held : Bool} {fuel : Nat} {cs : List Value} {x : DataW H×List MemPlace}
theorem zu2 : PP.cellsOf zsb=1:=by kernel_rfl
theorem zrB : PP.cellsOf zf8=1:=by kernel_rfl
theorem zrn : PP.cellsOf zaq=3:=by kernel_rfl
theorem zjB : PP.cellsOf za5=6:=by kernel_rfl
theorem zkD : PP.cellsOf zbe=12:=by kernel_rfl
theorem zzc : PP.underlying zsb=some .bool:=(zab zsb _ rfl).1.und
theorem zuK : PP.underlying zf8=some .string:=(zab zf8 _ rfl).1.und
theorem zem {α : Type} {l : List α} {i : Nat} (h : i<l.length) : ∃ y,l[i]?=some y:=⟨_,List.getElem?_eq_getElem h⟩
theorem zui (h : DataW.trod enc PP w base spare held fuel zaq cs=some x) : ∃ r : Raw,cs=ratC r:=by
 obtain ⟨xs,n,_,_,hlen,hxl,hf⟩:=DataW.trod_struct (zab zaq _ rfl).1.und h
 rw [zrn] at hlen
 match cs,hlen with
 | [a,b,c],_ =>
  obtain ⟨y0,h0⟩:=zem (show 0<xs.length by rw [hxl]; decide)
  obtain ⟨y1,h1⟩:=zem (show 1<xs.length by rw [hxl]; decide)
  obtain ⟨y2,h2⟩:=zem (show 2<xs.length by rw [hxl]; decide)
  have g0 : DataW.trod enc PP w base spare held n zsb (([a,b,c].drop 0).take (PP.cellsOf zsb))=xs[0]?:=hf 0 _ rfl
  have g1 : DataW.trod enc PP w base spare held n zf8 (([a,b,c].drop 1).take (PP.cellsOf zf8))=xs[1]?:=hf 1 _ rfl
  have g2 : DataW.trod enc PP w base spare held n zf8 (([a,b,c].drop 2).take (PP.cellsOf zf8))=xs[2]?:=hf 2 _ rfl
  rw [h0] at g0; rw [h1] at g1; rw [h2] at g2
  rw [zu2] at g0; rw [zrB] at g1 g2
  obtain ⟨b0,e0,_⟩:=DataW.trod_bool zzc g0
  obtain ⟨s1,e1,_⟩:=DataW.trod_string zuK g1
  obtain ⟨s2,e2,_⟩:=DataW.trod_string zuK g2
  cases e0; cases e1; cases e2
  exact ⟨⟨b0,s1.data.toList,s2.data.toList⟩,by rw [ratC,←zwk,←zwk]⟩
theorem zpX (h : DataW.trod enc PP w base spare held fuel za5 cs=some x) : ∃ p : Pt,cs=ptC p:=by
 obtain ⟨xs,n,_,_,hlen,hxl,hf⟩:=DataW.trod_struct (zab za5 _ rfl).1.und h
 rw [zjB] at hlen
 match cs,hlen with
 | [a,b,c,a',b',c'],_ =>
  obtain ⟨y0,h0⟩:=zem (show 0<xs.length by rw [hxl]; decide)
  obtain ⟨y1,h1⟩:=zem (show 1<xs.length by rw [hxl]; decide)
  have g0 : DataW.trod enc PP w base spare held n zaq (([a,b,c,a',b',c'].drop 0).take (PP.cellsOf zaq))=xs[0]?:=hf 0 _ rfl
  have g1 : DataW.trod enc PP w base spare held n zaq (([a,b,c,a',b',c'].drop 3).take (PP.cellsOf zaq))=xs[1]?:=hf 1 _ rfl
  rw [h0] at g0; rw [h1] at g1
  rw [zrn] at g0 g1
  obtain ⟨r,e0⟩:=zui g0
  obtain ⟨s,e1⟩:=zui g1
  exact ⟨⟨r,s⟩,by
   have e : [a,b,c,a',b',c']=[a,b,c]++[a',b',c']:=rfl
   rw [e,show [a,b,c]=ratC r from e0,show [a',b',c']=ratC s from e1]; rfl⟩
theorem zzG (h : DataW.trod enc PP w base spare held fuel zbe cs=some x) : ∃ e : Pt×Pt,cs=sgC e:=by
 obtain ⟨xs,n,_,_,hlen,hxl,hf⟩:=DataW.trod_struct (zab zbe _ rfl).1.und h
 rw [zkD] at hlen
 obtain ⟨y0,h0⟩:=zem (show 0<xs.length by rw [hxl]; decide)
 obtain ⟨y1,h1⟩:=zem (show 1<xs.length by rw [hxl]; decide)
 have g0 : DataW.trod enc PP w base spare held n za5 ((cs.drop 0).take (PP.cellsOf za5))=xs[0]?:=hf 0 _ rfl
 have g1 : DataW.trod enc PP w base spare held n za5 ((cs.drop 6).take (PP.cellsOf za5))=xs[1]?:=hf 1 _ rfl
 rw [h0] at g0; rw [h1] at g1
 rw [zjB] at g0 g1
 obtain ⟨p,e0⟩:=zpX g0
 obtain ⟨q,e1⟩:=zpX g1
 refine ⟨(p,q),?_⟩
 rw [List.take_of_length_le (by rw [List.length_drop]; omega)] at e1
 rw [List.drop_zero] at e0
 rw [sgC,←e0,←e1,List.take_append_drop]
end
theorem zw2 : laidOutB PP=true:=by kernel_rfl
theorem ownP : ownKnob PP.godebug=none:=by kernel_rfl
end Go.Sx
end
section
/- Arguments of the laws that are slices. -/
set_option maxRecDepth 10000
set_option maxHeartbeats 2000000
namespace Go.Sx
open Go Go.Proofs Go.ChangeShapes Go.WideShapes Go.RowKit Go.Deep
section
variable {H : Type} {enc : TypeId×Value→H} {w : World} {base : Nat} {spare : Nat→Bool} {held : Bool} {fuel : Nat} {cs : List Value} {x : DataW H×List MemPlace}
theorem zB1 {α : Type} {f : α→List Value} {es : Nat} (hf : ∀ x,(f x).length=es) (h0 : 0<es) {l : List α} {j : Nat} {v : Value} (h : (rowV f l)[j]?=some v) : ∃ x,l[j/es]?=some x∧(f x)[j%es]?=some v:=by
 have hj : j<l.length*es:=by rw [←zag hf]; exact (List.getElem?_eq_some_iff.1 h).1
 have hi : j/es<l.length:=Nat.div_lt_of_lt_mul (by rw [Nat.mul_comm]; exact hj)
 refine ⟨l[j/es],List.getElem?_eq_getElem hi,?_⟩
 rw [←zfP hf (List.getElem?_eq_getElem hi),List.getElem?_take,if_pos (Nat.mod_lt _ h0),List.getElem?_drop,Nat.mul_comm,Nat.div_add_mod]
 exact h
theorem zyT {α : Type} (f : α→List Value) {es : Nat} (hf : ∀ x,(f x).length=es) (h0 : 0<es) {t e : TypeId} (ht : PP.underlying t=some (.slice e)) (hc : PP.cellsOf e=es)
  (htr : ∀ {n : Nat} {cs : List Value} {y : DataW H×List MemPlace},DataW.trod enc PP w base spare held n e cs=some y→∃ x,cs=f x) (h : DataW.trod enc PP w base spare held fuel t cs=some x) :
  ∃ (A : Option Addr) (c : Nat) (l : List α),cs=[.slice A l.length c]∧l.length≤c∧SlF A (rowV f l) w:=by
 rcases open_slice ht h with ⟨h1,_⟩ | ⟨a,len,cap,m,n,D,Pl,hcs,hb,hl,hm,hmm,_,hall⟩
 ·exact ⟨none,0,[],h1,Nat.le_refl _,.inl rfl⟩
 have hlm : len≤m:=by rw [hmm]; split <;> omega
 have key : ∀ k,k≤len→∃ l : List α,l.length=k∧∀ i x,l[i]?=some x→w.cells? base (a.add (i*es)) es=some (f x):=by
  intro k
  induction k with
  | zero=>intro _; exact ⟨[],rfl,fun i x h=>by simp at h⟩
  | succ k ih =>
   intro hk
   obtain ⟨l,hl1,hl2⟩:=ih (by omega)
   obtain ⟨cs',e1,e2⟩:=hall k (by omega)
   obtain ⟨x,rfl⟩:=htr e2
   rw [hc] at e1
   refine ⟨l++[x],by simp [hl1],fun i y hy=>?_⟩
   by_cases hi : i<l.length
   ·rw [List.getElem?_append_left hi] at hy; exact hl2 i y hy
   ·rw [List.getElem?_append_right (by omega)] at hy
    have : i-l.length=0:=by
     by_cases h5 : i-l.length=0
     ·exact h5
     ·rw [List.getElem?_eq_none (by simp; omega)] at hy; cases hy
    rw [this] at hy
    cases hy
    rw [show i=k by omega]; exact e1
 obtain ⟨l,hl1,hl2⟩:=key len (Nat.le_refl _)
 subst hl1
 refine ⟨some a,cap,l,hcs,hl,?_⟩
 rcases l with _ | ⟨x0,l⟩
 ·exact .inl rfl
 right
 have hcell : ∀ {i : Nat} {x : α} {r : Nat},(x0::l)[i]?=some x→r<es→w.cell? ((a.add (i*es)).add r)=(f x)[r]?:=fun hi hr=>((World.cells?_some (hl2 _ _ hi)).2.2 _ hr)
 have hspot : a.spot=none:=by
  have h1:=hcell (i:=0) (x:=x0) (r:=0) rfl h0
  rw [Nat.zero_mul] at h1
  have h2 : ∃ v,(f x0)[0]?=some v:=⟨_,List.getElem?_eq_getElem (by rw [hf]; exact h0)⟩
  obtain ⟨v,h2⟩:=h2
  rw [h2] at h1
  have h3 : w.cell? a=some v:=h1
  unfold World.cell? at h3
  split at h3
  ·split at h3
   ·cases h3
   ·rename_i hs
    simpa using hs
  ·cases h3
 refine ⟨a.block,a.off,?_,fun j v hj=>?_⟩
 ·obtain ⟨b,o,s⟩:=a
  simp only at hspot
  rw [hspot]
 ·obtain ⟨x,hx,hv⟩:=zB1 hf h0 hj
  have h1:=hcell hx (Nat.mod_lt j h0)
  rw [hv] at h1
  rw [←h1]
  obtain ⟨b,o,s⟩:=a
  simp only at hspot
  subst hspot
  rw [Addr.add_lit,Addr.add_lit,Nat.add_assoc,Nat.mul_comm,Nat.div_add_mod]
end
theorem ztO {A : Option Addr} {xs : List Value} {w : World} (h : SlF A xs w) : facts [zaf A xs] w:=fun R hR=>by rw [List.mem_singleton.1 hR]; exact h
end Go.Sx
end
section
set_option maxRecDepth 10000
set_option maxHeartbeats 2000000
namespace Go.Sx
open Go Go.Proofs
def crsO (lo hi : V) (l r : Rat) (p : Pc) : Option (Rat×Nat):=match hgtO p l,hgtO p r with
 | some a,some b=>if a=b∧(a=lo.y∨a=hi.y) then none else some ((a+b)/2,p.i)
 | _,_=>none
def crsL (lo hi : V) (ps : List Pc) (l r : Rat) : List (Rat×Nat):=ps.filterMap (crsO lo hi l r)
def zkL (lo hi : V) (ps : List Pc) (l r : Rat) : List Nat:=fstL (sortC (crsL lo hi ps l r))
theorem zBX {lo hi : V} {ps : List Pc} {l r : Rat} (hps : zmD ps) (hl : Sz KX l) (hr : Sz KX r) : ∀ x∈crsL lo hi ps l r,Sz KV x.1:=fun x hx=>by
 obtain ⟨p,hp,h⟩:=List.mem_filterMap.1 hx
 unfold crsO at h
 split at h
 ·rename_i a b ha hb
  split at h
  ·cases h
  ·cases h
   exact (((zpK (hps p hp).1 hl ha).add (zpK (hps p hp).1 hr hb)).div (show Sz 1 (2 : Rat) from ⟨by decide,by decide⟩)).le (by decide)
 ·cases h
theorem zbU.fld {α : Type} {xs : List α} {j o m n off : Nat} {agg : Bool} {K : SV→Prop} {x : α} (f : α→List Value) (hf : ∀ x,(f x).length=n) (hx : xs[j]?=some x) (he : off=j*n+o)
  (ho : o+m≤n) (h0 : 0<m) (h1 : agg=false→m=1) (hk : K (mkV agg (((f x).drop o).take m))) : zbU (rowV f xs) off m agg K:=by
 subst he
 have hj : j<xs.length:=(List.getElem?_eq_some_iff.1 hx).1
 have hp : ((rowV f xs).drop (j*n)).take n=f x:=zfP hf hx
 have he : ((rowV f xs).drop (j*n+o)).take m=((f x).drop o).take m:=by
  rw [←hp,←List.drop_drop,List.drop_take,List.take_take,Nat.min_eq_left (by omega)]
 refine ⟨h0,_,by rw [List.length_take,List.length_drop,hf]; omega,h1,fun i y hj'=>?_,hk⟩
 rw [←he,List.getElem?_take] at hj'
 split at hj'
 ·rwa [List.getElem?_drop] at hj'
 ·cases hj'
theorem cr1 (L : List (Rat×Nat)) (x : Rat×Nat) : app (rowV crC L) (crC x)=rowV crC (L++[x]):=by
 rw [za1,zaC]; simp [rowV]
abbrev intC (k : Nat) : List Value:=[.int .i64 k]
theorem zib (k : Nat) : (intC k).length=1:=rfl
theorem int1 (L : List Nat) (x : Nat) : app (rowV intC L) [.int .i64 x]=rowV intC (L++[x]):=by
 rw [za1,zaC]; simp [rowV]
theorem zac.sortC {C : Cx} {st : SS} {k : Nat} {L : List (Rat×Nat)} {K : SV→SS→Prop} (hs : ∀ x∈L,Sz KV x.1) (hl : L.length≤1000000) (hk : lk k st.me=some (.own zaV 4 L.length (rowV crC L)))
   (hK : K (.o (.v (.tuple #[]))) { st with me:=setL k (.own zaV 4 (Sx.sortC L).length (rowV crC (Sx.sortC L))) st.me }) {args : List SV} (ha : args=[.o (.w k),.o (.v (fnV zaS))]) : zac PP C zaF args st K:=by
 subst ha
 have hso : (Sx.sortC L).length=L.length:=(zev L).length_eq
 by_cases h0 : L.length=0
 · have e1 : L=[]:=List.length_eq_zero_iff.1 h0
   subst e1
   refine ⟨Tryz.sort_crossing.f6.enters rfl,fun E w hm=>?_⟩
   obtain ⟨A,c,hr,hn,hs2⟩:=RdA.own hk E w (fun k' mm _ hk'=>hm.ent k' mm hk') (fun R hR=>(hm.res R hR).2.1)
   rw [List.map_cons,List.map_cons,List.map_nil,hr]
   refine ((zxA A c (fnV zaS)).calls w (ztO hs2)).mono ?_
   rintro e w' ⟨rfl,hb⟩
   have hm':=hm.world (st:=st) hb
   have hlk : ∀ j,lk j (setL k (.own zaV 4 (Sx.sortC []).length (rowV crC (Sx.sortC []))) st.me)=lk j st.me:=fun j=>by
     rw [zfn]
     split
     · rename_i e; subst e; rw [hk]; rfl
     · rfl
   refine ⟨E,{ st with me:=setL k (.own zaV 4 (Sx.sortC []).length (rowV crC (Sx.sortC []))) st.me },.o (.v (.tuple #[])),rfl,?_,KD.below hb,fun i sv hi=>⟨sv,hi,rfl⟩,hK⟩
   exact ⟨fun j m hj=>hm'.ent j m (by rw [←hlk]; exact hj),fun j m b hj hb=>hm'.ge j m b (by rw [←hlk]; exact hj) hb,fun j j' m m' b hj hj'=>hm'.inj j j' m m' b (by rw [←hlk]; exact hj) (by rw [←hlk]; exact hj'),
     fun R hR=>let ⟨r1,r2,r3⟩:=hm'.res R hR; ⟨r1,r2,fun b hb=>⟨(r3 b hb).1,fun j m hj=>(r3 b hb).2 j m (by rw [←hlk]; exact hj)⟩⟩,hm'.ext,fun j b m hX hj=>hm'.rig j b m hX (by rw [←hlk]; exact hj)⟩
 · refine zac.w (k:=k) hk (by omega) (zwF L hs hl).enters (fun E w' hm=>⟨[fnV zaS],[],rfl,zwF L hs hl,(fun R hR=>by cases hR),(fun R hR=>by cases hR)⟩) (by rw [zag zqN,zag zqN,hso]) ?_
   rw [hso] at hK
   exact hK
theorem zwa (lo hi : V) (A : Option Addr) (c : Nat) (ps : List Pc) (l r : Rat) (hlo : SzV K0 lo) (hhi : SzV K0 hi) (hps : zmD ps) (hzl : Sz KX l) (hzr : Sz KX r) (hl : ps.length≤400) :
  FnM PP zed [bldV lo hi A ps.length c,qV l,qV r] (facts [zaf A (rowV pcC ps)]) (zdn zen 1 (zkL lo hi ps l r).length (rowV intC (zkL lo hi ps l r))):=by
 refine FnO.of zab mixed ziR rfl rfl (Nat.le_of_ble_eq_true rfl) (by simp [zaf.ok]) ?_
 intro w hw
 obtain ⟨n,hn⟩ : ∃ n,n=ps.length:=⟨_,rfl⟩
 have hA : 0<n→A.isSome=true:=fun h=>zap (zaK hw) (by rw [zag zjF]; omega)
 rw [←hn] at hl ⊢
 conv=>whnf
 refine zak (ι:=Nat×List (Rat×Nat)) (fun ⟨i,L⟩=>⟨[(3,.o (.p 3 0)),(4,.o (.p 4 0)),(5,.o (.p 5 0)),(7,.o (.w 8)),(19,.o (.v (.slice A n c))),(20,.o (.v (.int .i64 n))),(21,.o (.v (.int .i64 i)))],[(3,bldM lo hi A n c),(4,ratM (Q l)),(5,ratM (Q r)),(8,.own zaV 4 L.length (rowV crC L))],[zaf A (rowV pcC ps)]⟩)
  (fun ⟨i,L⟩=>i≤n∧L=crsL lo hi (ps.take i) l r) (fun ⟨i,L⟩=>n-i) (0,[]) ⟨Nat.zero_le _,rfl⟩
  ((SLe.nil 7 8 zaV 4 rfl rfl).trans (SLe.id ⟨rfl,rfl,rfl,rfl,rfl,rfl,rfl,trivial⟩ ⟨⟨_,rfl,.refl _⟩,⟨_,rfl,.refl _⟩,⟨_,rfl,.refl _⟩,⟨_,rfl,.refl _⟩,trivial⟩ (fun R hR=>hR))) ?_
 rintro ⟨i,L⟩ ⟨hi0,hL⟩
 have hLl : L.length≤i:=by
  rw [hL]; exact Nat.le_trans (List.length_filterMap_le _ _) (by rw [List.length_take]; omega)
 have hLs : ∀ x∈L,Sz KV x.1:=fun x hx=>by
  rw [hL] at hx; exact zBX (fun p hp=>hps p (List.mem_of_mem_take hp)) hzl hzr x hx
 conv=>whnf
 by_cases hin : i<n
 ·refine zai (decide_eq_true (show (i : Int)<(n : Int) by omega)) ?_
  obtain ⟨p,hp⟩ : ∃ p,ps[i]?=some p:=⟨_,List.getElem?_eq_getElem (by omega)⟩
  have hpo:=hps p (List.mem_of_getElem? hp)
  have htk : crsL lo hi (ps.take (i+1)) l r=crsL lo hi (ps.take i) l r++(crsO lo hi l r p).toList:=by
   rw [crsL,zaE hp,List.filterMap_append]
   congr 1
  have zl:=fun a=>zpK (y:=a) hpo.1 hzl
  have zr:=fun a=>zpK (y:=a) hpo.1 hzr
  conv=>whnf
  refine ⟨⟨by omega,by omega,hA (by omega)⟩,?_⟩
  conv=>whnf
  refine zao.elem (A:=A) (xs:=ps) (j:=(i : Int)) pcC zjF (List.mem_cons_self ..) rfl (by rw [Int.toNat_natCast]; omega) (by decide) (fun h=>by cases h) ?_
  intro p' hp'
  obtain rfl : p'=p:=by rw [Int.toNat_natCast,hp] at hp'; exact (Option.some.inj hp').symm
  conv=>whnf
  refine cf (zhS p' l hpo.1 (hzl.le (by decide)) hpo.2) ?_
  conv=>whnf
  refine cf (zhS p' r hpo.1 (hzr.le (by decide)) hpo.2) ?_
  unfold crsO at htk
  cases ha : hgtO p' l with
  | none =>
   rw [ha] at htk
   have fin : crsL lo hi (ps.take (i+1)) l r=L:=by rw [htk,hL]; exact List.append_nil _
   conv=>whnf
   refine zah ?_ ?_ <;> intro _ <;> conv=>whnf
   ·refine zah ?_ ?_ <;> intro _ <;> conv=>whnf
    all_goals exact ⟨(i+1,L),⟨by omega,fin.symm⟩,by show n-(i+1)<n-i; omega,SLe.id ⟨rfl,rfl,rfl,rfl,rfl,rfl,zan hin (by omega),trivial⟩ ⟨⟨_,rfl,.refl _⟩,⟨_,rfl,.refl _⟩,⟨_,rfl,.refl _⟩,⟨_,rfl,.refl _⟩,trivial⟩ (fun R hR=>hR)⟩
   ·exact ⟨(i+1,L),⟨by omega,fin.symm⟩,by show n-(i+1)<n-i; omega,SLe.id ⟨rfl,rfl,rfl,rfl,rfl,rfl,zan hin (by omega),trivial⟩ ⟨⟨_,rfl,.refl _⟩,⟨_,rfl,.refl _⟩,⟨_,rfl,.refl _⟩,⟨_,rfl,.refl _⟩,trivial⟩ (fun R hR=>hR)⟩
  | some a =>
   cases hb : hgtO p' r with
   | none =>
    rw [ha,hb] at htk
    have fin : crsL lo hi (ps.take (i+1)) l r=L:=by rw [htk,hL]; exact List.append_nil _
    conv=>whnf
    refine zah ?_ ?_ <;> intro _ <;> conv=>whnf
    ·refine zah ?_ ?_ <;> intro _ <;> conv=>whnf
     all_goals exact ⟨(i+1,L),⟨by omega,fin.symm⟩,by show n-(i+1)<n-i; omega,SLe.id ⟨rfl,rfl,rfl,rfl,rfl,rfl,zan hin (by omega),trivial⟩ ⟨⟨_,rfl,.refl _⟩,⟨_,rfl,.refl _⟩,⟨_,rfl,.refl _⟩,⟨_,rfl,.refl _⟩,trivial⟩ (fun R hR=>hR)⟩
    ·exact ⟨(i+1,L),⟨by omega,fin.symm⟩,by show n-(i+1)<n-i; omega,SLe.id ⟨rfl,rfl,rfl,rfl,rfl,rfl,zan hin (by omega),trivial⟩ ⟨⟨_,rfl,.refl _⟩,⟨_,rfl,.refl _⟩,⟨_,rfl,.refl _⟩,⟨_,rfl,.refl _⟩,trivial⟩ (fun R hR=>hR)⟩
   | some b =>
    rw [ha,hb] at htk
    replace htk : crsL lo hi (ps.take (i+1)) l r=L++(if a=b∧(a=lo.y∨a=hi.y) then none else some ((a+b)/2,p'.i)).toList:=by rw [htk,hL]
    have zm:=ztI a b ((zl a ha).le (by decide)) ((zr b hb).le (by decide))
    conv=>whnf
    by_cases hab : a=b
    ·refine zai ((eqR (Q a) (Q b)).trans (decide_eq_true (by rw [hab]))) ?_
     conv=>whnf
     by_cases h1 : a=lo.y
     ·refine zai ((eqR (Q a) (Q lo.y)).trans (decide_eq_true (by rw [h1]))) ?_
      rw [if_pos ⟨hab,.inl h1⟩] at htk
      conv=>whnf
      exact ⟨(i+1,L),⟨by omega,by rw [htk]; exact (List.append_nil _).symm⟩,by show n-(i+1)<n-i; omega,SLe.id ⟨rfl,rfl,rfl,rfl,rfl,rfl,zan hin (by omega),trivial⟩ ⟨⟨_,rfl,.refl _⟩,⟨_,rfl,.refl _⟩,⟨_,rfl,.refl _⟩,⟨_,rfl,.refl _⟩,trivial⟩ (fun R hR=>hR)⟩
     refine zae ((eqR (Q a) (Q lo.y)).trans (decide_eq_false (fun h=>h1 (zo9.1 h)))) ?_
     conv=>whnf
     by_cases h2 : a=hi.y
     ·refine zae (congrArg (!·) ((eqR (Q a) (Q hi.y)).trans (decide_eq_true (by rw [h2])))) ?_
      rw [if_pos ⟨hab,.inr h2⟩] at htk
      conv=>whnf
      exact ⟨(i+1,L),⟨by omega,by rw [htk]; exact (List.append_nil _).symm⟩,by show n-(i+1)<n-i; omega,SLe.id ⟨rfl,rfl,rfl,rfl,rfl,rfl,zan hin (by omega),trivial⟩ ⟨⟨_,rfl,.refl _⟩,⟨_,rfl,.refl _⟩,⟨_,rfl,.refl _⟩,⟨_,rfl,.refl _⟩,trivial⟩ (fun R hR=>hR)⟩
     refine zai (congrArg (!·) ((eqR (Q a) (Q hi.y)).trans (decide_eq_false (fun h=>h2 (zo9.1 h))))) ?_
     rw [if_neg (fun h=>h.2.elim h1 h2)] at htk
     conv=>whnf
     refine zaj.quiet (by kernel_rfl) ?_
     conv=>whnf
     refine cd zm ?_
     conv=>whnf
     refine ⟨by show L.length+1≤9223372036854775807∧(L.length+1)*48≤140737488355328; omega,?_⟩
     conv=>whnf
     refine ⟨(i+1,L++[((a+b)/2,p'.i)]),⟨by omega,by rw [htk]; rfl⟩,by show n-(i+1)<n-i; omega,SLe.mk (fun k=>bif Nat.beq k 8 then 72 else k) ⟨rfl,rfl,rfl,rfl,rfl,rfl,zan hin (by omega),trivial⟩ ⟨⟨_,rfl,.refl _⟩,⟨_,rfl,.refl _⟩,⟨_,rfl,.refl _⟩,⟨_,rfl,?_⟩,trivial⟩ rfl (fun R hR=>hR)⟩
     rw [←cr1]; simp only [List.length_append]; exact .refl _
    ·refine zae ((eqR (Q a) (Q b)).trans (decide_eq_false (fun h=>hab (zo9.1 h)))) ?_
     rw [if_neg (fun h=>hab h.1)] at htk
     conv=>whnf
     refine zaj.quiet (by kernel_rfl) ?_
     conv=>whnf
     refine cd zm ?_
     conv=>whnf
     refine ⟨by show L.length+1≤9223372036854775807∧(L.length+1)*48≤140737488355328; omega,?_⟩
     conv=>whnf
     refine ⟨(i+1,L++[((a+b)/2,p'.i)]),⟨by omega,by rw [htk]; rfl⟩,by show n-(i+1)<n-i; omega,SLe.mk (fun k=>bif Nat.beq k 8 then 72 else k) ⟨rfl,rfl,rfl,rfl,rfl,rfl,zan hin (by omega),trivial⟩ ⟨⟨_,rfl,.refl _⟩,⟨_,rfl,.refl _⟩,⟨_,rfl,.refl _⟩,⟨_,rfl,?_⟩,trivial⟩ rfl (fun R hR=>hR)⟩
     rw [←cr1]; simp only [List.length_append]; exact .refl _
 refine zae (decide_eq_false (show ¬(i : Int)<(n : Int) by omega)) ?_
 rw [List.take_of_length_le (by omega)] at hL
 unfold zkL
 rw [←hL]
 have hso : (sortC L).length=L.length:=(zev L).length_eq
 refine zac.sortC (k:=8) hLs (by omega) rfl ?_ rfl
 obtain ⟨S,hS⟩ : ∃ S,S=sortC L:=⟨_,rfl⟩
 rw [←hS] at hso ⊢
 clear hS hLs hL
 obtain ⟨m,hm⟩ : ∃ m,m=S.length:=⟨_,rfl⟩
 rw [←hm]
 conv=>whnf
 refine zak (ι:=Nat×List Nat) (fun ⟨j,M⟩=>⟨[(7,.o (.w 8)),(15,.o (.w 9)),(76,.o (.w 8)),(77,.o (.v (.int .i64 m))),(78,.o (.v (.int .i64 j)))],[(8,.own zaV 4 m (rowV crC S)),(9,.own zen 1 M.length (rowV intC M))],[zaf A (rowV pcC ps)]⟩)
  (fun ⟨j,M⟩=>j≤m∧M=fstL (S.take j)) (fun ⟨j,M⟩=>m-j) (0,[]) ⟨Nat.zero_le _,rfl⟩
  ((SLe.nil 15 99 zen 1 rfl rfl).trans (SLe.mk (fun k=>bif Nat.beq k 9 then 99 else k) ⟨rfl,rfl,rfl,rfl,rfl,trivial⟩ ⟨⟨_,rfl,.refl _⟩,⟨_,rfl,.refl _⟩,trivial⟩ rfl (fun R hR=>hR))) ?_
 rintro ⟨j,M⟩ ⟨hj0,hM⟩
 have hMl : M.length≤j:=by rw [hM]; exact Nat.le_trans (ztP _) (by rw [List.length_take]; omega)
 conv=>whnf
 by_cases hjm : j<m
 rotate_left
 ·refine zae (decide_eq_false (show ¬(j : Int)<(m : Int) by omega)) ?_
  rw [List.take_of_length_le (by omega)] at hM
  conv=>whnf
  rw [←hM]
  exact ⟨9,rfl,rfl⟩
 refine zai (decide_eq_true (show (j : Int)<(m : Int) by omega)) ?_
 obtain ⟨x,hx⟩ : ∃ x,S[j]?=some x:=⟨_,List.getElem?_eq_getElem (by omega)⟩
 conv=>whnf
 refine ⟨by omega,?_⟩
 conv=>whnf
 refine zbU.elem crC zqN (k:=j) (by show (j : Int).toNat*4=j*4; rw [Int.toNat_natCast]) (by omega) (by decide) (fun h=>by cases h) ?_
 intro x' hx'
 obtain rfl : x'=x:=by rw [hx] at hx'; exact (Option.some.inj hx').symm
 conv=>whnf
 refine zaj.quiet (by kernel_rfl) ?_
 have hm0 : m≤1000:=by omega
 by_cases hj0' : j=0
 ·subst hj0'
  have hM0 : M=[]:=by rw [hM]; rfl
  have hft : fstL (S.take 1)=[x'.2]:=by
   cases S with
   | nil=>cases hx
   | cons a t=>obtain rfl : a=x':=Option.some.inj hx; obtain ⟨y,i⟩:=a; rfl
  conv=>whnf
  refine ⟨by show M.length+1≤9223372036854775807∧(M.length+1)*8≤140737488355328; omega,?_⟩
  conv=>whnf
  refine ⟨(1,M++[x'.2]),⟨by omega,by rw [hM0,hft]; rfl⟩,by show m-1<m-0; omega,SLe.mk (fun k=>bif Nat.beq k 9 then 100 else k) ⟨rfl,rfl,rfl,rfl,rfl,trivial⟩ ⟨⟨_,rfl,.refl _⟩,⟨_,rfl,?_⟩,trivial⟩ rfl (fun R hR=>hR)⟩
  rw [←int1]; simp only [List.length_append]; exact .refl _
 ·obtain ⟨y,hy⟩ : ∃ y,S[j-1]?=some y:=⟨_,List.getElem?_eq_getElem (by omega)⟩
  have hft : fstL (S.take (j+1))=M++(if y.1=x'.1 then [] else [x'.2]):=by
   rw [hM]; exact zye (by omega) hx hy
  have hwp : IntKind.i64.wrap ((j : Int)-1)=((j-1 : Nat) : Int):=by rw [wrap_i64 (by omega) (by omega)]; omega
  conv=>whnf
  rw [show ((j : Int)==0)=false from by rw [beq_eq_false_iff_ne]; omega]
  conv=>whnf
  refine ⟨by rw [hwp]; omega,?_⟩
  conv=>whnf
  refine ⟨by omega,?_⟩
  conv=>whnf
  refine zbU.fld (o:=0) crC zqN hy (by show (IntKind.i64.wrap ((j : Int)-1)).toNat*4+0=_; rw [hwp,Int.toNat_natCast]) (by decide) (by decide) (fun h=>by cases h) ?_
  conv=>whnf
  refine zah ?_ ?_ <;> intro h
  ·have hyx : ¬y.1=x'.1:=fun e=>by
    have h' : (!decide (Q y.1=Q x'.1))=true:=by rw [←eqR]; exact h
    rw [decide_eq_true (zo9.2 e)] at h'; cases h'
   rw [if_neg hyx] at hft
   conv=>whnf
   refine ⟨by show M.length+1≤9223372036854775807∧(M.length+1)*8≤140737488355328; omega,?_⟩
   conv=>whnf
   refine ⟨(j+1,M++[x'.2]),⟨by omega,hft.symm⟩,by show m-(j+1)<m-j; omega,SLe.mk (fun k=>bif Nat.beq k 9 then 100 else k) ⟨rfl,rfl,rfl,rfl,zan hjm (by omega),trivial⟩ ⟨⟨_,rfl,.refl _⟩,⟨_,rfl,?_⟩,trivial⟩ rfl (fun R hR=>hR)⟩
   rw [←int1]; simp only [List.length_append]; exact .refl _
  ·have hyx : y.1=x'.1:=zo9.1 (by
    have h' : (!decide (Q y.1=Q x'.1))=false:=by rw [←eqR]; exact h
    exact of_decide_eq_true (by simpa using h'))
   rw [if_pos hyx,List.append_nil] at hft
   conv=>whnf
   exact ⟨(j+1,M),⟨by omega,hft.symm⟩,by show m-(j+1)<m-j; omega,SLe.id ⟨rfl,rfl,rfl,rfl,zan hjm (by omega),trivial⟩ ⟨⟨_,rfl,.refl _⟩,⟨_,rfl,.refl _⟩,trivial⟩ (fun R hR=>hR)⟩
end Go.Sx
end
section
set_option maxRecDepth 10000
set_option maxHeartbeats 2000000
namespace Go.Sx
open Go Go.Proofs
theorem zBT {a b : V} : PQ a=PQ b↔a=b:=⟨fun h=>by rw [←PQ_v a,h,PQ_v],fun h=>by rw [h]⟩
theorem eqPV (p q : V) : (((PQ p).x.neg==(PQ q).x.neg&&((bs (PQ p).x.num).toList==(bs (PQ q).x.num).toList&&((bs (PQ p).x.den).toList==(bs (PQ q).x.den).toList&&((PQ p).y.neg==(PQ q).y.neg&&((bs (PQ p).y.num).toList==(bs (PQ q).y.num).toList&&((bs (PQ p).y.den).toList==(bs (PQ q).y.den).toList&&true)))))))=decide (p=q):=by
 have h1:=eqR (PQ p).x (PQ q).x
 have h2:=eqR (PQ p).y (PQ q).y
 simp only [Bool.and_true] at h1 h2
 rw [show ((PQ p).x.neg==(PQ q).x.neg&&((bs (PQ p).x.num).toList==(bs (PQ q).x.num).toList&&((bs (PQ p).x.den).toList==(bs (PQ q).x.den).toList&&((PQ p).y.neg==(PQ q).y.neg&&((bs (PQ p).y.num).toList==(bs (PQ q).y.num).toList&&((bs (PQ p).y.den).toList==(bs (PQ q).y.den).toList&&true))))))
  = (((PQ p).x.neg==(PQ q).x.neg&&((bs (PQ p).x.num).toList==(bs (PQ q).x.num).toList&&((bs (PQ p).x.den).toList==(bs (PQ q).x.den).toList)))&&((PQ p).y.neg==(PQ q).y.neg&&((bs (PQ p).y.num).toList==(bs (PQ q).y.num).toList&&((bs (PQ p).y.den).toList==(bs (PQ q).y.den).toList)))) from by simp only [Bool.and_true,Bool.and_assoc],h1,h2,←Bool.decide_and]
 refine decide_eq_decide.2 ⟨fun h=>?_,fun h=>by rw [h]; exact ⟨rfl,rfl⟩⟩
 have e1:=zo9.1 h.1
 have e2:=zo9.1 h.2
 cases p; cases q; simp only at e1 e2; rw [e1,e2]
def pcsO (lo hi : V) (e : V×V) (i : Nat) : Option Pc:=match zdb ⟨PQ lo,PQ hi⟩ e.1 e.2 with
 | none=>none
 | some (c,d)=>if c=d then none else some ⟨(ordV c d).1,(ordV c d).2,i⟩
def pcsF (lo hi : V) : Nat→List (V×V)→List Pc
 | _,[]=>[]
 | i,e::r=>(pcsO lo hi e i).toList++pcsF lo hi (i+1) r
def pcsL (lo hi : V) (E : List (V×V)) : List Pc:=pcsF lo hi 0 E
theorem zn6 (lo hi : V) : ∀ (i : Nat) (l r : List (V×V)),pcsF lo hi i (l++r)=pcsF lo hi i l++pcsF lo hi (i+l.length) r
 | i,[],r=>rfl
 | i,e::l,r=>by simp only [List.cons_append,pcsF,zn6 lo hi (i+1) l r,List.append_assoc,List.length_cons]; congr 3; omega
theorem zxo {lo hi : V} {E : List (V×V)} {i : Nat} {e : V×V} (h : E[i]?=some e) : pcsL lo hi (E.take (i+1))=pcsL lo hi (E.take i)++(pcsO lo hi e i).toList:=by
 have hlt:=(List.getElem?_eq_some_iff.1 h).1
 rw [pcsL,zaE h,zn6,List.length_take,Nat.min_eq_left (by omega),Nat.zero_add]
 show _=pcsF lo hi 0 _++_
 congr 1; simp [pcsF]
theorem znf (lo hi : V) : ∀ (i : Nat) (l : List (V×V)),(pcsF lo hi i l).length≤l.length
 | i,[]=>Nat.le_refl _
 | i,e::r=>by
  have:=znf lo hi (i+1) r
  simp only [pcsF,List.length_append,List.length_cons]
  cases pcsO lo hi e i <;> simp <;> omega
theorem zvK {k : Nat} {a b : V} (ha : SzV k a) (hb : SzV k b) : SzV k (ordV a b).1∧SzV k (ordV a b).2:=by
 unfold ordV; split
 ·exact ⟨hb,ha⟩
 ·exact ⟨ha,hb⟩
theorem zw0 {a b : V} (h : a≠b) : (ordV a b).1≠(ordV a b).2:=by
 unfold ordV; split
 ·exact h.symm
 ·exact h
theorem Bx.szs {lo hi : V} (hlo : SzV K0 lo) (hhi : SzV K0 hi) : (⟨PQ lo,PQ hi⟩ : Bx).sm K0:=⟨hlo.q,hhi.q⟩
theorem znA {lo hi a b c d : V} (hlo : SzV K0 lo) (hhi : SzV K0 hi) (ha : SzV K0 a) (hb : SzV K0 b) (h : zdb ⟨PQ lo,PQ hi⟩ a b=some (c,d)) : SzV KP c∧SzV KP d:=by
 unfold zdb at h
 split at h
 ·cases h
 ·rename_i l t hc
  split at h
  ·cases h
  ·cases h
   obtain ⟨z1,z2⟩:=znx (Bx.szs hlo hhi) ha hb 4 l t hc
   have k:=fun (t : Rat) (z : Sz 605 t)=>((ha.add ((hb.sub ha).scale z)).le (show K0+(K0+K0+1+605)+1≤KP by decide))
   exact ⟨k _ z1,k _ z2⟩
theorem zzW {lo hi : V} {e : V×V} {i : Nat} {p : Pc} (hlo : SzV K0 lo) (hhi : SzV K0 hi) (he : SzV K0 e.1∧SzV K0 e.2) (h : pcsO lo hi e i=some p) : p.sm KP∧p.a≠p.b:=by
 unfold pcsO at h
 split at h
 ·cases h
 ·rename_i c d hc
  split at h
  ·cases h
  ·rename_i hcd
   cases h
   obtain ⟨z1,z2⟩:=znA hlo hhi he.1 he.2 hc
   exact ⟨zvK z1 z2,zw0 hcd⟩
theorem zw4 {lo hi : V} {E : List (V×V)} (hlo : SzV K0 lo) (hhi : SzV K0 hi) (hE : ∀ e∈E,SzV K0 e.1∧SzV K0 e.2) : zmD (pcsL lo hi E):=by
 have : ∀ (l : List (V×V)) (i : Nat),(∀ e∈l,SzV K0 e.1∧SzV K0 e.2)→zmD (pcsF lo hi i l):=fun l=>by
  induction l with
  | nil=>intro i _ p hp; cases hp
  | cons e r ih =>
   intro i h p hp
   rcases List.mem_append.1 hp with hp | hp
   ·cases ho : pcsO lo hi e i with
    | none=>rw [ho] at hp; cases hp
    | some q=>rw [ho] at hp; obtain rfl:=List.mem_singleton.1 hp; exact zzW hlo hhi (h e (List.mem_cons_self ..)) ho
   ·exact ih (i+1) (fun e he=>h e (List.mem_cons_of_mem _ he)) p hp
 exact this E 0 hE
abbrev sgq (e : V×V) : List Value:=sgC (PQ e.1,PQ e.2)
theorem zaN (e : V×V) : (sgq e).length=12:=rfl
theorem pc1 (L : List Pc) (x : Pc) : app (rowV pcC L) (pcC x)=rowV pcC (L++[x]):=by
 rw [za1,zaC]; simp [rowV]
theorem zxZ (lo hi : V) (A : Option Addr) (c : Nat) (E : List (V×V)) (hlo : SzV K0 lo) (hhi : SzV K0 hi) (hx : lo.x≤hi.x) (hy : lo.y≤hi.y) (hE : ∀ e∈E,(SzV K0 e.1∧SzV K0 e.2)∧e.1≠e.2) (hl : E.length≤400) :
  FnM PP zoH [bxV ⟨PQ lo,PQ hi⟩,.slice A E.length c] (facts [zaf A (rowV sgq E)]) (zdn zfe 13 (pcsL lo hi E).length (rowV pcC (pcsL lo hi E))):=by
 refine FnO.of zab mixed zti rfl rfl (Nat.le_of_ble_eq_true rfl) (by simp [zaf.ok]) ?_
 intro w hw
 obtain ⟨n,hn⟩ : ∃ n,n=E.length:=⟨_,rfl⟩
 have hA : 0<n→A.isSome=true:=fun h=>zap (zaK hw) (by rw [zag zaN]; omega)
 rw [←hn] at hl ⊢
 conv=>whnf
 refine zak (ι:=Nat×List Pc) (fun ⟨i,L⟩=>⟨[(2,.o (.p 2 0)),(5,.o (.w 6)),(11,.o (.v (.slice A n c))),(12,.o (.v (.int .i64 n))),(13,.o (.v (.int .i64 i)))],[(2,.box ((boxC ⟨PQ lo,PQ hi⟩).map AV.v) zaG),(6,.own zfe 13 L.length (rowV pcC L))],[zaf A (rowV sgq E)]⟩)
  (fun ⟨i,L⟩=>i≤n∧L=pcsL lo hi (E.take i)) (fun ⟨i,L⟩=>n-i) (0,[]) ⟨Nat.zero_le _,rfl⟩
  ((SLe.nil 5 6 zfe 13 rfl rfl).trans (SLe.id ⟨rfl,rfl,rfl,rfl,rfl,trivial⟩ ⟨⟨_,rfl,.refl _⟩,⟨_,rfl,.refl _⟩,trivial⟩ (fun R hR=>hR))) ?_
 rintro ⟨i,L⟩ ⟨hi0,hL⟩
 have hLl : L.length≤i:=by
  rw [hL]; exact Nat.le_trans (znf ..) (by rw [List.length_take]; omega)
 conv=>whnf
 by_cases hin : i<n
 rotate_left
 ·refine zae (decide_eq_false (show ¬(i : Int)<(n : Int) by omega)) ?_
  rw [List.take_of_length_le (by omega)] at hL
  conv=>whnf
  rw [←hL]
  exact ⟨6,rfl,rfl⟩
 refine zai (decide_eq_true (show (i : Int)<(n : Int) by omega)) ?_
 obtain ⟨e,he⟩ : ∃ e,E[i]?=some e:=⟨_,List.getElem?_eq_getElem (by omega)⟩
 have heo:=hE e (List.mem_of_getElem? he)
 have htk:=zxo (lo:=lo) (hi:=hi) he
 rw [←hL] at htk
 conv=>whnf
 refine ⟨⟨by omega,by omega,hA (by omega)⟩,?_⟩
 conv=>whnf
 refine zao.elem (A:=A) (xs:=E) (j:=(i : Int)) sgq zaN (List.mem_cons_self ..) rfl (by rw [Int.toNat_natCast]; omega) (by decide) (fun h=>by cases h) ?_
 intro e' he'
 obtain rfl : e'=e:=by rw [Int.toNat_natCast,he] at he'; exact (Option.some.inj he').symm
 conv=>whnf
 have hd : ¬zb5 ⟨PQ e'.1,PQ e'.2⟩:=fun h=>heo.2 (by have:=zca.1 h; simpa using this)
 have hcv : zr6 ⟨PQ e'.1,PQ e'.2⟩ ⟨PQ lo,PQ hi⟩=match zdb ⟨PQ lo,PQ hi⟩ e'.1 e'.2 with
   | none=>zxw 0
   | some (c,d)=>.tuple #[sV ⟨PQ c,PQ d⟩,.bool true,.int .i64 0]:=by
  rw [zr6,if_neg hd,if_neg (fun h=>h.elim (fun h=>absurd hx (Rat.not_le.2 (by rw [←Q_v lo.x,←Q_v hi.x]; exact h))) (fun h=>absurd hy (Rat.not_le.2 (by rw [←Q_v lo.y,←Q_v hi.y]; exact h)))),show (⟨PQ e'.1,PQ e'.2⟩ : Sg).A.v=e'.1 from PQ_v _,show (⟨PQ e'.1,PQ e'.2⟩ : Sg).B.v=e'.2 from PQ_v _]
  all_goals (cases zdb ⟨PQ lo,PQ hi⟩ e'.1 e'.2 <;> rfl)
 refine cf (zBp ⟨PQ e'.1,PQ e'.2⟩ ⟨PQ lo,PQ hi⟩ ⟨heo.1.1.q,heo.1.2.q⟩ (Bx.szs hlo hhi)) ?_
 rw [hcv]
 unfold pcsO at htk
 cases hcl : zdb ⟨PQ lo,PQ hi⟩ e'.1 e'.2 with
 | none =>
  rw [hcl] at htk
  conv=>whnf
  exact ⟨(i+1,L),⟨by omega,by rw [htk]; exact (List.append_nil _).symm⟩,by show n-(i+1)<n-i; omega,SLe.id ⟨rfl,rfl,rfl,rfl,zan hin (by omega),trivial⟩ ⟨⟨_,rfl,.refl _⟩,⟨_,rfl,.refl _⟩,trivial⟩ (fun R hR=>hR)⟩
 | some cd =>
  obtain ⟨c1,d1⟩:=cd
  rw [hcl] at htk
  conv=>whnf
  by_cases hcd : c1=d1
  ·refine zae (congrArg (!·) ((eqPV c1 d1).trans (decide_eq_true hcd))) ?_
   replace htk : pcsL lo hi (E.take (i+1))=L++[]:=by rw [htk]; show _++(if c1=d1 then none else some _).toList=_; rw [if_pos hcd]; rfl
   conv=>whnf
   exact ⟨(i+1,L),⟨by omega,by rw [htk]; exact (List.append_nil _).symm⟩,by show n-(i+1)<n-i; omega,SLe.id ⟨rfl,rfl,rfl,rfl,zan hin (by omega),trivial⟩ ⟨⟨_,rfl,.refl _⟩,⟨_,rfl,.refl _⟩,trivial⟩ (fun R hR=>hR)⟩
  refine zai (congrArg (!·) ((eqPV c1 d1).trans (decide_eq_false hcd))) ?_
  replace htk : pcsL lo hi (E.take (i+1))=L++[⟨(ordV c1 d1).1,(ordV c1 d1).2,i⟩]:=by rw [htk]; show _++(if c1=d1 then none else some _).toList=_; rw [if_neg hcd]; rfl
  obtain ⟨z1,z2⟩:=znA hlo hhi heo.1.1 heo.1.2 hcl
  have ho:=ztm ⟨PQ c1,PQ d1⟩ ⟨z1.q.le (by decide),z2.q.le (by decide)⟩
  rw [show (⟨PQ c1,PQ d1⟩ : Sg).A.v=c1 from PQ_v _,show (⟨PQ c1,PQ d1⟩ : Sg).B.v=d1 from PQ_v _] at ho
  conv=>whnf
  refine cf ho ?_
  conv=>whnf
  refine ⟨by show L.length+1≤9223372036854775807∧(L.length+1)*168≤140737488355328; omega,?_⟩
  conv=>whnf
  refine ⟨(i+1,L++[⟨(ordV c1 d1).1,(ordV c1 d1).2,i⟩]),⟨by omega,htk.symm⟩,by show n-(i+1)<n-i; omega,SLe.mk (fun k=>bif Nat.beq k 6 then 43 else k) ⟨rfl,rfl,rfl,rfl,zan hin (by omega),trivial⟩ ⟨⟨_,rfl,.refl _⟩,⟨_,rfl,?_⟩,trivial⟩ rfl (fun R hR=>hR)⟩
  rw [←pc1]; simp only [List.length_append]; exact .refl _
end Go.Sx
end
section
set_option maxRecDepth 10000
set_option maxHeartbeats 2000000
namespace Go.Sx
open Go Go.Proofs
structure Ln (α : Type) where
 A : Option Addr
 c : Nat
 xs : List α
abbrev Ln.V {α : Type} (l : Ln α) : Value:=.slice l.A l.xs.length l.c
abbrev Ln.C {α : Type} (l : Ln α) : List Value:=[l.V]
def Ln.R {α : Type} (f : α→List Value) (l : Ln α) : Res:=zaf l.A (rowV f l.xs)
theorem Ln.C_len {α : Type} (l : Ln α) : l.C.length=1:=rfl
abbrev ratQ (x : Rat) : List Value:=ratC (Q x)
theorem zaP (x : Rat) : (ratQ x).length=3:=rfl
theorem zsP (l : List Rat) : rowV ratC (l.map Q)=rowV ratQ l:=by rw [zgl]
structure Sl where
 lo : V
 hi : V
 sg : Ln (V×V)
 X : Ln Rat
 L : Ln (Ln Rat)
 S : Ln (Ln Nat)
def Sl.C (s : Sl) : List Value:=boxC ⟨PQ s.lo,PQ s.hi⟩++[s.sg.V,s.X.V,s.L.V,s.S.V]
abbrev Sl.V (s : Sl) : Value:=.agg ⟨s.C⟩
theorem Sl.C_len (s : Sl) : s.C.length=16:=rfl
def Sl.F (s : Sl) : List Res:=(s.L.xs.map (Ln.R ratQ)++s.S.xs.map (Ln.R intC))++[s.L.R Ln.C,s.S.R Ln.C,s.X.R ratQ,s.sg.R sgq]
def zbI (f : Rat→Rat→List Nat) : List Rat→List (List Nat)
 | x::y::r=>f x y::zbI f (y::r)
 | _=>[]
theorem zhd (f : Rat→Rat→List Nat) : ∀ (l : List Rat) (x y : Rat),zbI f (l++[x,y])=zbI f (l++[x])++[f x y]
 | [],x,y=>rfl
 | [a],x,y=>rfl
 | a::b::r,x,y=>by
  have:=zhd f (b::r) x y
  simp only [List.cons_append] at this ⊢
  simp only [zbI]
  rw [this]; rfl
theorem zf7 (f : Rat→Rat→List Nat) : ∀ (l : List Rat),(zbI f l).length=l.length-1
 | []=>rfl
 | [_]=>rfl
 | x::y::r=>by have:=zf7 f (y::r); simp only [zbI,List.length_cons,this]; omega
def Sl.is (s : Sl) : Prop:=s.X.xs=xsL s.lo s.hi (pcsL s.lo s.hi s.sg.xs)∧s.L.xs.map (·.xs)=s.X.xs.map (ysL s.lo s.hi (pcsL s.lo s.hi s.sg.xs))∧s.S.xs.map (·.xs)=zbI (zkL s.lo s.hi (pcsL s.lo s.hi s.sg.xs)) s.X.xs
def Sl.caps (s : Sl) : Prop:=s.X.xs.length≤s.X.c∧s.L.xs.length≤s.L.c∧s.S.xs.length≤s.S.c
theorem zzA {lo hi : V} {ps : List Pc} (hlo : SzV K0 lo) (hhi : SzV K0 hi) (hps : zmD ps) : ∀ x∈xsL lo hi ps,Sz KX x:=fun x hx=>by
 rw [xsL,zgm] at hx
 rcases List.mem_cons.1 hx with rfl | hx
 ·exact hlo.1.le (by decide)
 rcases List.mem_cons.1 hx with rfl | hx
 ·exact hhi.1.le (by decide)
 exact zs7 hps _ x hx
theorem znC (l : List Rat) : (ascL l).length≤l.length:=by rw [←zgd]; exact Nat.le_trans (ztq _) (Nat.le_of_eq (zdl l).length_eq)
theorem zAG {lo hi : V} {ps : List Pc} (hl : ps.length≤400) : (xsL lo hi ps).length≤400000:=by
 refine Nat.le_trans (znC _) ?_
 have:=zlk ps ps.length hl
 simp only [List.length_cons]; omega
abbrev nilV : Value:=.slice none 0 0
abbrev slZ : List Value:=boxC ⟨S0.A,S0.B⟩++[nilV,nilV,nilV,nilV]
abbrev zqg (lo hi : V) (E : List (V×V)) (A : Option Addr) (c : Nat) : Type:={ s : Sl // s.lo=lo∧s.hi=hi∧s.sg=⟨A,c,E⟩∧s.is∧s.caps }
def Sl.F' (s : Sl) : List Res:=(s.L.xs.map (Ln.R ratQ)++s.S.xs.map (Ln.R intC))++[s.L.R Ln.C,s.S.R Ln.C,s.X.R ratQ]
theorem FnE.ofS {P : Program} {T : TT} (hT : zaQ P T) (hmix : P.follows .mixedOrders=true) {f : FuncId} {fn : Func} {c : Code} {vs : List Value} {re : List Res} {ι : Type} {val : ι→Value} {rs : ι→List Res}
  (hf : P.funcs[f]? = some fn) (hb : fn.body = some c) (hnm : (fn.name == "runtime.NumGoroutine") = false) (hn : vs.length ≤ fn.ntmps) (hok : ∀ R ∈ re, R.ok)
  (hs : ∀ w,facts re w→WPS P ⟨w,[],fn.ntmps⟩ c ⟨zeS 0 (vsv vs),[],re⟩ (retQ T fn (fun l st=>zx5 val rs w l st))) : FnM P f vs (facts re) (zhU val rs):=by
 refine ⟨zeR hf hnm (by rw [hb]; rfl),fun w hw=>?_⟩
 have E0 : Env:=⟨fun _=>none,fun _=>(0,0)⟩
 have:=zcc (T:=T) hT hmix (E:=E0) hf hb (by
  have : ∀ l : List Value,(vsv l).length=l.length:=fun l=>by induction l with | nil=>rfl | cons x r ih=>simp [vsv,ih]
  rw [this]; exact hn) (zaT.init w [] fn.ntmps E0 hok hw) (hs w hw) (R:=zhU val rs w) (fun l st E' w' hp hm=>by
   obtain ⟨i,h1,h2,h3⟩:=hp _ _ _ hm
   exact ⟨i,by rw [h1],h2,h3,hm.ext.below⟩)
 rw [zbd] at this
 exact this
theorem ln1 {α : Type} (L : List (Ln α)) (x : Ln α) : app (rowV Ln.C L) x.C=rowV Ln.C (L++[x]):=by
 rw [za1,zaC]; simp [rowV]
theorem zv9 {a b c : List Res} {r R : Res} (h : R∈((a++[r])++b)++c) : R∈r::((a++b)++c):=by
 simp only [List.mem_append,List.mem_cons,List.not_mem_nil,or_false] at *
 rcases h with ((h | h) | h) | h <;> simp [h]
theorem zxQ {a b c : List Res} {r s R : Res} (h : R∈((a++[r])++(b++[s]))++c) : R∈s::r::((a++b)++c):=by
 simp only [List.mem_append,List.mem_cons,List.not_mem_nil,or_false] at *
 rcases h with ((h | h) | (h | h)) | h <;> simp [h]
theorem zsv (lo hi : V) (A : Option Addr) (c : Nat) (E : List (V×V)) (hlo : SzV K0 lo) (hhi : SzV K0 hi) (hx : lo.x<hi.x) (hy : lo.y<hi.y) (hE : ∀ e∈E,(SzV K0 e.1∧SzV K0 e.2)∧e.1≠e.2) (hl : E.length≤400) :
  FnM PP ze7 [bxV ⟨PQ lo,PQ hi⟩,.slice A E.length c] (facts [zaf A (rowV sgq E)]) (zhU (ι:=zqg lo hi E A c) (fun s=>.tuple #[s.1.V,.int .i64 0]) (fun s=>s.1.F')):=by
 refine FnE.ofS zab mixed zmm rfl rfl (Nat.le_of_ble_eq_true rfl) (by simp [zaf.ok]) ?_
 intro w hw
 obtain ⟨n,hn⟩ : ∃ n,n=E.length:=⟨_,rfl⟩
 have hA : 0<n→A.isSome=true:=fun h=>zap (zaK hw) (by rw [zag zaN]; omega)
 have hgood : (⟨PQ lo,PQ hi⟩ : Bx).good:=⟨zu8 _,zu8 _,by show (Q lo.x).v<(Q hi.x).v; rw [Q_v,Q_v]; exact hx,by show (Q lo.y).v<(Q hi.y).v; rw [Q_v,Q_v]; exact hy⟩
 have hvb:=zpG ⟨PQ lo,PQ hi⟩ ⟨hlo.q.le (by decide),hhi.q.le (by decide)⟩
 rw [decide_eq_true hgood] at hvb
 rw [←hn]
 refine WPS.peel zab mixed ?_
 conv=>whnf
 refine WPS.peel zab mixed ?_
 conv=>whnf
 refine cf hvb ?_
 conv=>whnf
 refine WPS.peel zab mixed ?_
 conv=>whnf
 refine zae (decide_eq_false (show ¬(n : Int)>(400 : Int) by omega)) ?_
 conv=>whnf
 refine WPS.peel zab mixed ?_
 conv=>whnf
 refine zak (ι:=Nat) (fun i=>⟨[(1,.o (.v (.slice A n c))),(2,.o (.p 2 0)),(4,.o (.p 4 0)),(20,.o (.v (.slice A n c))),(21,.o (.v (.int .i64 n))),(22,.o (.v (.int .i64 i)))],[(2,.box ((boxC ⟨PQ lo,PQ hi⟩).map AV.v) zaG),(4,.box (slZ.map AV.v) zaD)],[zaf A (rowV sgq E)]⟩)
  (fun i=>i≤n) (fun i=>n-i) 0 (Nat.zero_le _)
  (SLe.id ⟨rfl,rfl,rfl,rfl,rfl,rfl,trivial⟩ ⟨⟨_,rfl,.refl _⟩,⟨_,rfl,.refl _⟩,trivial⟩ (fun R hR=>hR)) ?_
 intro i hi0
 conv=>whnf
 by_cases hin : i<n
 ·refine zai (decide_eq_true (show (i : Int)<(n : Int) by omega)) ?_
  obtain ⟨e,he⟩ : ∃ e,E[i]?=some e:=⟨_,List.getElem?_eq_getElem (by omega)⟩
  have heo:=hE e (List.mem_of_getElem? he)
  have hca:=zh6 (PQ e.1) (heo.1.1.q.le (by decide))
  have hcb:=zh6 (PQ e.2) (heo.1.2.q.le (by decide))
  rw [if_pos (zu8 _)] at hca hcb
  conv=>whnf
  refine ⟨⟨by omega,by omega,hA (by omega)⟩,?_⟩
  conv=>whnf
  refine zao.elem (A:=A) (xs:=E) (j:=(i : Int)) sgq zaN (List.mem_cons_self ..) rfl (by rw [Int.toNat_natCast]; omega) (by decide) (fun h=>by cases h) ?_
  intro e' he'
  obtain rfl : e'=e:=by rw [Int.toNat_natCast,he] at he'; exact (Option.some.inj he').symm
  conv=>whnf
  refine cf hca ?_
  conv=>whnf
  refine cf hcb ?_
  conv=>whnf
  refine zae ((eqPV e'.1 e'.2).trans (decide_eq_false heo.2)) ?_
  conv=>whnf
  exact ⟨i+1,by show i+1≤n; omega,by show n-(i+1)<n-i; omega,SLe.id ⟨rfl,rfl,rfl,rfl,rfl,zan hin (by omega),trivial⟩ ⟨⟨_,rfl,.refl _⟩,⟨_,rfl,.refl _⟩,trivial⟩ (fun R hR=>hR)⟩
 refine zae (decide_eq_false (show ¬(i : Int)<(n : Int) by omega)) ?_
 conv=>whnf
 refine WPS.peel zab mixed ?_
 conv=>whnf
 refine zaj.quiet (by kernel_rfl) ?_
 conv=>whnf
 have hcl:=zxZ lo hi A c E hlo hhi (Rat.le_of_lt hx) (Rat.le_of_lt hy) hE hl
 rw [←hn] at hcl
 refine zad.o hcl.enters (zaB.facts hcl rfl (fun R h=>h)) ?_
 have hps : zmD (pcsL lo hi E):=zw4 hlo hhi (fun e he=>(hE e he).1)
 have hpl : (pcsL lo hi E).length≤400:=Nat.le_trans (znf ..) hl
 obtain ⟨ps,hpsd⟩ : ∃ ps,ps=pcsL lo hi E:=⟨_,rfl⟩
 rw [←hpsd] at hps hpl ⊢
 conv=>whnf
 refine WPS.ofX (SLX.freezeF 47 rfl (fun A2 cp hcp hfr=>SLX.here ?_))
 refine WPS.peel zab mixed ?_
 conv=>whnf
 refine zaj.quiet (by kernel_rfl) ?_
 conv=>whnf
 have hab:=zs3 lo hi A2 cp ps hlo hhi hps hpl hcp
 refine zad.o hab.enters (zaB.facts hab rfl (fun R h=>by rw [List.mem_singleton.1 h]; exact List.mem_cons_self ..)) ?_
 have hxs : ∀ x∈xsL lo hi ps,Sz KX x:=zzA hlo hhi hps
 have hxl : (xsL lo hi ps).length≤400000:=zAG hpl
 obtain ⟨X,hX⟩ : ∃ X,X=xsL lo hi ps:=⟨_,rfl⟩
 rw [←hX] at hxs hxl ⊢
 rw [zsP]
 conv=>whnf
 refine WPS.ofX (SLX.freezeF 52 rfl (fun AX cX hcX hfX=>SLX.here ?_))
 refine WPS.pure (p:=0<X.length→AX.isSome=true) (fun w' hR h=>zap (hR _ (List.mem_cons_self ..)) (by rw [zag zaP]; omega)) (fun hAX=>?_)
 refine WPS.peel zab mixed ?_
 conv=>whnf
 obtain ⟨nx,hnx⟩ : ∃ nx,nx=X.length:=⟨_,rfl⟩
 obtain ⟨m,hm⟩ : ∃ m,m=ps.length:=⟨_,rfl⟩
 rw [←hnx] at hcX hxl hAX ⊢
 rw [←hm] at hcp ⊢
 refine zak (ι:=Nat×List (Ln Rat)×List (Ln Nat)) (fun ⟨i,LS,SS⟩=>⟨[(4,.o (.p 4 0)),(8,.o (.p 8 0)),(9,.o (.p 9 0)),(55,.o (.v (.slice AX nx cX))),(56,.o (.v (.int .i64 nx))),(57,.o (.v (.int .i64 i)))],
   [(4,.box (slZ.map AV.v) zaD),(8,bldM lo hi A2 m cp),(9,.box ((boxC ⟨PQ lo,PQ hi⟩++[Value.slice A n c,Value.slice AX nx cX]).map AV.v++[.w 3,.w 6]) zaD),(3,.own zcP 1 LS.length (rowV Ln.C LS)),(6,.own zhW 1 SS.length (rowV Ln.C SS))],
   (LS.map (Ln.R ratQ)++SS.map (Ln.R intC))++[zaf AX (rowV ratQ X),zaf A2 (rowV pcC ps),zaf A (rowV sgq E)]⟩)
  (fun ⟨i,LS,SS⟩=>i≤nx∧LS.map (·.xs)=(X.take i).map (ysL lo hi ps)∧SS.map (·.xs)=zbI (zkL lo hi ps) (X.take i)∧(∀ l∈LS,Fr w l.A)∧(∀ l∈SS,Fr w l.A)) (fun ⟨i,_,_⟩=>nx-i) (0,[],[]) ⟨Nat.zero_le _,rfl,rfl,(fun l h=>by cases h),(fun l h=>by cases h)⟩
  ((SLe.nilB 9 3 zcP 1 (cs:=(boxC ⟨PQ lo,PQ hi⟩++[Value.slice A n c,Value.slice AX nx cX]).map AV.v) (ds:=[.v nilV]) rfl rfl).trans ((SLe.nilB 9 6 zhW 1 (cs:=(boxC ⟨PQ lo,PQ hi⟩++[Value.slice A n c,Value.slice AX nx cX]).map AV.v++[.w 3]) (ds:=[]) rfl rfl).trans
   (SLe.id ⟨rfl,rfl,rfl,rfl,rfl,rfl,trivial⟩ ⟨⟨_,rfl,.refl _⟩,⟨_,rfl,.refl _⟩,⟨_,rfl,.refl _⟩,⟨_,rfl,.refl _⟩,⟨_,rfl,.refl _⟩,trivial⟩ (fun R hR=>hR)))) ?_
 rintro ⟨i,LS,SS⟩ ⟨hi0,hLS,hSS,hFL,hFS⟩
 have hLl : LS.length=i:=by have:=congrArg List.length hLS; simp only [List.length_map,List.length_take] at this; omega
 have hSl : SS.length=i-1:=by have:=congrArg List.length hSS; rw [zf7] at this; simp only [List.length_map,List.length_take] at this; omega
 conv=>whnf
 by_cases hin : i<nx
 rotate_left
 ·refine zae (decide_eq_false (show ¬(i : Int)<(nx : Int) by omega)) ?_
  rw [List.take_of_length_le (by omega)] at hLS hSS
  conv=>whnf
  refine WPS.of zab mixed ?_
  conv=>whnf
  intro N E1 w' hm
  obtain ⟨AL,cL,hrL,hnL,hsL,hfL⟩:=hm.frz (k:=3) rfl
  obtain ⟨AS,cS,hrS,hnS,hsS,hfS⟩:=hm.frz (k:=6) rfl
  refine ⟨⟨⟨lo,hi,⟨A,c,E⟩,⟨AX,cX,X⟩,⟨AL,cL,LS⟩,⟨AS,cS,SS⟩⟩,rfl,rfl,rfl,⟨hpsd▸hX,hpsd▸hLS,hpsd▸hSS⟩,⟨by rw [←hnx]; exact hcX,hnL,hnS⟩⟩,?_,?_,?_⟩
  ·show Value.tuple #[.agg ⟨boxC ⟨PQ lo,PQ hi⟩++[Value.slice A n c,Value.slice AX nx cX,(AV.w 3).real E1,(AV.w 6).real E1]⟩,.int .i64 0]=Value.tuple #[.agg ⟨boxC ⟨PQ lo,PQ hi⟩++[Value.slice A E.length c,Value.slice AX X.length cX,Value.slice AL LS.length cL,Value.slice AS SS.length cS]⟩,.int .i64 0]
   rw [hrL,hrS,←hnx,←hn]
  ·intro R hR
   rcases List.mem_append.1 hR with hR | hR
   ·exact (hm.res R (List.mem_append_left _ hR)).2.1
   ·simp only [List.mem_cons,List.not_mem_nil,or_false] at hR
    rcases hR with rfl | rfl | rfl
    ·exact hsL
    ·exact hsS
    ·exact (hm.res _ (List.mem_append_right _ (List.mem_cons_self ..))).2.1
  ·intro R hR
   rcases List.mem_append.1 hR with hR | hR
   ·rcases List.mem_append.1 hR with hR | hR
    ·obtain ⟨l,hl',rfl⟩:=List.mem_map.1 hR; exact Fr.bs (hFL l hl')
    ·obtain ⟨l,hl',rfl⟩:=List.mem_map.1 hR; exact Fr.bs (hFS l hl')
   ·simp only [List.mem_cons,List.not_mem_nil,or_false] at hR
    rcases hR with rfl | rfl | rfl
    ·exact Fr.bs hfL
    ·exact Fr.bs hfS
    ·exact Fr.bs hfX
 refine zai (decide_eq_true (show (i : Int)<(nx : Int) by omega)) ?_
 obtain ⟨x,hxi⟩ : ∃ x,X[i]?=some x:=⟨_,List.getElem?_eq_getElem (by omega)⟩
 have hxz:=hxs x (List.mem_of_getElem? hxi)
 conv=>whnf
 refine ⟨⟨by omega,by omega,hAX (by omega)⟩,?_⟩
 conv=>whnf
 refine zao.elem (A:=AX) (xs:=X) (j:=(i : Int)) ratQ zaP (List.mem_append_right _ (List.mem_cons_self ..)) rfl (by rw [Int.toNat_natCast]; omega) (by decide) (fun h=>by cases h) ?_
 intro x' hx'
 obtain rfl : x'=x:=by rw [Int.toNat_natCast,hxi] at hx'; exact (Option.some.inj hx').symm
 conv=>whnf
 refine zaj.quiet (by kernel_rfl) ?_
 conv=>whnf
 have hor:=zs5 lo hi A2 cp ps x' hlo hhi hps hxz hpl
 rw [←hm,zsP] at hor
 refine zad.o hor.enters (zaB.facts hor rfl (fun R h=>by rw [List.mem_singleton.1 h]; exact List.mem_append_right _ (List.mem_cons_of_mem _ (List.mem_cons_self ..)))) ?_
 obtain ⟨Y,hY⟩ : ∃ Y,Y=ysL lo hi ps x':=⟨_,rfl⟩
 rw [←hY]
 conv=>whnf
 refine zmj.of (SLX.freezeF 66 rfl (fun AY cY hcY hfY=>SLX.here ?_))
 conv=>whnf
 refine ⟨by show LS.length+1≤9223372036854775807∧(LS.length+1)*24≤140737488355328; omega,?_⟩
 conv=>whnf
 have hLS' : (LS++[(⟨AY,cY,Y⟩ : Ln Rat)]).map (·.xs)=(X.take (i+1)).map (ysL lo hi ps):=by
  rw [zaE hxi,List.map_append,List.map_append,hLS,hY]; rfl
 have hFL' : ∀ l∈LS++[(⟨AY,cY,Y⟩ : Ln Rat)],Fr w l.A:=fun l h=>by
  rcases List.mem_append.1 h with h | h
  ·exact hFL l h
  ·rw [List.mem_singleton.1 h]; exact hfY
 by_cases hi1 : 0<i
 rotate_left
 ·refine zae (decide_eq_false (show ¬(i : Int)>0 by omega)) ?_
  conv=>whnf
  have hSS' : SS.map (·.xs)=zbI (zkL lo hi ps) (X.take (i+1)):=by
   obtain rfl : i=0:=by omega
   rw [hSS,zaE hxi]; rfl
  refine ⟨(i+1,LS++[⟨AY,cY,Y⟩],SS),⟨by omega,hLS',hSS',hFL',hFS⟩,by show nx-(i+1)<nx-i; omega,SLe.mk (fun k=>bif Nat.beq k 3 then 68 else k) ⟨rfl,rfl,rfl,rfl,rfl,zan hin (by omega),trivial⟩ ⟨⟨_,rfl,.refl _⟩,⟨_,rfl,.refl _⟩,⟨_,rfl,.refl _⟩,⟨_,rfl,?_⟩,⟨_,rfl,.refl _⟩,trivial⟩ rfl (fun R hR=>?_)⟩
  ·rw [←ln1]; simp only [List.length_append]; exact .refl _
  ·exact zv9 (by rw [show List.map (Ln.R ratQ) LS++[zaf AY (rowV ratQ Y)]=List.map (Ln.R ratQ) (LS++[⟨AY,cY,Y⟩]) from by rw [List.map_append]; rfl]; exact hR)
 refine zai (decide_eq_true (show (i : Int)>0 by omega)) ?_
 have hw1 : IntKind.i64.wrap ((i : Int)-1)=((i-1 : Nat) : Int):=by rw [wrap_i64 (by omega) (by omega)]; omega
 obtain ⟨z,hzi⟩ : ∃ z,X[i-1]?=some z:=⟨_,List.getElem?_eq_getElem (by omega)⟩
 have hzz:=hxs z (List.mem_of_getElem? hzi)
 conv=>whnf
 refine zaj.quiet (by kernel_rfl) ?_
 conv=>whnf
 refine ⟨⟨by rw [hw1]; omega,by rw [hw1]; omega,hAX (by omega)⟩,?_⟩
 conv=>whnf
 refine zao.elem (A:=AX) (xs:=X) (j:=((i-1 : Nat) : Int)) ratQ zaP (List.mem_cons_of_mem _ (List.mem_append_right _ (List.mem_cons_self ..))) (by rw [hw1]) (by rw [Int.toNat_natCast]; omega) (by decide) (fun h=>by cases h) ?_
 intro z' hz'
 obtain rfl : z'=z:=by rw [Int.toNat_natCast,hzi] at hz'; exact (Option.some.inj hz').symm
 conv=>whnf
 have hst:=zwa lo hi A2 cp ps z' x' hlo hhi hps hzz hxz hpl
 rw [←hm] at hst
 refine zad.o hst.enters (zaB.facts hst rfl (fun R h=>by rw [List.mem_singleton.1 h]; exact List.mem_cons_of_mem _ (List.mem_append_right _ (List.mem_cons_of_mem _ (List.mem_cons_self ..))))) ?_
 obtain ⟨T,hT⟩ : ∃ T,T=zkL lo hi ps z' x':=⟨_,rfl⟩
 rw [←hT]
 conv=>whnf
 refine zmj.of (SLX.freezeF 82 rfl (fun AT cT hcT hfT=>SLX.here ?_))
 conv=>whnf
 refine ⟨by show SS.length+1≤9223372036854775807∧(SS.length+1)*24≤140737488355328; omega,?_⟩
 conv=>whnf
 have hSS' : (SS++[(⟨AT,cT,T⟩ : Ln Nat)]).map (·.xs)=zbI (zkL lo hi ps) (X.take (i+1)):=by
  have e1 : X.take i=X.take (i-1)++[z']:=by have:=zaE hzi; rwa [show i-1+1=i by omega] at this
  rw [zaE hxi,e1,List.append_assoc,show [z']++[x']=[z',x'] from rfl,zhd,←e1,List.map_append,hSS,hT]; rfl
 have hFS' : ∀ l∈SS++[(⟨AT,cT,T⟩ : Ln Nat)],Fr w l.A:=fun l h=>by
  rcases List.mem_append.1 h with h | h
  ·exact hFS l h
  ·rw [List.mem_singleton.1 h]; exact hfT
 refine ⟨(i+1,LS++[⟨AY,cY,Y⟩],SS++[⟨AT,cT,T⟩]),⟨by omega,hLS',hSS',hFL',hFS'⟩,by show nx-(i+1)<nx-i; omega,SLe.mk (fun k=>bif Nat.beq k 3 then 68 else bif Nat.beq k 6 then 84 else k) ⟨rfl,rfl,rfl,rfl,rfl,zan hin (by omega),trivial⟩ ⟨⟨_,rfl,.refl _⟩,⟨_,rfl,.refl _⟩,⟨_,rfl,.refl _⟩,⟨_,rfl,?_⟩,⟨_,rfl,?_⟩,trivial⟩ rfl (fun R hR=>?_)⟩
 ·rw [←ln1]; simp only [List.length_append]; exact .refl _
 ·rw [←ln1]; simp only [List.length_append]; exact .refl _
 ·exact zxQ (by rw [show List.map (Ln.R ratQ) LS++[zaf AY (rowV ratQ Y)]=List.map (Ln.R ratQ) (LS++[⟨AY,cY,Y⟩]) from by rw [List.map_append]; rfl,show List.map (Ln.R intC) SS++[zaf AT (rowV intC T)]=List.map (Ln.R intC) (SS++[⟨AT,cT,T⟩]) from by rw [List.map_append]; rfl]; exact hR)
end Go.Sx
end
section
set_option maxRecDepth 10000
set_option maxHeartbeats 2000000
namespace Go.Sx
open Go Go.Proofs
def segE : List (Pt×Pt)→Int
 | []=>0
 | e::r=>if ¬(e.1.ok∧e.2.ok) then 1 else if e.1=e.2 then 12 else segE r
def bldE (b : Bx) (l : List (Pt×Pt)) : Int:=if ¬b.good then 1 else if 400<l.length then 4 else segE l
theorem zrW {l : List (Pt×Pt)} : ∀ {i : Nat} {e : Pt×Pt},l[i]?=some e→segE (l.drop i)=if ¬(e.1.ok∧e.2.ok) then 1 else if e.1=e.2 then 12 else segE (l.drop (i+1)):=fun {i e} h=>by
 have h1:=List.drop_eq_getElem_cons (List.getElem?_eq_some_iff.1 h).1
 rw [(List.getElem?_eq_some_iff.1 h).2] at h1
 rw [h1]; rfl
theorem zsB : ∀ {l : List (Pt×Pt)},segE l=0→∃ E : List (V×V),l=E.map (fun e=>(PQ e.1,PQ e.2))∧∀ e∈E,e.1≠e.2
 | [],_=>⟨[],rfl,fun e h=>by cases h⟩
 | e::r,h=>by
  unfold segE at h
  split at h
  ·cases h
  ·rename_i h1
   split at h
   ·cases h
   ·rename_i h2
    have h1:=Classical.not_not.1 h1
    obtain ⟨E,h3,h4⟩:=zsB h
    refine ⟨(e.1.v,e.2.v)::E,?_,?_⟩
    ·rw [List.map_cons,←h3,←Pt.ok_eq h1.1,←Pt.ok_eq h1.2]
    ·intro x hx
     rcases List.mem_cons.1 hx with rfl | hx
     ·intro k; exact h2 (by rw [Pt.ok_eq h1.1,Pt.ok_eq h1.2]; exact zBT.2 k)
     ·exact h4 x hx
theorem zsC {b : Bx} {l : List (Pt×Pt)} (h : bldE b l=0) : ∃ (lo hi : V) (E : List (V×V)),b=⟨PQ lo,PQ hi⟩∧lo.x<hi.x∧lo.y<hi.y∧l=E.map (fun e=>(PQ e.1,PQ e.2))∧(∀ e∈E,e.1≠e.2)∧E.length≤400:=by
 unfold bldE at h
 split at h
 ·cases h
 ·rename_i h1
  split at h
  ·cases h
  ·rename_i h2
   obtain ⟨h3,h4,h5,h6⟩:=Classical.not_not.1 h1
   obtain ⟨E,h7,h8⟩:=zsB h
   refine ⟨b.lo.v,b.hi.v,E,?_,h5,h6,h7,h8,?_⟩
   ·rw [←Pt.ok_eq h3,←Pt.ok_eq h4]
   ·rw [h7,List.length_map] at h2; omega
theorem zu4 (b : Bx) (A : Option Addr) (c : Nat) (l : List (Pt×Pt)) (hb : b.sm K0) (hl : ∀ e∈l,e.1.sm K0∧e.2.sm K0) (hn : l.length≤1000) (he : bldE b l≠0) :
  FnM PP ze7 [bxV b,.slice A l.length c] (facts [zaf A (rowV sgC l)]) (zbu (.tuple #[.agg ⟨slZ⟩,.int .i64 (bldE b l)])):=by
 refine FnS.of zab mixed zmm rfl rfl (Nat.le_of_ble_eq_true rfl) (by simp [zaf.ok]) ?_
 intro w hw
 obtain ⟨n,hnd⟩ : ∃ n,n=l.length:=⟨_,rfl⟩
 have hA : 0<n→A.isSome=true:=fun h=>zap (zaK hw) (by rw [zag zdW]; omega)
 have hvb:=zpG b ⟨hb.1.le (by decide),hb.2.le (by decide)⟩
 have hE : bldE b l=if ¬b.good then 1 else if 400<n then 4 else segE l:=by rw [bldE,hnd]
 rw [←hnd] at hn ⊢
 conv=>whnf
 refine cf hvb ?_
 by_cases hg : b.good
 rotate_left
 ·rw [decide_eq_false hg]
  rw [if_pos hg] at hE
  conv=>whnf
  rw [hE]
  exact zas rfl
 rw [decide_eq_true hg]
 rw [if_neg (fun h=>h hg)] at hE
 conv=>whnf
 by_cases h4 : 400<n
 ·refine zai (decide_eq_true (show (n : Int)>(400 : Int) by omega)) ?_
  rw [if_pos h4] at hE
  conv=>whnf
  rw [hE]
  exact zas rfl
 refine zae (decide_eq_false (show ¬(n : Int)>(400 : Int) by omega)) ?_
 rw [if_neg h4] at hE
 conv=>whnf
 refine zak (ι:=Nat) (fun i=>⟨[(4,.o (.p 4 0)),(20,.o (.v (.slice A n c))),(21,.o (.v (.int .i64 n))),(22,.o (.v (.int .i64 i)))],[(4,.box (slZ.map AV.v) zaD)],[zaf A (rowV sgC l)]⟩)
  (fun i=>i≤n∧segE (l.drop i)=segE l) (fun i=>n-i) 0 ⟨Nat.zero_le _,rfl⟩
  (SLe.id ⟨rfl,rfl,rfl,rfl,trivial⟩ ⟨⟨_,rfl,.refl _⟩,trivial⟩ (fun R hR=>hR)) ?_
 rintro i ⟨hi0,hd⟩
 conv=>whnf
 by_cases hin : i<n
 rotate_left
 ·exfalso
  rw [List.drop_of_length_le (by omega)] at hd
  exact he (by rw [hE,←hd]; rfl)
 refine zai (decide_eq_true (show (i : Int)<(n : Int) by omega)) ?_
 obtain ⟨e,hee⟩ : ∃ e,l[i]?=some e:=⟨_,List.getElem?_eq_getElem (by omega)⟩
 have heo:=hl e (List.mem_of_getElem? hee)
 have hca:=zh6 e.1 (heo.1.le (by decide))
 have hcb:=zh6 e.2 (heo.2.le (by decide))
 rw [zrW hee] at hd
 conv=>whnf
 refine ⟨⟨by omega,by omega,hA (by omega)⟩,?_⟩
 conv=>whnf
 refine zao.elem (A:=A) (xs:=l) (j:=(i : Int)) sgC zdW (List.mem_cons_self ..) rfl (by rw [Int.toNat_natCast]; omega) (by decide) (fun h=>by cases h) ?_
 intro e' he'
 obtain rfl : e'=e:=by rw [Int.toNat_natCast,hee] at he'; exact (Option.some.inj he').symm
 conv=>whnf
 refine cf hca ?_
 by_cases h1 : e'.1.ok
 rotate_left
 ·rw [if_pos (fun h=>h1 h.1)] at hd
  rw [if_neg h1]
  conv=>whnf
  rw [hE,←hd]
  exact zas rfl
 rw [if_pos h1]
 conv=>whnf
 refine cf hcb ?_
 by_cases h2 : e'.2.ok
 rotate_left
 ·rw [if_pos (fun h=>h2 h.2)] at hd
  rw [if_neg h2]
  conv=>whnf
  rw [hE,←hd]
  exact zas rfl
 rw [if_pos h2]
 rw [if_neg (fun h=>h ⟨h1,h2⟩)] at hd
 have hq1:=Pt.ok_eq h1
 have hq2:=Pt.ok_eq h2
 conv=>whnf
 by_cases h3 : e'.1=e'.2
 ·rw [if_pos h3] at hd
  refine zai (by rw [hq1,hq2]; exact (eqPV e'.1.v e'.2.v).trans (decide_eq_true (by rw [h3]))) ?_
  conv=>whnf
  rw [hE,←hd]
  exact zas rfl
 rw [if_neg h3] at hd
 refine zae (by rw [hq1,hq2]; exact (eqPV e'.1.v e'.2.v).trans (decide_eq_false (fun k=>h3 (by rw [hq1,hq2,k])))) ?_
 conv=>whnf
 exact ⟨i+1,⟨by omega,hd⟩,by show n-(i+1)<n-i; omega,SLe.id ⟨rfl,rfl,rfl,zan hin (by omega),trivial⟩ ⟨⟨_,rfl,.refl _⟩,trivial⟩ (fun R hR=>hR)⟩
end Go.Sx
end
section
set_option maxRecDepth 10000
set_option maxHeartbeats 2000000
namespace Go.Sx
open Go Go.Proofs
section
variable {P : Program} {C : Cx} {st : SS}
theorem zac.f1F {g g' : FuncId} {args : List SV} {c1 : List Value} {K : SV→SS→Prop} (hE : Enters P g) (h : zaB P g args st (zpw g' [c1]))
  (hk : ∀ a1,Fr C.W0 (some a1)→K (.o (.v (.func (.func g') #[] ⟨[ptrV a1]⟩))) { st with re:=zaf (some a1) c1::st.re }) : zac P C g args st K:=by
 refine ⟨hE,fun E w hm=>(h E w (fun k mm _ hk=>hm.ent k mm hk) (fun R hR=>(hm.res R hR).2.1)).mono ?_⟩
 rintro e w' ⟨av,hlen,rfl,hcs,hb⟩
 obtain ⟨a1,rfl⟩ : ∃ a1,av=[a1]:=by
  match av,hlen with
  | [a],_=>exact ⟨a,rfl⟩
 obtain ⟨f1,n1⟩:=hcs 0 a1 c1 rfl rfl
 have hm':=hm.world (st:=st) hb
 refine ⟨E,{ st with re:=zaf (some a1) c1::st.re },.o (.v (.func (.func g') #[] ⟨[ptrV a1]⟩)),rfl,hm'.more (zaf.ok _ _) f1 (fun b hb' k m hkk hβ=>?_),KD.below hb,fun i sv hi=>⟨sv,hi,rfl⟩,hk a1 (fun a ha=>by cases ha; exact Nat.le_trans hm.ext.size n1)⟩
 have h1:=zlp hb'
 have:=(hm.ge k m b hkk hβ).2
 omega
end
theorem znD (d : Int) : FnM PP zi4 [.int .i64 d] (facts []) (zpw zbP [[.int .i64 d]]):=by
 refine FnF.of zab mixed zo7 rfl rfl (Nat.le_of_ble_eq_true rfl) (by simp) ?_
 intro w hw
 conv=>whnf
 exact zru rfl
theorem znE (d : Int) : FnM PP zji [.int .i64 d] (facts []) (zpw zbM [[.int .i64 d]]):=by
 refine FnF.of zab mixed zoU rfl rfl (Nat.le_of_ble_eq_true rfl) (by simp) ?_
 intro w hw
 conv=>whnf
 exact zru rfl
abbrev clo1 (g : FuncId) (a : Addr) : Value:=.func (.func g) #[] ⟨[ptrV a]⟩
abbrev zmU (a1 a2 a3 a4 : Addr) : List Value:=[clo1 zbP a1,fnV zpj,fnV zo4,clo1 zbP a2,fnV zpv,fnV zpf,
 clo1 zbM a3,fnV zo8,fnV zoW,clo1 zbM a4,fnV zqr,fnV zoP]
abbrev zA3 (a1 a2 a3 a4 : Addr) : List Res:=[zaf (some a4) [.int .i64 1],zaf (some a3) [.int .i64 2],zaf (some a2) [.int .i64 1],zaf (some a1) [.int .i64 0]]
theorem zfu : FnM PP zmr [] (facts []) (zhU (ι:=Addr×Addr×Addr×Addr) (fun a=>.agg ⟨zmU a.1 a.2.1 a.2.2.1 a.2.2.2⟩) (fun a=>zA3 a.1 a.2.1 a.2.2.1 a.2.2.2)):=by
 refine FnE.of zab mixed zr7 rfl rfl (Nat.le_of_ble_eq_true rfl) (by simp) ?_
 intro w hw
 conv=>whnf
 refine zac.f1F (znD 0).enters (zaB.facts (znD 0) rfl (by simp)) (fun a1 f1=>?_)
 conv=>whnf
 refine zac.f1F (znD 1).enters (zaB.facts (znD 1) rfl (by simp)) (fun a2 f2=>?_)
 conv=>whnf
 refine zac.f1F (znE 2).enters (zaB.facts (znE 2) rfl (by simp)) (fun a3 f3=>?_)
 conv=>whnf
 refine zac.f1F (znE 1).enters (zaB.facts (znE 1) rfl (by simp)) (fun a4 f4=>?_)
 conv=>whnf
 intro N E1 w' hm
 refine ⟨(a1,a2,a3,a4),rfl,fun R hR=>(hm.res R hR).2.1,fun R hR=>?_⟩
 simp only [List.mem_cons,List.not_mem_nil,or_false] at hR
 rcases hR with rfl | rfl | rfl | rfl
 ·exact Fr.bs f4
 ·exact Fr.bs f3
 ·exact Fr.bs f2
 ·exact Fr.bs f1
def Sl.small (s : Sl) : Prop:=s.X.xs.length≤1000000∧s.L.xs.length≤1000000∧s.S.xs.length≤1000000∧(∀ l∈s.L.xs,l.xs.length≤1000000)∧(∀ l∈s.S.xs,l.xs.length≤1000000)∧s.sg.xs.length≤1000000
theorem Sl.F_L {s : Sl} : zaf s.L.A (rowV Ln.C s.L.xs)∈s.F:=List.mem_append_right _ (List.mem_cons_self ..)
theorem Sl.F_S {s : Sl} : zaf s.S.A (rowV Ln.C s.S.xs)∈s.F:=List.mem_append_right _ (List.mem_cons_of_mem _ (List.mem_cons_self ..))
theorem Sl.F_X {s : Sl} : zaf s.X.A (rowV ratQ s.X.xs)∈s.F:=List.mem_append_right _ (List.mem_cons_of_mem _ (List.mem_cons_of_mem _ (List.mem_cons_self ..)))
theorem Sl.F_sg {s : Sl} : zaf s.sg.A (rowV sgq s.sg.xs)∈s.F:=List.mem_append_right _ (List.mem_cons_of_mem _ (List.mem_cons_of_mem _ (List.mem_cons_of_mem _ (List.mem_cons_self ..))))
theorem Sl.F_l {s : Sl} {l : Ln Rat} (h : l∈s.L.xs) : zaf l.A (rowV ratQ l.xs)∈s.F:=List.mem_append_left _ (List.mem_append_left _ (List.mem_map.2 ⟨l,h,rfl⟩))
theorem Sl.F_s {s : Sl} {l : Ln Nat} (h : l∈s.S.xs) : zaf l.A (rowV intC l.xs)∈s.F:=List.mem_append_left _ (List.mem_append_right _ (List.mem_map.2 ⟨l,h,rfl⟩))
theorem Sl.F_ok (s : Sl) : ∀ R∈s.F,R.ok:=fun R hR=>by
 rcases List.mem_append.1 hR with hR | hR
 ·rcases List.mem_append.1 hR with hR | hR
  ·obtain ⟨l,_,rfl⟩:=List.mem_map.1 hR; exact zaf.ok _ _
  ·obtain ⟨l,_,rfl⟩:=List.mem_map.1 hR; exact zaf.ok _ _
 ·simp only [List.mem_cons,List.not_mem_nil,or_false] at hR
  rcases hR with rfl | rfl | rfl | rfl <;> exact zaf.ok _ _
def zdC (s : Sl) (d : Nat) (col : Nat) : Int:=if col<s.L.xs.length∧col<s.X.xs.length then ((s.L.xs.map (·.xs.length)).getD col 0 : Int)-d else 0
def zbv (s : Sl) (d : Nat) (col : Nat) : Int:=if col<s.S.xs.length∧col+1<s.X.xs.length∧col+1<s.L.xs.length then ((s.S.xs.map (·.xs.length)).getD col 0 : Int)+d else 0
theorem zqM (a : Addr) (d : Nat) (s : Sl) (col : Nat) (hs : s.small) (hc : col≤1000000) (hd : d≤2) :
  FnM PP zbP [s.V,.int .i64 col,ptrV a] (facts (zaf (some a) [.int .i64 d]::s.F)) (zbu (.int .i64 (zdC s d col))):=by
 refine FnS.of zab mixed zm4 rfl rfl (Nat.le_of_ble_eq_true rfl) (fun R hR=>(List.mem_cons.1 hR).elim (fun h=>h▸zaf.ok _ _) (s.F_ok R)) ?_
 intro w hw
 obtain ⟨b,o,rfl⟩:=zck (hw _ (List.mem_cons_self ..)) (by simp)
 have hA : 0<s.L.xs.length→s.L.A.isSome=true:=fun h=>zap (hw _ (List.mem_cons_of_mem _ Sl.F_L)) (by rw [zag Ln.C_len]; omega)
 obtain ⟨s1,s2,s3,s4,s5⟩:=hs
 unfold zdC
 conv=>whnf
 by_cases h1 : col<s.L.xs.length
 rotate_left
 ·rw [if_neg (fun h=>h1 h.1)]
  refine zae (decide_eq_false (show ¬(col : Int)<(s.L.xs.length : Int) by omega)) ?_
  conv=>whnf
  exact zaa rfl
 refine zai (decide_eq_true (show (col : Int)<(s.L.xs.length : Int) by omega)) ?_
 conv=>whnf
 by_cases h2 : col<s.X.xs.length
 rotate_left
 ·rw [if_neg (fun h=>h2 h.2)]
  refine zae (decide_eq_false (show ¬(col : Int)<(s.X.xs.length : Int) by omega)) ?_
  conv=>whnf
  exact zaa rfl
 refine zai (decide_eq_true (show (col : Int)<(s.X.xs.length : Int) by omega)) ?_
 rw [if_pos ⟨h1,h2⟩]
 conv=>whnf
 refine zaj.quiet (by kernel_rfl) ?_
 conv=>whnf
 refine ⟨⟨by omega,by omega,hA (by omega)⟩,?_⟩
 conv=>whnf
 refine zao.elem (A:=s.L.A) (xs:=s.L.xs) (j:=(col : Int)) Ln.C Ln.C_len (List.mem_cons_of_mem _ Sl.F_L) rfl (by rw [Int.toNat_natCast]; omega) (by decide) (fun _=>rfl) ?_
 intro l hl
 rw [Int.toNat_natCast] at hl
 have hll:=s4 l (List.mem_of_getElem? hl)
 conv=>whnf
 refine zao.row (off:=0) (List.mem_cons_self ..) (zbQ _ _) (Nat.le_of_ble_eq_true rfl) (by decide) (fun _=>rfl) ?_
 conv=>whnf
 refine zaa ?_
 rw [List.getD_eq_getElem?_getD,List.getElem?_map,hl,wrap_i64 (by omega) (by omega)]; rfl
theorem znw (a : Addr) (d : Nat) (s : Sl) (col : Nat) (hs : s.small) (hc : col≤1000000) (hd : d≤2) :
  FnM PP zbM [s.V,.int .i64 col,ptrV a] (facts (zaf (some a) [.int .i64 d]::s.F)) (zbu (.int .i64 (zbv s d col))):=by
 refine FnS.of zab mixed zm8 rfl rfl (Nat.le_of_ble_eq_true rfl) (fun R hR=>(List.mem_cons.1 hR).elim (fun h=>h▸zaf.ok _ _) (s.F_ok R)) ?_
 intro w hw
 obtain ⟨b,o,rfl⟩:=zck (hw _ (List.mem_cons_self ..)) (by simp)
 have hA : 0<s.S.xs.length→s.S.A.isSome=true:=fun h=>zap (hw _ (List.mem_cons_of_mem _ Sl.F_S)) (by rw [zag Ln.C_len]; omega)
 obtain ⟨s1,s2,s3,s4,s5,s6⟩:=hs
 have hw1 : IntKind.i64.wrap ((col : Int)+1)=((col+1 : Nat) : Int):=by rw [wrap_i64 (by omega) (by omega)]; rfl
 unfold zbv
 conv=>whnf
 by_cases h1 : col<s.S.xs.length
 rotate_left
 ·rw [if_neg (fun h=>h1 h.1)]
  refine zae (decide_eq_false (show ¬(col : Int)<(s.S.xs.length : Int) by omega)) ?_
  conv=>whnf
  exact zaa rfl
 refine zai (decide_eq_true (show (col : Int)<(s.S.xs.length : Int) by omega)) ?_
 conv=>whnf
 by_cases h2 : col+1<s.X.xs.length
 rotate_left
 ·rw [if_neg (fun h=>h2 h.2.1)]
  refine zae (decide_eq_false (show ¬IntKind.i64.wrap ((col : Int)+1)<(s.X.xs.length : Int) by rw [hw1]; omega)) ?_
  conv=>whnf
  exact zaa rfl
 refine zai (decide_eq_true (show IntKind.i64.wrap ((col : Int)+1)<(s.X.xs.length : Int) by rw [hw1]; omega)) ?_
 conv=>whnf
 by_cases h3 : col+1<s.L.xs.length
 rotate_left
 ·rw [if_neg (fun h=>h3 h.2.2)]
  refine zae (decide_eq_false (show ¬IntKind.i64.wrap ((col : Int)+1)<(s.L.xs.length : Int) by rw [hw1]; omega)) ?_
  conv=>whnf
  exact zaa rfl
 refine zai (decide_eq_true (show IntKind.i64.wrap ((col : Int)+1)<(s.L.xs.length : Int) by rw [hw1]; omega)) ?_
 rw [if_pos ⟨h1,h2,h3⟩]
 conv=>whnf
 refine zaj.quiet (by kernel_rfl) ?_
 conv=>whnf
 refine ⟨⟨by omega,by omega,hA (by omega)⟩,?_⟩
 conv=>whnf
 refine zao.elem (A:=s.S.A) (xs:=s.S.xs) (j:=(col : Int)) Ln.C Ln.C_len (List.mem_cons_of_mem _ Sl.F_S) rfl (by rw [Int.toNat_natCast]; omega) (by decide) (fun _=>rfl) ?_
 intro l hl
 rw [Int.toNat_natCast] at hl
 have hll:=s5 l (List.mem_of_getElem? hl)
 conv=>whnf
 refine zao.row (off:=0) (List.mem_cons_self ..) (zbQ _ _) (Nat.le_of_ble_eq_true rfl) (by decide) (fun _=>rfl) ?_
 conv=>whnf
 refine zaa ?_
 rw [List.getD_eq_getElem?_getD,List.getElem?_map,hl,wrap_i64 (by omega) (by omega)]; rfl
end Go.Sx
end
section
/- A symbolic executor over loaded Go code: iterators that take other calls' results along. -/
namespace Go.Sx
open Go Go.RowKit
section
variable {P : Program} {T : TT}
def JRX (W : World) (B : List Nat) (J : List Nat→World→Prop) (ex : List Res) (Z : List Nat) : Res:=⟨B++Z,fun w=>J Z w∧∀ k∈Z,W.heap.size≤k∧∀ S∈ex,k ∉ S.bs⟩
theorem JRX.ok {W : World} {B : List Nat} {J : List Nat→World→Prop} {ex : List Res} (h : Own B J) (Z : List Nat) : (JRX W B J ex Z).ok :=
 ⟨fun w w' hj hb=>⟨h.stable Z w w' hj.1 (fun k hk=>hb k (List.mem_append.2 hk)),hj.2⟩,fun w hj b hb=>h.kept Z w hj.1 b (List.mem_append.1 hb)⟩
theorem zf1.nextX {l N : Nat} {W : World} {B : List Nat} {xs : List (List Value)} {J : Nat→List Nat→World→Prop} {Jx : List Nat→World→Prop} {re ex : List Res} {st : SS} {K : SV→SS→Prop} {args : List SV} {i : Nat} {Z : List Nat}
  (hr : zuo P l W B xs J Jx) (hJ : ∀ i,Own B (J i)) (hJx : Own B Jx) (hre : ∀ R∈re,R.ok) (hW : facts re W) (hd : ∀ R∈re,∀ b∈R.bs,b ∉ B) (hB : ∀ b∈B,b<W.heap.size)
  (hex : ∀ S∈ex,∀ b∈S.bs,W.heap.size≤b)
  (hi : i<xs.length) (hst : st.re=JRX W B (J i) ex Z::(ex++re)) (ha : args=vsv (xs.getD i []))
  (hk1 : ∀ Z',K (.o (.v (.bool true))) { st with re:=JRX W B (J (i+1)) ex Z'::(ex++re) }) (hk2 : ∀ Z',K (.o (.v (.bool false))) { st with re:=JRX W B Jx ex Z'::(ex++re) }) : zf1 P ⟨W,B,N⟩ l args st K:=by
 refine ⟨fun E w hm ro m=>?_⟩
 have hj:=hm.res _ (by rw [hst]; exact List.mem_cons_self ..)
 obtain ⟨hj1,hj2⟩:=hj.2.1
 have hnot : ∀ b,b∈B∨b∈Z→∀ k mm,lk k st.me=some mm→E.β k≠some b:=fun b hb=>(hj.2.2 b (List.mem_append.2 hb)).2
 have hy:=hr i Z w hi hj1 hm.ext (fun k hk=>(hj2 k hk).1) ro m
 rw [ha,zbd]
 obtain ⟨fn,tmps,assign,body,h1,h2⟩:=hy
 refine ⟨fn,tmps,assign,body,h1,h2.mono ?_⟩
 have key : ∀ (J' : List Nat→World→Prop) (hO : Own B J') (Z' : List Nat) (w' : World),J' Z' w'→zr4 B Z Z' w w'→zaT ⟨W,B,N⟩ E st.me (JRX W B J' ex Z'::(ex++re)) w'∧KD w w':=by
  intro J' hO Z' w' hj' hmv
  have hblk : ∀ b,b<w.heap.size→(¬(b∈B∨b∈Z))→w'.heap[b]?=w.heap[b]?:=fun b hb hn=>hmv.block b hb (fun h=>hn (.inl h)) (fun h=>hn (.inr h))
  have hme : ∀ k mm b,lk k st.me=some mm→E.β k=some b→w'.heap[b]?=w.heap[b]?:=fun k mm b hk hb=>hblk b (hm.ge k mm b hk hb).2 (fun h=>hnot b h k mm hk hb)
  refine ⟨⟨fun k mm hk=>(hm.ent k mm hk).of_block (fun b hb=>hme k mm b hk hb),fun k mm b hk hb=>⟨(hm.ge k mm b hk hb).1,Nat.lt_of_lt_of_le (hm.ge k mm b hk hb).2 hmv.size⟩,hm.inj,fun R hR=>?_,?_,hm.rig⟩,fun b hb=>?_⟩
  ·rcases List.mem_cons.1 hR with rfl | hR
   ·have hge : ∀ k∈Z',W.heap.size≤k∧∀ S∈ex,k ∉ S.bs:=fun k hk=>by
     rcases hmv.grow k hk with h | h
     ·exact hj2 k h
     ·refine ⟨Nat.le_trans hm.ext.size h,fun S hS hb=>?_⟩
      have:=((hm.res S (by rw [hst]; exact List.mem_cons_of_mem _ (List.mem_append_left _ hS))).2.2 k hb).1.lt
      omega
    refine ⟨(JRX.ok (W:=W) (ex:=ex) hO Z').1,⟨hj',hge⟩,fun b hb=>⟨hO.kept Z' w' hj' b (List.mem_append.1 hb),fun k mm hk hkb=>?_⟩⟩
    rcases List.mem_append.1 hb with hb | hb
    ·exact hnot b (.inl hb) k mm hk hkb
    ·rcases hmv.grow b hb with h | h
     ·exact hnot b (.inr h) k mm hk hkb
     ·have:=(hm.ge k mm b hk hkb).2; omega
   ·have hRm : R∈st.re:=by rw [hst]; exact List.mem_cons_of_mem _ hR
    obtain ⟨r1,r2,r3⟩:=hm.res R hRm
    have hne : ∀ b∈R.bs,w'.heap[b]?=w.heap[b]?:=fun b hb=>hblk b (r3 b hb).1.lt (fun h=>by
     rcases List.mem_append.1 hR with hR | hR
     ·rcases h with h | h
      ·have:=hB b h; have:=hex R hR b hb; omega
      ·exact (hj2 b h).2 R hR hb
     ·rcases h with h | h
      ·exact hd R hR b hb h
      ·have h5:=((hre R hR).2 W (hW R hR) b hb).lt
       have:=(hj2 b h).1
       omega)
    exact ⟨r1,r1 _ _ r2 hne,fun b hb=>⟨(r3 b hb).1.keep (hne b hb),(r3 b hb).2⟩⟩
  ·have hx:=hm.ext
   refine ⟨hmv.os.trans hx.os,hmv.tape.trans hx.tape,hmv.output.trans hx.output,Nat.le_trans hx.size hmv.size,fun k hk hn=>?_,Nat.le_trans hx.drawn hmv.drawn⟩
   refine (hblk k (Nat.lt_of_lt_of_le hk hx.size) (fun h=>?_)).trans (hx.block k hk hn)
   rcases h with h | h
   ·exact hn h
   ·have h6:=(hj2 k h).1
    have h7 : k<W.heap.size:=hk
    omega
  ·refine (hblk b (Array.getElem?_eq_some_iff.1 hb).1 (fun h=>?_)).trans hb
   obtain ⟨o,h3,h4⟩:=(hj.2.2 b (List.mem_append.2 h)).1
   rw [hb] at h3; cases h3; cases h4
 rintro e w' (⟨rfl,Z',hj',hmv⟩ | ⟨rfl,Z',hj',hmv⟩)
 ·obtain ⟨a1,a2⟩:=key _ (hJ (i+1)) Z' w' hj' hmv
  exact ⟨E,{ st with re:=JRX W B (J (i+1)) ex Z'::(ex++re) },.o (.v (.bool true)),rfl,a1,a2,fun i sv hi=>⟨sv,hi,rfl⟩,hk1 Z'⟩
 ·obtain ⟨a1,a2⟩:=key _ hJx Z' w' hj' hmv
  exact ⟨E,{ st with re:=JRX W B Jx ex Z'::(ex++re) },.o (.v (.bool false)),rfl,a1,a2,fun i sv hi=>⟨sv,hi,rfl⟩,hk2 Z'⟩
theorem zac.eX {W : World} {B : List Nat} {N : Nat} {J : List Nat→World→Prop} {re : List Res} {st : SS} {Z : List Nat} {ι : Type} {val : ι→Value} {rs : ι→List Res} {g : FuncId} {args : List SV} {K : SV→SS→Prop}
  (hst : st.re=JRX W B J [] Z::re) (hE : Enters P g) (h : zaB P g args st (zhU val rs)) (hok : ∀ i,∀ R∈rs i,R.ok)
  (hk : ∀ i,(∀ R∈rs i,∀ b∈R.bs,W.heap.size≤b)→K (.o (.v (val i))) { st with re:=JRX W B J (rs i) Z::(rs i++re) }) : zac P ⟨W,B,N⟩ g args st K:=by
 refine ⟨hE,fun E w hm=>(h E w (fun k mm _ hk=>hm.ent k mm hk) (fun R hR=>(hm.res R hR).2.1)).mono ?_⟩
 rintro e w' ⟨i,rfl,hf,hge,hb⟩
 have hm':=hm.world (st:=st) hb
 have hJ0:=hm.res _ (show JRX W B J [] Z∈st.re by rw [hst]; exact List.mem_cons_self ..)
 have hJ1:=hm'.res _ (show JRX W B J [] Z∈st.re by rw [hst]; exact List.mem_cons_self ..)
 have key : ∀ l : List Res,(∀ R∈l,R∈rs i)→zaT ⟨W,B,N⟩ E st.me (l++st.re) w':=by
  intro l
  induction l with
  | nil=>intro _; exact hm'
  | cons R l ih =>
   intro hl
   refine (ih (fun R hR=>hl R (List.mem_cons_of_mem _ hR))).more (hok i R (hl R (List.mem_cons_self ..))) (hf R (hl R (List.mem_cons_self ..))) (fun b hb' k m hkk hβ=>?_)
   have h3:=hge R (hl R (List.mem_cons_self ..)) b hb'
   have:=(hm.ge k m b hkk hβ).2
   omega
 have hk':=key _ (fun R hR=>hR)
 refine ⟨E,{ st with re:=JRX W B J (rs i) Z::(rs i++re) },.o (.v (val i)),rfl,⟨hk'.ent,hk'.ge,hk'.inj,fun R hR=>?_,hk'.ext,hk'.rig⟩,KD.below hb,fun i sv hi=>⟨sv,hi,rfl⟩,hk i (fun R hR b hb'=>Nat.le_trans hm.ext.size (hge R hR b hb'))⟩
 rcases List.mem_cons.1 hR with rfl | hR
 ·refine ⟨fun w1 w2 h1 h2=>?_,⟨hJ1.2.1.1,fun k hk=>⟨(hJ1.2.1.2 k hk).1,fun S hS hb'=>?_⟩⟩,hJ1.2.2⟩
  ·obtain ⟨h3,_⟩:=hJ1.1 w1 w2 ⟨h1.1,fun k hk=>⟨(h1.2 k hk).1,fun S hS=>by cases hS⟩⟩ h2
   exact ⟨h3,h1.2⟩
  ·have h3:=hge S hS k hb'
   have h4:=(hJ0.2.2 k (List.mem_append_right _ hk)).1.lt
   omega
 ·refine hk'.res R ?_
  rcases List.mem_append.1 hR with hR | hR
  ·exact List.mem_append_left _ hR
  ·exact List.mem_append_right _ (by rw [hst]; exact List.mem_cons_of_mem _ hR)
theorem SeqC.ofX (hT : zaQ P T) (hmix : P.follows .mixedOrders=true) {f : FuncId} {fn : Func} {c : Code} {caps : List Value} {re : List Res} {xs : List (List Value)}
  (hf : P.funcs[f]? = some fn) (hb : fn.body = some c) (hnm : (fn.name == "runtime.NumGoroutine") = false) (hn : caps.length + 1 ≤ fn.ntmps) (hok : ∀ R ∈ re, R.ok)
  (hs : ∀ (l : Nat) (W : World) (B : List Nat) (R : List Res→Nat→List Nat→Res) (X : List Res→List Nat→Res),facts re W →
   (∀ ex i Z st K args,i<xs.length→(∀ S∈ex,∀ b∈S.bs,W.heap.size≤b)→st.re=R ex i Z::(ex++re)→args=vsv (xs.getD i [])→(∀ Z',K (.o (.v (.bool true))) { st with re:=R ex (i+1) Z'::(ex++re) })→(∀ Z',K (.o (.v (.bool false))) { st with re:=X ex Z'::(ex++re) })→zf1 P ⟨W,B,fn.ntmps⟩ l args st K) →
   (∀ (ι : Type) (val : ι→Value) (rs : ι→List Res) st g args i Z (K : SV→SS→Prop),st.re=R [] i Z::re→Enters P g→zaB P g args st (zhU val rs)→(∀ i,∀ R∈rs i,R.ok)→(∀ j,(∀ R∈rs j,∀ b∈R.bs,W.heap.size≤b)→K (.o (.v (val j))) { st with re:=R (rs j) i Z::(rs j++re) })→zac P ⟨W,B,fn.ntmps⟩ g args st K) →
   WPS P ⟨W,B,fn.ntmps⟩ c ⟨zeS 0 (vsv (zd5 l::caps)),[],R [] 0 []::re⟩ (retQ T fn (fun _ st=>(∃ ex Z,R ex xs.length Z∈st.re)∨∃ ex Z,X ex Z∈st.re))) : SeqC P f caps re xs:=by
 refine ⟨zeR hf hnm (by rw [hb]; rfl),hok,fun l W B J Jx hW hd hB hJ hJx hr h0=>?_⟩
 have E0 : Env:=⟨fun _=>none,fun _=>(0,0)⟩
 have hlen : ∀ l : List Value,(vsv l).length=l.length:=fun l=>by induction l with | nil=>rfl | cons x r ih=>simp [vsv,ih]
 have hmem : zaT ⟨W,B,fn.ntmps⟩ E0 [] (JRX W B (J 0) [] []::re) W:=by
  refine ⟨fun k m hk=>by simp [lk] at hk,fun k m b hk=>by simp [lk] at hk,fun k k' m m' b hk=>by simp [lk] at hk,fun R hR=>?_,Ext.refl _ _,fun j b m hX hj=>by simp [lk] at hj⟩
  rcases List.mem_cons.1 hR with rfl | hR
  ·have hφ : (JRX W B (J 0) [] []).φ W:=⟨h0,fun k hk=>by cases hk⟩
   exact ⟨(JRX.ok (hJ 0) []).1,hφ,fun b hb=>⟨(JRX.ok (W:=W) (ex:=[]) (hJ 0) []).2 W hφ b hb,fun k m hk=>by simp [lk] at hk⟩⟩
  ·exact ⟨(hok R hR).1,hW R hR,fun b hb=>⟨(hok R hR).2 W (hW R hR) b hb,fun k m hk=>by simp [lk] at hk⟩⟩
 have:=zcc (T:=T) hT hmix (E:=E0) (args:=vsv (zd5 l::caps)) hf hb (by rw [hlen]; exact hn) hmem
  (hs l W B (fun ex i Z=>JRX W B (J i) ex Z) (fun ex Z=>JRX W B Jx ex Z) hW (fun ex i Z st K args hi hex hst ha hk1 hk2=>zf1.nextX hr hJ hJx hok hW hd hB hex hi hst ha hk1 hk2)
   (fun ι val rs st g args i Z K hst hE h hok' hk=>zac.eX hst hE h hok' hk))
  (R:=fun e w'=>(∃ v,e=.returned v)∧Ext B W w'∧((∃ Z,J xs.length Z w')∨∃ Z,Jx Z w'))
  (fun l st E' w' hp hm=>⟨⟨_,rfl⟩,hm.ext,by
   rcases hp with ⟨ex,Z,hZ⟩ | ⟨ex,Z,hZ⟩
   ·exact .inl ⟨Z,(hm.res _ hZ).2.1.1⟩
   ·exact .inr ⟨Z,(hm.res _ hZ).2.1.1⟩⟩)
 rw [zbd] at this
 exact this
end
end Go.Sx
end
section
set_option maxRecDepth 10000
set_option maxHeartbeats 2000000
namespace Go.Sx
open Go Go.Proofs
structure Cel where
 k : Nat
 c : Nat
 r : Nat
deriving DecidableEq
abbrev Cel.C (x : Cel) : List Value:=[.int .i64 x.k,.int .i64 x.c,.int .i64 x.r]
abbrev Cel.V (x : Cel) : Value:=.agg ⟨x.C⟩
theorem Cel.C_len (x : Cel) : x.C.length=3:=rfl
def cntK (s : Sl) : Nat→Nat→Int
 | 0,c=>zdC s 0 c
 | 1,c=>zdC s 1 c
 | 2,c=>zbv s 2 c
 | _,c=>zbv s 1 c
def zeU (s : Sl) (k c : Nat) : List Cel:=(List.range (cntK s k c).toNat).map fun r=>⟨k,c,r⟩
def colF (s : Sl) (c : Nat) : Nat→List Cel
 | 0=>[]
 | j+1=>zeU s (3-j) c++colF s c j
def zdA (s : Sl) : Nat→Nat→List Cel
 | _,0=>[]
 | c,n+1=>colF s c 4++zdA s (c+1) n
abbrev ztk (l : List Cel) : List (List Value):=l.map fun x=>[x.V]
theorem zk6 {l : List Cel} {i : Nat} {x : Cel} {r : List Cel} (h : l.drop i=x::r) : (ztk l).getD i []=[x.V]∧i<l.length∧l.drop (i+1)=r:=by
 have hi : i<l.length:=Classical.byContradiction fun hh=>by rw [List.drop_of_length_le (by omega)] at h; cases h
 rw [List.drop_eq_getElem_cons hi] at h
 injection h with h1 h2
 exact ⟨by rw [List.getD_eq_getElem?_getD,List.getElem?_map,List.getElem?_eq_getElem hi,h1]; rfl,hi,h2⟩
theorem zfC {s : Sl} {k c r : Nat} (h : (r : Int)<cntK s k c) : (zeU s k c).drop r=⟨k,c,r⟩::(zeU s k c).drop (r+1):=by
 have hl : r<(zeU s k c).length:=by simp only [zeU,List.length_map,List.length_range]; omega
 rw [List.drop_eq_getElem_cons hl]; simp [zeU]
theorem zhn {s : Sl} {k c r : Nat} (h : ¬(r : Int)<cntK s k c) : (zeU s k c).drop r=[]:=List.drop_of_length_le (by simp only [zeU,List.length_map,List.length_range]; omega)
theorem ztG {s : Sl} (hs : s.small) (k c : Nat) : cntK s k c≤1000002:=by
 obtain ⟨s1,s2,s3,s4,s5,s6⟩:=hs
 have h1 : ∀ d,zdC s d c≤1000002:=fun d=>by
  unfold zdC; split
  ·rename_i h
   have:=s4 _ (List.getElem_mem h.1)
   rw [List.getD_eq_getElem?_getD,List.getElem?_map,List.getElem?_eq_getElem h.1]
   simp only [Option.map_some,Option.getD_some]; omega
  ·omega
 have h2 : ∀ d,d≤2→zbv s d c≤1000002:=fun d hd=>by
  unfold zbv; split
  ·rename_i h
   have:=s5 _ (List.getElem_mem h.1)
   rw [List.getD_eq_getElem?_getD,List.getElem?_map,List.getElem?_eq_getElem h.1]
   simp only [Option.map_some,Option.getD_some]; omega
  ·omega
 match k with
 | 0=>exact h1 0
 | 1=>exact h1 1
 | 2=>exact h2 2 (by omega)
 | _+3=>exact h2 1 (by omega)
abbrev slM (s : Sl) : ME:=.box (s.C.map AV.v) zaD
theorem zCA (s : Sl) (fr to : Int) : FnM PP zpJ [s.V,.int .i64 fr,.int .i64 to] (facts []) (zpw zg4 [[.int .i64 fr],[.int .i64 to],s.C]):=by
 refine FnF.of zab mixed zuZ rfl rfl (Nat.le_of_ble_eq_true rfl) (by simp) ?_
 intro w hw
 conv=>whnf
 refine ⟨[4,5,3],rfl,rfl,fun i k c h1 h2=>?_⟩
 match i with
 | 0=>cases h1; cases h2; rfl
 | 1=>cases h1; cases h2; rfl
 | 2=>cases h1; cases h2; rfl
 | i+3=>cases h1
theorem zBh (af at' as' : Addr) (s : Sl) (fi : Int) (fr to : Nat) (hs : s.small) (ht : to≤1000000) (hft : fr≤to) (hfi : (if (0 : Int)>fi then 0 else fi)=(fr : Int)) :
  SeqC PP zg4 [ptrV af,ptrV at',ptrV as'] (zaf (some af) [.int .i64 fi]::zaf (some at') [.int .i64 to]::zaf (some as') s.C::s.F) (ztk (zdA s fr (to-fr))):=by
 refine SeqC.ofX zab mixed zrJ rfl rfl (Nat.le_of_ble_eq_true rfl) (fun R hR=>?_) ?_
 ·simp only [List.mem_cons] at hR
  rcases hR with rfl | rfl | rfl | hR
  ·exact zaf.ok _ _
  ·exact zaf.ok _ _
  ·exact zaf.ok _ _
  ·exact s.F_ok R hR
 intro yl W B R X hW hy hx
 obtain ⟨bf,o_f,rfl⟩:=zck (hW _ (List.mem_cons_self ..)) (by simp)
 obtain ⟨bt,ot,rfl⟩:=zck (hW _ (List.mem_cons_of_mem _ (List.mem_cons_self ..))) (by simp)
 obtain ⟨bs',os',rfl⟩:=zck (hW _ (List.mem_cons_of_mem _ (List.mem_cons_of_mem _ (List.mem_cons_self ..)))) (by simp [Sl.C])
 obtain ⟨cells,hcells⟩ : ∃ cs,cs=zdA s fr (to-fr):=⟨_,rfl⟩
 rw [←hcells] at hy ⊢
 refine WPS.of zab mixed ?_
 conv=>whnf
 refine hx _ _ _ _ _ _ 0 [] _ rfl zfu.enters (zaB.facts zfu rfl (by simp)) (fun i R hR=>?_) (fun ⟨a1,a2,a3,a4⟩ hex=>?_)
 ·simp only [List.mem_cons,List.not_mem_nil,or_false] at hR
  rcases hR with rfl | rfl | rfl | rfl <;> exact zaf.ok _ _
 conv=>whnf
 have hm1 : ∀ {S} (A : List Res),S∈A→S∈R [] 0 []::A:=fun _ h=>List.mem_cons_of_mem _ h
 obtain ⟨ex,hexd⟩ : ∃ ex,ex=zA3 a1 a2 a3 a4:=⟨_,rfl⟩
 obtain ⟨base,hbase⟩ : ∃ base,base=zaf (some ⟨bf,o_f,none⟩) [Value.int .i64 fi]::zaf (some ⟨bt,ot,none⟩) [Value.int .i64 to]::zaf (some ⟨bs',os',none⟩) s.C::s.F:=⟨_,rfl⟩
 rw [←hbase] at hy hx hW
 have hin : ∀ {S} (i : Nat) (Z : List Nat),S∈base→S∈R ex i Z::(ex++base):=fun i Z h=>List.mem_cons_of_mem _ (List.mem_append_right _ h)
 have hinx : ∀ {S} (i : Nat) (Z : List Nat),S∈ex→S∈R ex i Z::(ex++base):=fun i Z h=>List.mem_cons_of_mem _ (List.mem_append_left _ h)
 have b1 : zaf (some ⟨bf,o_f,none⟩) [Value.int .i64 fi]∈base:=by rw [hbase]; exact List.mem_cons_self ..
 have b2 : zaf (some ⟨bt,ot,none⟩) [Value.int .i64 to]∈base:=by rw [hbase]; exact List.mem_cons_of_mem _ (List.mem_cons_self ..)
 have b3 : zaf (some ⟨bs',os',none⟩) s.C∈base:=by rw [hbase]; exact List.mem_cons_of_mem _ (List.mem_cons_of_mem _ (List.mem_cons_self ..))
 have b4 : ∀ {S},S∈s.F→S∈base:=fun h=>by rw [hbase]; exact List.mem_cons_of_mem _ (List.mem_cons_of_mem _ (List.mem_cons_of_mem _ h))
 refine zao.row (off:=0) (xs:=[Value.int .i64 fi]) (by have:=hin 0 [] b1; rw [hexd,hbase] at this; exact this) (zbQ _ _) (Nat.le_of_ble_eq_true rfl) (by decide) (fun _=>rfl) ?_
 conv=>whnf
 refine zak (ι:=Nat×Nat×List Nat) (fun ⟨col,q,Z⟩=>⟨[(0,.o (.v (zd5 yl))),(1,.o (.v (ptrV ⟨bf,o_f,none⟩))),(2,.o (.v (ptrV ⟨bt,ot,none⟩))),(3,.o (.v (ptrV ⟨bs',os',none⟩))),(5,.o (.p 5 0)),(6,.o (.v (.int .i64 col)))],[(5,.box ((zmU a1 a2 a3 a4).map AV.v) zbB)],R ex q Z::(ex++base)⟩)
  (fun ⟨col,q,Z⟩=>fr≤col∧col≤to∧cells.drop q=zdA s col (to-col)∧q≤cells.length) (fun ⟨col,_,_⟩=>to-col) (fr,0,[]) ⟨Nat.le_refl _,hft,by rw [List.drop_zero]; exact hcells,Nat.zero_le _⟩
  (SLe.id ⟨rfl,rfl,rfl,rfl,rfl,?_,trivial⟩ ⟨⟨_,rfl,.refl _⟩,trivial⟩ (fun S hS=>by rw [hexd,hbase] at hS; exact hS)) ?_
 ·show some (SV.o (.v (.int .i64 (if (0 : Int)>fi then 0 else fi))))=some (SV.o (.v (.int .i64 fr)))
  rw [hfi]
 rintro ⟨col,q,Z⟩ ⟨hc1,hc2,hq,hql⟩
 conv=>whnf
 refine zao.row (off:=0) (xs:=[Value.int .i64 to]) (hin _ _ b2) (zbQ _ _) (Nat.le_of_ble_eq_true rfl) (by decide) (fun _=>rfl) ?_
 conv=>whnf
 by_cases hct : col<to
 rotate_left
 ·refine zae (decide_eq_false (show ¬(col : Int)<(to : Int) by omega)) ?_
  conv=>whnf
  rw [show to-col=0 by omega] at hq
  have hql2 : cells.length≤q:=List.drop_eq_nil_iff.1 hq
  exact .inl ⟨ex,Z,by rw [List.length_map,show cells.length=q by omega]; exact List.mem_cons_self ..⟩
 refine zai (decide_eq_true (show (col : Int)<(to : Int) by omega)) ?_
 rw [show to-col=(to-(col+1))+1 by omega] at hq
 obtain ⟨rest,hrest⟩ : ∃ r,r=zdA s (col+1) (to-(col+1)):=⟨_,rfl⟩
 replace hq : cells.drop q=colF s col 4++rest:=by rw [hrest]; exact hq
 conv=>whnf
 refine zak (ι:=Nat×Nat×List Nat) (fun ⟨j,q,Z⟩=>⟨[(0,.o (.v (zd5 yl))),(1,.o (.v (ptrV ⟨bf,o_f,none⟩))),(2,.o (.v (ptrV ⟨bt,ot,none⟩))),(3,.o (.v (ptrV ⟨bs',os',none⟩))),(5,.o (.p 5 0)),(6,.o (.v (.int .i64 col))),(18,.o (.v (.agg ⟨zmU a1 a2 a3 a4⟩))),(19,.o (.v (.int .i64 j)))],[(5,.box ((zmU a1 a2 a3 a4).map AV.v) zbB)],R ex q Z::(ex++base)⟩)
  (fun ⟨j,q,Z⟩=>j≤4∧cells.drop q=colF s col (4-j)++rest∧q≤cells.length) (fun ⟨j,_,_⟩=>4-j) (0,q,Z) ⟨Nat.zero_le _,hq,hql⟩
  (SLe.id ⟨rfl,rfl,rfl,rfl,rfl,rfl,rfl,rfl,trivial⟩ ⟨⟨_,rfl,.refl _⟩,trivial⟩ (fun S hS=>hS)) ?_
 clear hq hql
 rintro ⟨j,q,Z⟩ ⟨hj4,hq,hql⟩
 conv=>whnf
 by_cases hj : j<4
 rotate_left
 ·refine zae (decide_eq_false (show ¬(j : Int)<(4 : Int) by omega)) ?_
  conv=>whnf
  rw [show 4-j=0 by omega] at hq
  exact ⟨(col+1,q,Z),⟨by omega,by omega,by rw [←hrest]; exact hq,hql⟩,by show to-(col+1)<to-col; omega,SLe.id ⟨rfl,rfl,rfl,rfl,rfl,zan hct (by omega),trivial⟩ ⟨⟨_,rfl,.refl _⟩,trivial⟩ (fun S hS=>hS)⟩
 refine zai (decide_eq_true (show (j : Int)<(4 : Int) by omega)) ?_
 have hj' : j=0∨j=1∨j=2∨j=3:=by omega
 rcases hj' with rfl | rfl | rfl | rfl
 ·replace hq : cells.drop q=(zeU s 0 col).drop 0++(colF s col 3++rest):=by rw [hq,←List.append_assoc]; rfl
  refine ⟨⟨by decide,by decide⟩,?_⟩
  conv=>whnf
  refine zao.row (off:=0) (xs:=s.C) (hin _ _ b3) (zbQ _ _) (Nat.le_of_ble_eq_true rfl) (by decide) (fun h=>by cases h) ?_
  conv=>whnf
  refine cfs (zqM a1 0 s col hs (by omega) (by omega)) ?_ rfl (fun S hS=>?_)
  rotate_left
  ·rcases List.mem_cons.1 hS with rfl | hS
   ·exact hinx _ _ (by rw [hexd]; exact List.mem_cons_of_mem _ (List.mem_cons_of_mem _ (List.mem_cons_of_mem _ (List.mem_cons_self ..))))
   ·exact hin _ _ (b4 hS)
  obtain ⟨cn,hcn⟩ : ∃ cn,cn=zdC s 0 col:=⟨_,rfl⟩
  have hck : cntK s 0 col=cn:=hcn.symm
  have hcl:=ztG hs 0 col
  rw [hck] at hcl
  rw [←hcn]
  conv=>whnf
  refine zak (ι:=Nat×Nat×List Nat) (fun ⟨r,q,Z⟩=>⟨[(0,.o (.v (zd5 yl))),(1,.o (.v (ptrV ⟨bf,o_f,none⟩))),(2,.o (.v (ptrV ⟨bt,ot,none⟩))),(3,.o (.v (ptrV ⟨bs',os',none⟩))),(5,.o (.p 5 0)),(6,.o (.v (.int .i64 col))),(18,.o (.v (.agg ⟨zmU a1 a2 a3 a4⟩))),(19,.o (.v (.int .i64 0))),(7,.o (.v (.int .i64 0))),(27,.o (.v (.int .i64 cn))),(28,.o (.v (.int .i64 r)))],[(5,.box ((zmU a1 a2 a3 a4).map AV.v) zbB)],R ex q Z::(ex++base)⟩)
   (fun ⟨r,q,Z⟩=>r≤cn.toNat∧cells.drop q=(zeU s 0 col).drop r++(colF s col 3++rest)∧q≤cells.length) (fun ⟨r,_,_⟩=>cn.toNat-r) (0,q,Z) ⟨Nat.zero_le _,hq,hql⟩
   (SLe.id ⟨rfl,rfl,rfl,rfl,rfl,rfl,rfl,rfl,rfl,rfl,rfl,trivial⟩ ⟨⟨_,rfl,.refl _⟩,trivial⟩ (fun S hS=>hS)) ?_
  clear hq hql
  rintro ⟨r,q,Z⟩ ⟨hr,hq,hql⟩
  conv=>whnf
  by_cases hrc : (r : Int)<cn
  ·refine zai (decide_eq_true hrc) ?_
   rw [zfC (by rw [hck]; exact hrc)] at hq
   obtain ⟨g1,g2,g3⟩:=zk6 hq
   conv=>whnf
   refine hy ex q Z _ _ _ (by rw [List.length_map]; exact g2) (by rw [hexd]; exact hex) rfl (by rw [g1]; rfl) (fun Z'=>?_) (fun Z'=>?_)
   ·conv=>whnf
    exact ⟨(r+1,q+1,Z'),⟨by omega,g3,by omega⟩,by show cn.toNat-(r+1)<cn.toNat-r; omega,SLe.id ⟨rfl,rfl,rfl,rfl,rfl,rfl,rfl,rfl,rfl,rfl,zan (n:=1000003) (by omega) (by omega),trivial⟩ ⟨⟨_,rfl,.refl _⟩,trivial⟩ (fun S hS=>hS)⟩
   ·conv=>whnf
    exact .inr ⟨ex,Z',List.mem_cons_self ..⟩
  ·refine zae (decide_eq_false hrc) ?_
   rw [zhn (by rw [hck]; exact hrc)] at hq
   conv=>whnf
   exact ⟨(1,q,Z),⟨by decide,hq,hql⟩,by show 4-1<4-0; decide,SLe.id ⟨rfl,rfl,rfl,rfl,rfl,rfl,rfl,rfl,trivial⟩ ⟨⟨_,rfl,.refl _⟩,trivial⟩ (fun S hS=>hS)⟩
 ·replace hq : cells.drop q=(zeU s 1 col).drop 0++(colF s col 2++rest):=by rw [hq,←List.append_assoc]; rfl
  refine ⟨⟨by decide,by decide⟩,?_⟩
  conv=>whnf
  refine zao.row (off:=0) (xs:=s.C) (hin _ _ b3) (zbQ _ _) (Nat.le_of_ble_eq_true rfl) (by decide) (fun h=>by cases h) ?_
  conv=>whnf
  refine cfs (zqM a2 1 s col hs (by omega) (by omega)) ?_ rfl (fun S hS=>?_)
  rotate_left
  ·rcases List.mem_cons.1 hS with rfl | hS
   ·exact hinx _ _ (by rw [hexd]; exact List.mem_cons_of_mem _ (List.mem_cons_of_mem _ (List.mem_cons_self ..)))
   ·exact hin _ _ (b4 hS)
  obtain ⟨cn,hcn⟩ : ∃ cn,cn=zdC s 1 col:=⟨_,rfl⟩
  have hck : cntK s 1 col=cn:=hcn.symm
  have hcl:=ztG hs 1 col
  rw [hck] at hcl
  rw [←hcn]
  conv=>whnf
  refine zak (ι:=Nat×Nat×List Nat) (fun ⟨r,q,Z⟩=>⟨[(0,.o (.v (zd5 yl))),(1,.o (.v (ptrV ⟨bf,o_f,none⟩))),(2,.o (.v (ptrV ⟨bt,ot,none⟩))),(3,.o (.v (ptrV ⟨bs',os',none⟩))),(5,.o (.p 5 0)),(6,.o (.v (.int .i64 col))),(18,.o (.v (.agg ⟨zmU a1 a2 a3 a4⟩))),(19,.o (.v (.int .i64 1))),(7,.o (.v (.int .i64 1))),(27,.o (.v (.int .i64 cn))),(28,.o (.v (.int .i64 r)))],[(5,.box ((zmU a1 a2 a3 a4).map AV.v) zbB)],R ex q Z::(ex++base)⟩)
   (fun ⟨r,q,Z⟩=>r≤cn.toNat∧cells.drop q=(zeU s 1 col).drop r++(colF s col 2++rest)∧q≤cells.length) (fun ⟨r,_,_⟩=>cn.toNat-r) (0,q,Z) ⟨Nat.zero_le _,hq,hql⟩
   (SLe.id ⟨rfl,rfl,rfl,rfl,rfl,rfl,rfl,rfl,rfl,rfl,rfl,trivial⟩ ⟨⟨_,rfl,.refl _⟩,trivial⟩ (fun S hS=>hS)) ?_
  clear hq hql
  rintro ⟨r,q,Z⟩ ⟨hr,hq,hql⟩
  conv=>whnf
  by_cases hrc : (r : Int)<cn
  ·refine zai (decide_eq_true hrc) ?_
   rw [zfC (by rw [hck]; exact hrc)] at hq
   obtain ⟨g1,g2,g3⟩:=zk6 hq
   conv=>whnf
   refine hy ex q Z _ _ _ (by rw [List.length_map]; exact g2) (by rw [hexd]; exact hex) rfl (by rw [g1]; rfl) (fun Z'=>?_) (fun Z'=>?_)
   ·conv=>whnf
    exact ⟨(r+1,q+1,Z'),⟨by omega,g3,by omega⟩,by show cn.toNat-(r+1)<cn.toNat-r; omega,SLe.id ⟨rfl,rfl,rfl,rfl,rfl,rfl,rfl,rfl,rfl,rfl,zan (n:=1000003) (by omega) (by omega),trivial⟩ ⟨⟨_,rfl,.refl _⟩,trivial⟩ (fun S hS=>hS)⟩
   ·conv=>whnf
    exact .inr ⟨ex,Z',List.mem_cons_self ..⟩
  ·refine zae (decide_eq_false hrc) ?_
   rw [zhn (by rw [hck]; exact hrc)] at hq
   conv=>whnf
   exact ⟨(2,q,Z),⟨by decide,hq,hql⟩,by show 4-2<4-1; decide,SLe.id ⟨rfl,rfl,rfl,rfl,rfl,rfl,rfl,rfl,trivial⟩ ⟨⟨_,rfl,.refl _⟩,trivial⟩ (fun S hS=>hS)⟩
 ·replace hq : cells.drop q=(zeU s 2 col).drop 0++(colF s col 1++rest):=by rw [hq,←List.append_assoc]; rfl
  refine ⟨⟨by decide,by decide⟩,?_⟩
  conv=>whnf
  refine zao.row (off:=0) (xs:=s.C) (hin _ _ b3) (zbQ _ _) (Nat.le_of_ble_eq_true rfl) (by decide) (fun h=>by cases h) ?_
  conv=>whnf
  refine cfs (znw a3 2 s col hs (by omega) (by omega)) ?_ rfl (fun S hS=>?_)
  rotate_left
  ·rcases List.mem_cons.1 hS with rfl | hS
   ·exact hinx _ _ (by rw [hexd]; exact List.mem_cons_of_mem _ (List.mem_cons_self ..))
   ·exact hin _ _ (b4 hS)
  obtain ⟨cn,hcn⟩ : ∃ cn,cn=zbv s 2 col:=⟨_,rfl⟩
  have hck : cntK s 2 col=cn:=hcn.symm
  have hcl:=ztG hs 2 col
  rw [hck] at hcl
  rw [←hcn]
  conv=>whnf
  refine zak (ι:=Nat×Nat×List Nat) (fun ⟨r,q,Z⟩=>⟨[(0,.o (.v (zd5 yl))),(1,.o (.v (ptrV ⟨bf,o_f,none⟩))),(2,.o (.v (ptrV ⟨bt,ot,none⟩))),(3,.o (.v (ptrV ⟨bs',os',none⟩))),(5,.o (.p 5 0)),(6,.o (.v (.int .i64 col))),(18,.o (.v (.agg ⟨zmU a1 a2 a3 a4⟩))),(19,.o (.v (.int .i64 2))),(7,.o (.v (.int .i64 2))),(27,.o (.v (.int .i64 cn))),(28,.o (.v (.int .i64 r)))],[(5,.box ((zmU a1 a2 a3 a4).map AV.v) zbB)],R ex q Z::(ex++base)⟩)
   (fun ⟨r,q,Z⟩=>r≤cn.toNat∧cells.drop q=(zeU s 2 col).drop r++(colF s col 1++rest)∧q≤cells.length) (fun ⟨r,_,_⟩=>cn.toNat-r) (0,q,Z) ⟨Nat.zero_le _,hq,hql⟩
   (SLe.id ⟨rfl,rfl,rfl,rfl,rfl,rfl,rfl,rfl,rfl,rfl,rfl,trivial⟩ ⟨⟨_,rfl,.refl _⟩,trivial⟩ (fun S hS=>hS)) ?_
  clear hq hql
  rintro ⟨r,q,Z⟩ ⟨hr,hq,hql⟩
  conv=>whnf
  by_cases hrc : (r : Int)<cn
  ·refine zai (decide_eq_true hrc) ?_
   rw [zfC (by rw [hck]; exact hrc)] at hq
   obtain ⟨g1,g2,g3⟩:=zk6 hq
   conv=>whnf
   refine hy ex q Z _ _ _ (by rw [List.length_map]; exact g2) (by rw [hexd]; exact hex) rfl (by rw [g1]; rfl) (fun Z'=>?_) (fun Z'=>?_)
   ·conv=>whnf
    exact ⟨(r+1,q+1,Z'),⟨by omega,g3,by omega⟩,by show cn.toNat-(r+1)<cn.toNat-r; omega,SLe.id ⟨rfl,rfl,rfl,rfl,rfl,rfl,rfl,rfl,rfl,rfl,zan (n:=1000003) (by omega) (by omega),trivial⟩ ⟨⟨_,rfl,.refl _⟩,trivial⟩ (fun S hS=>hS)⟩
   ·conv=>whnf
    exact .inr ⟨ex,Z',List.mem_cons_self ..⟩
  ·refine zae (decide_eq_false hrc) ?_
   rw [zhn (by rw [hck]; exact hrc)] at hq
   conv=>whnf
   exact ⟨(3,q,Z),⟨by decide,hq,hql⟩,by show 4-3<4-2; decide,SLe.id ⟨rfl,rfl,rfl,rfl,rfl,rfl,rfl,rfl,trivial⟩ ⟨⟨_,rfl,.refl _⟩,trivial⟩ (fun S hS=>hS)⟩
 ·replace hq : cells.drop q=(zeU s 3 col).drop 0++(colF s col 0++rest):=by rw [hq,←List.append_assoc]; rfl
  refine ⟨⟨by decide,by decide⟩,?_⟩
  conv=>whnf
  refine zao.row (off:=0) (xs:=s.C) (hin _ _ b3) (zbQ _ _) (Nat.le_of_ble_eq_true rfl) (by decide) (fun h=>by cases h) ?_
  conv=>whnf
  refine cfs (znw a4 1 s col hs (by omega) (by omega)) ?_ rfl (fun S hS=>?_)
  rotate_left
  ·rcases List.mem_cons.1 hS with rfl | hS
   ·exact hinx _ _ (by rw [hexd]; exact List.mem_cons_self ..)
   ·exact hin _ _ (b4 hS)
  obtain ⟨cn,hcn⟩ : ∃ cn,cn=zbv s 1 col:=⟨_,rfl⟩
  have hck : cntK s 3 col=cn:=hcn.symm
  have hcl:=ztG hs 3 col
  rw [hck] at hcl
  rw [←hcn]
  conv=>whnf
  refine zak (ι:=Nat×Nat×List Nat) (fun ⟨r,q,Z⟩=>⟨[(0,.o (.v (zd5 yl))),(1,.o (.v (ptrV ⟨bf,o_f,none⟩))),(2,.o (.v (ptrV ⟨bt,ot,none⟩))),(3,.o (.v (ptrV ⟨bs',os',none⟩))),(5,.o (.p 5 0)),(6,.o (.v (.int .i64 col))),(18,.o (.v (.agg ⟨zmU a1 a2 a3 a4⟩))),(19,.o (.v (.int .i64 3))),(7,.o (.v (.int .i64 3))),(27,.o (.v (.int .i64 cn))),(28,.o (.v (.int .i64 r)))],[(5,.box ((zmU a1 a2 a3 a4).map AV.v) zbB)],R ex q Z::(ex++base)⟩)
   (fun ⟨r,q,Z⟩=>r≤cn.toNat∧cells.drop q=(zeU s 3 col).drop r++(colF s col 0++rest)∧q≤cells.length) (fun ⟨r,_,_⟩=>cn.toNat-r) (0,q,Z) ⟨Nat.zero_le _,hq,hql⟩
   (SLe.id ⟨rfl,rfl,rfl,rfl,rfl,rfl,rfl,rfl,rfl,rfl,rfl,trivial⟩ ⟨⟨_,rfl,.refl _⟩,trivial⟩ (fun S hS=>hS)) ?_
  clear hq hql
  rintro ⟨r,q,Z⟩ ⟨hr,hq,hql⟩
  conv=>whnf
  by_cases hrc : (r : Int)<cn
  ·refine zai (decide_eq_true hrc) ?_
   rw [zfC (by rw [hck]; exact hrc)] at hq
   obtain ⟨g1,g2,g3⟩:=zk6 hq
   conv=>whnf
   refine hy ex q Z _ _ _ (by rw [List.length_map]; exact g2) (by rw [hexd]; exact hex) rfl (by rw [g1]; rfl) (fun Z'=>?_) (fun Z'=>?_)
   ·conv=>whnf
    exact ⟨(r+1,q+1,Z'),⟨by omega,g3,by omega⟩,by show cn.toNat-(r+1)<cn.toNat-r; omega,SLe.id ⟨rfl,rfl,rfl,rfl,rfl,rfl,rfl,rfl,rfl,rfl,zan (n:=1000003) (by omega) (by omega),trivial⟩ ⟨⟨_,rfl,.refl _⟩,trivial⟩ (fun S hS=>hS)⟩
   ·conv=>whnf
    exact .inr ⟨ex,Z',List.mem_cons_self ..⟩
  ·refine zae (decide_eq_false hrc) ?_
   rw [zhn (by rw [hck]; exact hrc)] at hq
   conv=>whnf
   exact ⟨(4,q,Z),⟨by decide,hq,hql⟩,by show 4-4<4-3; decide,SLe.id ⟨rfl,rfl,rfl,rfl,rfl,rfl,rfl,rfl,trivial⟩ ⟨⟨_,rfl,.refl _⟩,trivial⟩ (fun S hS=>hS)⟩
end Go.Sx
end
section
set_option maxRecDepth 10000
set_option maxHeartbeats 2000000
namespace Go.Sx
open Go Go.Proofs
theorem cl1 (L : List Cel) (x : Cel) : app (rowV Cel.C L) x.C=rowV Cel.C (L++[x]):=by
 rw [za1,zaC]; simp [rowV]
theorem zxH {l : List Cel} {i : Nat} {x : Cel} (h : l[i]?=some x) : (ztk l).getD i []=[x.V]:=by
 rw [List.getD_eq_getElem?_getD,List.getElem?_map,h]; rfl
theorem zrD (gf : FuncId) (caps : List Value) (re : List Res) (cells : List Cel) (hseq : SeqC PP gf caps re (ztk cells)) (hl : cells.length≤1000000000) :
  FnM PP za7 [nilV,.func (.func gf) #[] ⟨caps⟩] (facts re) (zdn zaZ 3 cells.length (rowV Cel.C cells)):=by
 refine FnM.ofS zab mixed zcd rfl rfl (Nat.le_of_ble_eq_true rfl) hseq.ok (post:=fun l st=>zAr zaZ 3 cells.length (rowV Cel.C cells) l st∨(cells=[]∧l=[.o (.v nilV)])) (fun w l st E w' hp hm=>hp.elim (fun hp=>zur hp hm) (fun h=>?_)) ?_
 ·obtain ⟨rfl,rfl⟩:=h
  exact ⟨_,rfl,World.ownsRow_nil _ _ _ _,hm.ext.below⟩
 intro w hw
 refine WPS.peel zab mixed ?_
 conv=>whnf
 refine WPS.seq ?_
 refine WPS.peel zab mixed ?_
 conv=>whnf
 refine WPS.block ?_
 refine WPS.range zab mixed rfl rfl hseq (fun S hS=>hS) 1 [(2,.o (.p 13 0))]
  (fun i (_ : Unit)=>match i with
   | 0=>[(13,.box [.v nilV] zku)]
   | i+1=>[(13,.box [.w 12] zku),(12,.own zaZ 3 (i+1) (rowV Cel.C (cells.take (i+1))))])
  (fun i _=>i≤cells.length) () (Nat.zero_le _) (SLe.mk (fun k=>bif Nat.beq k 13 then 2 else k) ⟨rfl,trivial⟩ ⟨⟨_,rfl,.refl _⟩,trivial⟩ rfl (fun R hR=>hR)) rfl
  (fun i j _=>match i with
   | 0=>⟨rfl,rfl⟩
   | i+1=>⟨rfl,rfl⟩) rfl (fun x hx=>by obtain ⟨e,_,rfl⟩:=List.mem_map.1 hx; rfl) rfl ?_ ?_
 ·intro W1 X i j Rx hi _
  rw [List.length_map] at hi
  obtain ⟨x,hx⟩ : ∃ x,cells[i]?=some x:=⟨_,List.getElem?_eq_getElem hi⟩
  rw [zxH hx]
  have htk:=zaE hx
  match i with
  | 0 =>
   conv=>whnf
   refine ⟨rfl,fun Ry=>?_⟩
   conv=>whnf
   refine ⟨⟨by show 0+1≤_; omega,by show (0+1)*24≤_; omega⟩,?_⟩
   conv=>whnf
   refine ⟨(),by omega,?_⟩
   refine SLe.mk (fun k=>bif Nat.beq k 12 then 11 else k) trivial ⟨⟨_,rfl,.refl _⟩,⟨_,rfl,?_⟩,trivial⟩ rfl (fun R hR=>hR) (.inr (fun j=>zzD (Nat.le_of_ble_eq_true rfl)))
   rw [htk,←cl1]
   exact .refl _
  | i+1 =>
   conv=>whnf
   refine ⟨rfl,fun Ry=>?_⟩
   conv=>whnf
   refine ⟨⟨by show i+1+1≤_; omega,by show (i+1+1)*24≤_; omega⟩,?_⟩
   conv=>whnf
   refine ⟨(),by omega,?_⟩
   refine SLe.mk (fun k=>bif Nat.beq k 12 then 11 else k) trivial ⟨⟨_,rfl,.refl _⟩,⟨_,rfl,?_⟩,trivial⟩ rfl (fun R hR=>hR) (.inr (fun j=>zzD (Nat.le_of_ble_eq_true rfl)))
   rw [htk,←cl1]
   exact .refl _
 ·intro j _
  refine WPS.of zab mixed ?_
  cases cells with
  | nil =>
   conv=>whnf
   exact .inr ⟨rfl,rfl⟩
  | cons x r =>
   conv=>whnf
   refine .inl ⟨12,rfl,?_⟩
   show some (ME.own zaZ 3 ((ztk r).length+1) (rowV Cel.C ((x::r).take ((ztk r).length+1))))=_
   rw [List.length_map,show r.length+1=(x::r).length from rfl,List.take_of_length_le (Nat.le_refl _)]
theorem zu3 (gf : FuncId) (caps : List Value) (re : List Res) (cells : List Cel) (hseq : SeqC PP gf caps re (ztk cells)) (hl : cells.length≤1000000000) :
  FnM PP zcD [.func (.func gf) #[] ⟨caps⟩] (facts re) (zdn zaZ 3 cells.length (rowV Cel.C cells)):=by
 refine FnO.of zab mixed zfl rfl rfl (Nat.le_of_ble_eq_true rfl) hseq.ok ?_
 intro w hw
 have h:=zrD gf caps re cells hseq hl
 conv=>whnf
 refine zac.o 4 h.enters (zaB.facts h rfl (fun R h=>h)) rfl rfl ?_
 conv=>whnf
 exact ⟨4,rfl,rfl⟩
theorem zac.f3 {P : Program} {C : Cx} {st : SS} {g g' : FuncId} {args : List SV} {c1 c2 c3 : List Value} {K : SV→SS→Prop} (hE : Enters P g) (h : zaB P g args st (zpw g' [c1,c2,c3]))
  (hk : ∀ a1 a2 a3,K (.o (.v (.func (.func g') #[] ⟨[ptrV a1,ptrV a2,ptrV a3]⟩))) { st with re:=zaf (some a1) c1::zaf (some a2) c2::zaf (some a3) c3::st.re }) : zac P C g args st K:=by
 refine ⟨hE,fun E w hm=>(h E w (fun k mm _ hk=>hm.ent k mm hk) (fun R hR=>(hm.res R hR).2.1)).mono ?_⟩
 rintro e w' ⟨av,hlen,rfl,hcs,hb⟩
 obtain ⟨a1,a2,a3,rfl⟩ : ∃ a1 a2 a3,av=[a1,a2,a3]:=by
  match av,hlen with
  | [a,b,c],_=>exact ⟨a,b,c,rfl⟩
 obtain ⟨f1,n1⟩:=hcs 0 a1 c1 rfl rfl
 obtain ⟨f2,n2⟩:=hcs 1 a2 c2 rfl rfl
 obtain ⟨f3,n3⟩:=hcs 2 a3 c3 rfl rfl
 have hm':=hm.world (st:=st) hb
 have key : ∀ (a : Addr) (c : List Value),w.heap.size≤a.block→∀ b∈(zaf (some a) c).bs,∀ k m,lk k st.me=some m→E.β k≠some b:=fun a c hn b hb' k m hkk hβ=>by
  have h1:=zlp hb'
  have:=(hm.ge k m b hkk hβ).2
  omega
 refine ⟨E,{ st with re:=zaf (some a1) c1::zaf (some a2) c2::zaf (some a3) c3::st.re },.o (.v (.func (.func g') #[] ⟨[ptrV a1,ptrV a2,ptrV a3]⟩)),rfl,?_,KD.below hb,fun i sv hi=>⟨sv,hi,rfl⟩,hk a1 a2 a3⟩
 exact ((hm'.more (zaf.ok _ _) f3 (key a3 c3 n3)).more (zaf.ok _ _) f2 (key a2 c2 n2)).more (zaf.ok _ _) f1 (key a1 c1 n1)
def zgw (s : Sl) : List Cel:=zdA s 0 s.X.xs.length
theorem zoK (s : Sl) (hs : s.small) (hl : (zgw s).length≤1000000000) : FnM PP zmw [s.V] (facts s.F) (zdn zaZ 3 (zgw s).length (rowV Cel.C (zgw s))):=by
 refine FnO.of zab mixed zri rfl rfl (Nat.le_of_ble_eq_true rfl) s.F_ok ?_
 intro w hw
 have ha:=zCA s 0 s.X.xs.length
 conv=>whnf
 refine zac.f3 ha.enters (zaB.facts ha rfl (by simp)) (fun a1 a2 a3=>?_)
 have hsq:=zBh a1 a2 a3 s 0 0 s.X.xs.length hs hs.1 (Nat.zero_le _) rfl
 have hc:=zu3 _ _ _ (zgw s) hsq hl
 conv=>whnf
 refine zac.o 8 hc.enters (zaB.facts hc rfl (fun R h=>h)) rfl rfl ?_
 conv=>whnf
 exact ⟨8,rfl,rfl⟩
theorem zBB (s : Sl) (x : Cel) (hs : s.small) (hx : x.k<4∧x.c≤1000000) : FnM PP zsL [s.V,x.V] (facts s.F) (zbu (.bool (decide ((x.r : Int)<cntK s x.k x.c)))):=by
 refine FnS.of zab mixed zxk rfl rfl (Nat.le_of_ble_eq_true rfl) s.F_ok ?_
 intro w hw
 obtain ⟨k,c,r⟩:=x
 simp only at hx ⊢
 have hk : k=0∨k=1∨k=2∨k=3:=by omega
 rcases hk with rfl | rfl | rfl | rfl
 ·conv=>whnf
  refine zac.e zfu.enters (zaB.facts zfu rfl (by simp)) (fun i R hR=>?_) (fun ⟨a1,a2,a3,a4⟩ hex=>?_)
  ·simp only [List.mem_cons,List.not_mem_nil,or_false] at hR
   rcases hR with rfl | rfl | rfl | rfl <;> exact zaf.ok _ _
  conv=>whnf
  refine zaj.quiet (by kernel_rfl) ?_
  conv=>whnf
  refine ⟨⟨show (0 : Int)≤(0 : Int) by decide,show (0 : Int)<4 by decide⟩,?_⟩
  conv=>whnf
  refine cds (zqM a1 0 s c hs (by omega) (by omega)) ?_ rfl (fun S hS=>?_)
  rotate_left
  ·rcases List.mem_cons.1 hS with rfl | hS
   ·exact List.mem_append_left _ (List.mem_cons_of_mem _ (List.mem_cons_of_mem _ (List.mem_cons_of_mem _ (List.mem_cons_self ..))))
   ·exact List.mem_append_right _ hS
  conv=>whnf
  exact zaa rfl
 ·conv=>whnf
  refine zac.e zfu.enters (zaB.facts zfu rfl (by simp)) (fun i R hR=>?_) (fun ⟨a1,a2,a3,a4⟩ hex=>?_)
  ·simp only [List.mem_cons,List.not_mem_nil,or_false] at hR
   rcases hR with rfl | rfl | rfl | rfl <;> exact zaf.ok _ _
  conv=>whnf
  refine zaj.quiet (by kernel_rfl) ?_
  conv=>whnf
  refine ⟨⟨show (0 : Int)≤(1 : Int) by decide,show (1 : Int)<4 by decide⟩,?_⟩
  conv=>whnf
  refine cds (zqM a2 1 s c hs (by omega) (by omega)) ?_ rfl (fun S hS=>?_)
  rotate_left
  ·rcases List.mem_cons.1 hS with rfl | hS
   ·exact List.mem_append_left _ (List.mem_cons_of_mem _ (List.mem_cons_of_mem _ (List.mem_cons_self ..)))
   ·exact List.mem_append_right _ hS
  conv=>whnf
  exact zaa rfl
 ·conv=>whnf
  refine zac.e zfu.enters (zaB.facts zfu rfl (by simp)) (fun i R hR=>?_) (fun ⟨a1,a2,a3,a4⟩ hex=>?_)
  ·simp only [List.mem_cons,List.not_mem_nil,or_false] at hR
   rcases hR with rfl | rfl | rfl | rfl <;> exact zaf.ok _ _
  conv=>whnf
  refine zaj.quiet (by kernel_rfl) ?_
  conv=>whnf
  refine ⟨⟨show (0 : Int)≤(2 : Int) by decide,show (2 : Int)<4 by decide⟩,?_⟩
  conv=>whnf
  refine cds (znw a3 2 s c hs (by omega) (by omega)) ?_ rfl (fun S hS=>?_)
  rotate_left
  ·rcases List.mem_cons.1 hS with rfl | hS
   ·exact List.mem_append_left _ (List.mem_cons_of_mem _ (List.mem_cons_self ..))
   ·exact List.mem_append_right _ hS
  conv=>whnf
  exact zaa rfl
 ·conv=>whnf
  refine zac.e zfu.enters (zaB.facts zfu rfl (by simp)) (fun i R hR=>?_) (fun ⟨a1,a2,a3,a4⟩ hex=>?_)
  ·simp only [List.mem_cons,List.not_mem_nil,or_false] at hR
   rcases hR with rfl | rfl | rfl | rfl <;> exact zaf.ok _ _
  conv=>whnf
  refine zaj.quiet (by kernel_rfl) ?_
  conv=>whnf
  refine ⟨⟨show (0 : Int)≤(3 : Int) by decide,show (3 : Int)<4 by decide⟩,?_⟩
  conv=>whnf
  refine cds (znw a4 1 s c hs (by omega) (by omega)) ?_ rfl (fun S hS=>?_)
  rotate_left
  ·rcases List.mem_cons.1 hS with rfl | hS
   ·exact List.mem_append_left _ (List.mem_cons_self ..)
   ·exact List.mem_append_right _ hS
  conv=>whnf
  exact zaa rfl
end Go.Sx
end
section
set_option maxRecDepth 10000
set_option maxHeartbeats 2000000
namespace Go.Sx
open Go Go.Proofs
abbrev KY : Nat:=300000
def hgtS (s : Sl) (x : Rat) (k : Nat) : Rat:=match s.sg.xs[k]? with
 | some e=>(hgtE e.1 e.2 x).1
 | none=>0
def zjx (s : Sl) (l : Ln Nat) (x : Rat) : List Rat:=s.lo.y::(l.xs.map (hgtS s x)++[s.hi.y])
def zvA (s : Sl) (l : Ln Nat) (x : Rat) : List (List Value):=(zjx s l x).zipIdx.map fun e=>[.int .i64 (e.2 : Int),qV e.1]
theorem zld {s : Sl} {l : Ln Nat} {x y : Rat} {i : Nat} (h : (zjx s l x)[i]?=some y) : (zvA s l x).getD i []=[.int .i64 (i : Int),qV y]:=by
 rw [List.getD_eq_getElem?_getD,zvA,List.getElem?_map,List.getElem?_zipIdx,h]; simp
theorem zn2 (s : Sl) (l : Ln Nat) (x : Rat) : (zvA s l x).length=l.xs.length+2:=by simp [zvA,zjx]
structure Sl.sz (s : Sl) : Prop where
 sg : ∀ e∈s.sg.xs,(SzV K0 e.1∧SzV K0 e.2)∧e.1≠e.2
 lo : SzV K0 s.lo
 hi : SzV K0 s.hi
theorem zxi (s : Sl) (col : Nat) (x : Rat) : FnM PP zi1 [s.V,.int .i64 col,qV x] (facts []) (zpw zdX [s.C,[.int .i64 col],ratQ x]):=by
 refine FnF.of zab mixed zph rfl rfl (Nat.le_of_ble_eq_true rfl) (by simp) ?_
 intro w hw
 conv=>whnf
 refine ⟨[3,4,5],rfl,rfl,fun i k c h1 h2=>?_⟩
 match i with
 | 0=>cases h1; cases h2; rfl
 | 1=>cases h1; cases h2; rfl
 | 2=>cases h1; cases h2; rfl
 | i+3=>cases h1
theorem zuW (as' ac ax : Addr) (s : Sl) (col : Nat) (l : Ln Nat) (x : Rat) (hs : s.small) (hz : s.sz) (hl : s.S.xs[col]?=some l) (hx : Sz KY x) :
   SeqC PP zdX [ptrV as',ptrV ac,ptrV ax] (zaf (some as') s.C::zaf (some ac) [.int .i64 col]::zaf (some ax) (ratQ x)::s.F) (zvA s l x):=by
 refine SeqC.of zab mixed zmY rfl rfl (Nat.le_of_ble_eq_true rfl) (fun R hR=>?_) ?_
 · simp only [List.mem_cons] at hR
   rcases hR with rfl | rfl | rfl | hR
   · exact zaf.ok _ _
   · exact zaf.ok _ _
   · exact zaf.ok _ _
   · exact s.F_ok R hR
 intro yl W B R X hW hy
 obtain ⟨bs',os',rfl⟩:=zck (hW _ (List.mem_cons_self ..)) (by simp [Sl.C])
 obtain ⟨bc,oc,rfl⟩:=zck (hW _ (List.mem_cons_of_mem _ (List.mem_cons_self ..))) (by simp)
 obtain ⟨bx,ox,rfl⟩:=zck (hW _ (List.mem_cons_of_mem _ (List.mem_cons_of_mem _ (List.mem_cons_self ..)))) (by intro h; cases h)
 rw [zn2] at hy ⊢
 obtain ⟨base,hbase⟩ : ∃ base,base=zaf (some ⟨bs',os',none⟩) s.C::zaf (some ⟨bc,oc,none⟩) [Value.int .i64 col]::zaf (some ⟨bx,ox,none⟩) (ratQ x)::s.F:=⟨_,rfl⟩
 have hlm:=List.mem_of_getElem? hl
 have hcl : col<s.S.xs.length:=(List.getElem?_eq_some_iff.1 hl).1
 obtain ⟨s1,s2,s3,s4,s5,s6⟩:=hs
 have hll:=s5 l hlm
 have b1 : zaf (some ⟨bs',os',none⟩) s.C∈base:=by rw [hbase]; exact List.mem_cons_self ..
 have b2 : zaf (some ⟨bc,oc,none⟩) [Value.int .i64 col]∈base:=by rw [hbase]; exact List.mem_cons_of_mem _ (List.mem_cons_self ..)
 have b3 : zaf (some ⟨bx,ox,none⟩) (ratQ x)∈base:=by rw [hbase]; exact List.mem_cons_of_mem _ (List.mem_cons_of_mem _ (List.mem_cons_self ..))
 have b4 : ∀ {S},S∈s.F→S∈base:=fun h=>by rw [hbase]; exact List.mem_cons_of_mem _ (List.mem_cons_of_mem _ (List.mem_cons_of_mem _ h))
 rw [←hbase] at hy hW ⊢
 have hAS : 0<s.S.xs.length→s.S.A.isSome=true:=fun h=>zap (hW _ (b4 Sl.F_S)) (by rw [zag Ln.C_len]; omega)
 have hAl : 0<l.xs.length→l.A.isSome=true:=fun h=>zap (hW _ (b4 (Sl.F_s hlm))) (by rw [zag zib]; omega)
 have hAg : 0<s.sg.xs.length→s.sg.A.isSome=true:=fun h=>zap (hW _ (b4 Sl.F_sg)) (by rw [zag zaN]; omega)
 have hin : ∀ {S} (i : Nat) (Z : List Nat),S∈base→S∈R i Z::base:=fun i Z h=>List.mem_cons_of_mem _ h
 refine WPS.of zab mixed ?_
 conv=>whnf
 refine zao.row (off:=1+2) (xs:=s.C) (hin _ _ b1) rfl (Nat.le_of_ble_eq_true rfl) (by decide) (fun h=>by cases h) ?_
 conv=>whnf
 refine hy 0 [] _ _ _ (by omega) rfl (by rw [zld (y:=s.lo.y) rfl]; rfl) (fun Z0=>?_) (fun Z0=>?_)
 rotate_left
 · conv=>whnf
   exact .inr ⟨Z0,List.mem_cons_self ..⟩
 conv=>whnf
 refine zao.row (off:=15) (xs:=s.C) (hin _ _ b1) rfl (Nat.le_of_ble_eq_true rfl) (by decide) (fun _=>rfl) ?_
 conv=>whnf
 refine zao.row (off:=0) (xs:=[Value.int .i64 col]) (hin _ _ b2) (zbQ _ _) (Nat.le_of_ble_eq_true rfl) (by decide) (fun _=>rfl) ?_
 conv=>whnf
 refine ⟨⟨by omega,by omega,hAS (by omega)⟩,?_⟩
 conv=>whnf
 refine zao.elem (A:=s.S.A) (xs:=s.S.xs) (j:=(col : Int)) Ln.C Ln.C_len (hin _ _ (b4 Sl.F_S)) rfl (by rw [Int.toNat_natCast]; omega) (by decide) (fun _=>rfl) ?_
 intro l' hl'
 obtain rfl : l'=l:=by rw [Int.toNat_natCast,hl] at hl'; exact (Option.some.inj hl').symm
 conv=>whnf
 refine zak (ι:=Nat×List Nat) (fun ⟨i,Z⟩=>⟨[(0,.o (.v (zd5 yl))),(1,.o (.v (ptrV ⟨bs',os',none⟩))),(2,.o (.v (ptrV ⟨bc,oc,none⟩))),(3,.o (.v (ptrV ⟨bx,ox,none⟩))),(19,.o (.v l'.V)),(20,.o (.v (.int .i64 l'.xs.length))),(21,.o (.v (.int .i64 i)))],[],R (i+1) Z::base⟩)
   (fun ⟨i,Z⟩=>i≤l'.xs.length) (fun ⟨i,Z⟩=>l'.xs.length-i) (0,Z0) (Nat.zero_le _) (SLe.id ⟨rfl,rfl,rfl,rfl,rfl,rfl,rfl,trivial⟩ trivial (fun R hR=>hR)) ?_
 rintro ⟨i,Z⟩ hi0
 have hi0 : i≤l'.xs.length:=hi0
 conv=>whnf
 by_cases hi : i<l'.xs.length
 rotate_left
 · refine zae (decide_eq_false (show ¬(i : Int)<(l'.xs.length : Int) by omega)) ?_
   conv=>whnf
   refine zaj.at 12 (by kernel_rfl) ?_
   conv=>whnf
   refine zao.row (off:=15) (xs:=s.C) (hin _ _ b1) rfl (Nat.le_of_ble_eq_true rfl) (by decide) (fun _=>rfl) ?_
   conv=>whnf
   refine zao.row (off:=0) (xs:=[Value.int .i64 col]) (hin _ _ b2) (zbQ _ _) (Nat.le_of_ble_eq_true rfl) (by decide) (fun _=>rfl) ?_
   conv=>whnf
   refine ⟨⟨by omega,by omega,hAS (by omega)⟩,?_⟩
   conv=>whnf
   refine zao.elem (A:=s.S.A) (xs:=s.S.xs) (j:=(col : Int)) Ln.C Ln.C_len (hin _ _ (b4 Sl.F_S)) rfl (by rw [Int.toNat_natCast]; omega) (by decide) (fun _=>rfl) ?_
   intro l2 hl2
   obtain rfl : l2=l':=by rw [Int.toNat_natCast,hl] at hl2; exact (Option.some.inj hl2).symm
   conv=>whnf
   refine zao.row (off:=6+3) (xs:=s.C) (hin _ _ b1) rfl (Nat.le_of_ble_eq_true rfl) (by decide) (fun h=>by cases h) ?_
   conv=>whnf
   have hlast : (zjx s l2 x)[l2.xs.length+1]?=some s.hi.y:=by rw [zjx,List.getElem?_cons_succ,List.getElem?_append_right (by simp)]; simp
   refine hy (i+1) Z _ _ _ (by omega) rfl (by
     rw [show i=l2.xs.length by omega,zld hlast]
     show [SV.o (.v (.int .i64 (IntKind.i64.wrap ((l2.xs.length : Int)+1)))),SV.o (.v (qV s.hi.y))]=_
     rw [wrap_i64 (by omega) (by omega)]; rfl) (fun Z'=>?_) (fun Z'=>?_)
   · conv=>whnf
     exact .inl ⟨Z',by rw [show l2.xs.length+2=i+1+1 by omega]; exact List.mem_cons_self ..⟩
   · conv=>whnf
     exact .inr ⟨Z',List.mem_cons_self ..⟩
 refine zai (decide_eq_true (show (i : Int)<(l'.xs.length : Int) by omega)) ?_
 obtain ⟨k,hk⟩ : ∃ k,l'.xs[i]?=some k:=⟨_,List.getElem?_eq_getElem hi⟩
 have hxi : (zjx s l' x)[i+1]?=some (hgtS s x k):=by
   rw [zjx,List.getElem?_cons_succ,List.getElem?_append_left (by simpa using hi),List.getElem?_map,hk]; rfl
 conv=>whnf
 refine ⟨⟨by omega,by omega,hAl (by omega)⟩,?_⟩
 conv=>whnf
 refine zao.elem (A:=l'.A) (xs:=l'.xs) (j:=(i : Int)) intC zib (hin _ _ (b4 (Sl.F_s hlm))) rfl (by rw [Int.toNat_natCast]; omega) (by decide) (fun _=>rfl) ?_
 intro k' hk'
 obtain rfl : k'=k:=by rw [Int.toNat_natCast,hk] at hk'; exact (Option.some.inj hk').symm
 conv=>whnf
 refine zao.row (off:=12) (xs:=s.C) (hin _ _ b1) rfl (Nat.le_of_ble_eq_true rfl) (by decide) (fun _=>rfl) ?_
 conv=>whnf
 have hfin : ∀ v,v=hgtS s x k'→[SV.o (.v (.int .i64 (IntKind.i64.wrap ((i : Int)+1)))),SV.o (.v (qV v))]=vsv ((zvA s l' x).getD (i+1) []):=fun v hv=>by
   rw [zld hxi,hv,wrap_i64 (by omega) (by omega)]; rfl
 have hdone : ∀ Z',some (SV.o (.v (.int .i64 (IntKind.i64.wrap ((i : Int)+1)))))=some (SV.o (.v (.int .i64 (((i+1,Z') : Nat×List Nat).1 : Nat)))):=fun Z'=>zan hi (by omega)
 by_cases hks : k' < s.sg.xs.length
 rotate_left
 · refine zae (decide_eq_false (show ¬(k' : Int)<(s.sg.xs.length : Int) by omega)) ?_
   conv=>whnf
   refine hy (i+1) Z _ _ _ (by omega) rfl (by have:=hfin 0 (by rw [hgtS,List.getElem?_eq_none (by omega)]); rw [q0] at this; exact this) (fun Z'=>?_) (fun Z'=>?_)
   · conv=>whnf
     exact ⟨(i+1,Z'),by show i+1≤l'.xs.length; omega,by show l'.xs.length-(i+1)<l'.xs.length-i; omega,SLe.id ⟨rfl,rfl,rfl,rfl,rfl,rfl,hdone Z',trivial⟩ trivial (fun S hS=>hS)⟩
   · conv=>whnf
     exact .inr ⟨Z',List.mem_cons_self ..⟩
 refine zai (decide_eq_true (show (k' : Int)<(s.sg.xs.length : Int) by omega)) ?_
 obtain ⟨e,he⟩ : ∃ e,s.sg.xs[k']?=some e:=⟨_,List.getElem?_eq_getElem hks⟩
 have heo:=hz.sg e (List.mem_of_getElem? he)
 conv=>whnf
 refine zaj.late [(10,7,[9])] (by kernel_rfl) ?_
 conv=>whnf
 refine zao.row (off:=12) (xs:=s.C) (hin _ _ b1) rfl (Nat.le_of_ble_eq_true rfl) (by decide) (fun _=>rfl) ?_
 conv=>whnf
 refine ⟨⟨by omega,by omega,hAg (by omega)⟩,?_⟩
 conv=>whnf
 refine zao.elem (A:=s.sg.A) (xs:=s.sg.xs) (j:=(k' : Int)) sgq zaN (hin _ _ (b4 Sl.F_sg)) rfl (by rw [Int.toNat_natCast]; omega) (by decide) (fun h=>by cases h) ?_
 intro e' he'
 obtain rfl : e'=e:=by rw [Int.toNat_natCast,he] at he'; exact (Option.some.inj he').symm
 conv=>whnf
 refine zao.row (off:=0) (xs:=ratQ x) (hin _ _ b3) (zbQ _ _) (Nat.le_of_ble_eq_true rfl) (by decide) (fun h=>by cases h) ?_
 conv=>whnf
 have hh:=zuM ⟨PQ e'.1,PQ e'.2⟩ (Q x) ⟨heo.1.1.q.le (by decide),heo.1.2.q.le (by decide)⟩ (hx.q.le (by decide))
 have hd : ¬zb5 ⟨PQ e'.1,PQ e'.2⟩:=fun h=>heo.2 (by have:=zca.1 h; simpa using this)
 rw [zdP,if_neg hd,Q_v,show (⟨PQ e'.1,PQ e'.2⟩ : Sg).A.v=e'.1 from PQ_v _,show (⟨PQ e'.1,PQ e'.2⟩ : Sg).B.v=e'.2 from PQ_v _] at hh
 refine cd hh ?_
 conv=>whnf
 refine hy (i+1) Z _ _ _ (by omega) rfl (hfin (hgtE e'.1 e'.2 x).1 (by rw [hgtS,he])) (fun Z'=>?_) (fun Z'=>?_)
 · conv=>whnf
   exact ⟨(i+1,Z'),by show i+1≤l'.xs.length; omega,by show l'.xs.length-(i+1)<l'.xs.length-i; omega,SLe.id ⟨rfl,rfl,rfl,rfl,rfl,rfl,hdone Z',trivial⟩ trivial (fun S hS=>hS)⟩
 · conv=>whnf
   exact .inr ⟨Z',List.mem_cons_self ..⟩
def onP (s : Sl) (l : Ln Nat) (row : Nat) (x : Rat) : V:=⟨x,(zjx s l x).getD row 0⟩
theorem c_on (s : Sl) (col row : Nat) (l : Ln Nat) (x : Rat) (hs : s.small) (hz : s.sz) (hl : s.S.xs[col]?=some l) (hx : Sz KY x) (hr : row≤1000000000) :
  FnM PP zsu [s.V,.int .i64 col,.int .i64 row,qV x] (facts s.F) (zbu (pV (PQ (onP s l row x)))):=by
 refine FnM.ofS zab mixed zvZ rfl rfl (Nat.le_of_ble_eq_true rfl) s.F_ok (fun w l st E w' hp hm=>zh0 hp hm) ?_
 intro w hw
 have hh:=zxi s col x
 refine WPS.peel zab mixed ?_
 conv=>whnf
 refine WPS.seq ?_
 refine WPS.peel zab mixed ?_
 conv=>whnf
 refine zac.f3 hh.enters (zaB.facts hh rfl (by simp)) (fun a1 a2 a3=>?_)
 have hsq:=zuW a1 a2 a3 s col l x hs hz hl hx
 conv=>whnf
 refine WPS.block ?_
 refine WPS.range zab mixed rfl rfl hsq (fun S hS=>hS) 3 [(7,.o (.p 25 0)),(6,.o (.p 26 0)),(8,.o (.p 27 0))]
  (fun i (_ : Unit)=>[(25,.box ((ratQ x).map AV.v) zaq),(26,.box [.v (.int .i64 row)] zen),(27,.box ((ptC S0.A).map AV.v) za5)])
  (fun i _=>i≤row) () (Nat.zero_le _) (SLe.mk (fun k=>bif Nat.beq k 25 then 7 else bif Nat.beq k 26 then 6 else bif Nat.beq k 27 then 8 else k) ⟨rfl,rfl,rfl,trivial⟩ ⟨⟨_,rfl,.refl _⟩,⟨_,rfl,.refl _⟩,⟨_,rfl,.refl _⟩,trivial⟩ rfl (fun R hR=>hR)) rfl
  (fun i j _=>⟨rfl,rfl⟩) rfl (fun x hx=>by obtain ⟨e,_,rfl⟩:=List.mem_map.1 hx; rfl) rfl ?_ ?_
 ·intro W1 X i j Rx hi hir
  rw [zn2] at hi
  obtain ⟨y,hy⟩ : ∃ y,(zjx s l x)[i]?=some y:=⟨_,List.getElem?_eq_getElem (by simp only [zjx,List.length_cons,List.length_append,List.length_map,List.length_nil]; omega)⟩
  rw [zld hy]
  conv=>whnf
  refine ⟨rfl,fun Ry=>?_⟩
  conv=>whnf
  by_cases hr : i=row
  ·refine zai (show ((i : Int)==(row : Int))=true by rw [beq_iff_eq]; omega) ?_
   have hon : onP s l row x=⟨x,y⟩:=by rw [onP,List.getD_eq_getElem?_getD,←hr,hy]; rfl
   conv=>whnf
   refine ⟨[(25,.box ((ratQ x).map AV.v) zaq),(26,.box [.v (.int .i64 row)] zen),(27,.box ((ptC (PQ ⟨x,y⟩)).map AV.v) za5)],rfl,rfl,SLe.id trivial ⟨⟨_,rfl,.refl _⟩,⟨_,rfl,.refl _⟩,⟨_,rfl,.refl _⟩,trivial⟩ (fun R h=>h),?_⟩
   rw [hon]
   conv=>whnf
   exact zaa rfl
  ·refine zae (show ((i : Int)==(row : Int))=false by rw [beq_eq_false_iff_ne]; omega) ?_
   conv=>whnf
   exact ⟨(),by omega,SLe.id trivial ⟨⟨_,rfl,.refl _⟩,⟨_,rfl,.refl _⟩,⟨_,rfl,.refl _⟩,trivial⟩ (fun R h=>h)⟩
 ·intro j hj
  rw [zn2] at hj
  have hon : onP s l row x=⟨x,0⟩:=by rw [onP,List.getD_eq_getElem?_getD,List.getElem?_eq_none (by simp only [zjx,List.length_cons,List.length_append,List.length_map,List.length_nil]; omega)]; rfl
  rw [hon]
  refine WPS.of zab mixed ?_
  conv=>whnf
  refine zaa ?_
  rw [show PQ (⟨x,0⟩ : V)=⟨Q x,Q 0⟩ from rfl,zhg]; rfl
end Go.Sx
end
section
set_option maxRecDepth 10000
set_option maxHeartbeats 2000000
namespace Go.Sx
open Go Go.Proofs
structure Sl.szX (s : Sl) : Prop where
 X : ∀ x∈s.X.xs,Sz KX x
 L : ∀ l∈s.L.xs,∀ y∈l.xs,Sz 200000 y
theorem zq5 (s : Sl) (col row : Nat) (l : Ln Rat) (x y : Rat) (hl : s.L.xs[col]?=some l) (hx : s.X.xs[col]?=some x) (hy : l.xs[row]?=some y) :
  FnM PP zlm [s.V,.int .i64 col,.int .i64 row] (facts s.F) (zbu (pV (PQ ⟨x,y⟩))):=by
 refine FnS.of zab mixed zqZ rfl rfl (Nat.le_of_ble_eq_true rfl) s.F_ok ?_
 intro w hw
 have h1:=(List.getElem?_eq_some_iff.1 hl).1
 have h2:=(List.getElem?_eq_some_iff.1 hx).1
 have h3:=(List.getElem?_eq_some_iff.1 hy).1
 have hAL : s.L.A.isSome=true:=zap (hw _ Sl.F_L) (by rw [zag Ln.C_len]; omega)
 have hAX : s.X.A.isSome=true:=zap (hw _ Sl.F_X) (by rw [zag zaP]; omega)
 have hAl : l.A.isSome=true:=zap (hw _ (Sl.F_l (List.mem_of_getElem? hl))) (by rw [zag zaP]; omega)
 conv=>whnf
 refine zaj.quiet (by kernel_rfl) ?_
 conv=>whnf
 refine ⟨⟨by omega,by omega,hAX⟩,?_⟩
 conv=>whnf
 refine zao.elem (A:=s.X.A) (xs:=s.X.xs) (j:=(col : Int)) ratQ zaP Sl.F_X rfl (by rw [Int.toNat_natCast]; omega) (by decide) (fun h=>by cases h) ?_
 intro x' hx'
 obtain rfl : x'=x:=by rw [Int.toNat_natCast,hx] at hx'; exact (Option.some.inj hx').symm
 conv=>whnf
 refine ⟨⟨by omega,by omega,hAL⟩,?_⟩
 conv=>whnf
 refine zao.elem (A:=s.L.A) (xs:=s.L.xs) (j:=(col : Int)) Ln.C Ln.C_len Sl.F_L rfl (by rw [Int.toNat_natCast]; omega) (by decide) (fun _=>rfl) ?_
 intro l' hl'
 obtain rfl : l'=l:=by rw [Int.toNat_natCast,hl] at hl'; exact (Option.some.inj hl').symm
 conv=>whnf
 refine ⟨⟨by omega,by omega,hAl⟩,?_⟩
 conv=>whnf
 refine zao.elem (A:=l'.A) (xs:=l'.xs) (j:=(row : Int)) ratQ zaP (Sl.F_l (List.mem_of_getElem? hl)) rfl (by rw [Int.toNat_natCast]; omega) (by decide) (fun h=>by cases h) ?_
 intro y' hy'
 obtain rfl : y'=y:=by rw [Int.toNat_natCast,hy] at hy'; exact (Option.some.inj hy').symm
 conv=>whnf
 exact zaa rfl
def midV (p q : V) : V:=⟨(p.x+q.x)/2,(p.y+q.y)/2⟩
theorem zBc (p q : V) (hp : SzV 400000 p) (hq : SzV 400000 q) : Fn PP zhD [pV (PQ p),pV (PQ q)] (pV (PQ (midV p q))):=by
 refine Fn.of zab mixed zoz rfl rfl (Nat.le_of_ble_eq_true rfl) ?_
 intro w
 conv=>whnf
 refine zaj.quiet (by kernel_rfl) ?_
 conv=>whnf
 refine cd (ztI p.x q.x (hp.1.le (by decide)) (hq.1.le (by decide))) ?_
 conv=>whnf
 refine cd (ztI p.y q.y (hp.2.le (by decide)) (hq.2.le (by decide))) ?_
 conv=>whnf
 exact zaa rfl
theorem zAy {A B : V} {x : Rat} (hA : SzV K0 A) (hB : SzV K0 B) (hx : Sz KY x) : Sz 400000 (hgtE A B x).1:=by
 have z0 : Sz 400000 (0 : Rat):=(show Sz 1 (0 : Rat) from ⟨by decide,by decide⟩).le (by decide)
 unfold hgtE
 split
 ·exact z0
 ·split
  ·exact (hA.2.add (((hx.sub hA.1).div (hB.sub hA).1).mul (hB.sub hA).2)).le (by decide)
  ·exact z0
theorem zzg {s : Sl} (hz : s.sz) {l : Ln Nat} {row : Nat} {x : Rat} (hx : Sz KY x) : SzV 400000 (onP s l row x):=by
 refine ⟨hx.le (by decide),?_⟩
 have z0 : Sz 400000 (0 : Rat):=(show Sz 1 (0 : Rat) from ⟨by decide,by decide⟩).le (by decide)
 have hall : ∀ y∈zjx s l x,Sz 400000 y:=fun y hy=>by
  rcases List.mem_cons.1 hy with rfl | hy
  ·exact hz.lo.2.le (by decide)
  rcases List.mem_append.1 hy with hy | hy
  ·obtain ⟨k,_,rfl⟩:=List.mem_map.1 hy
   unfold hgtS
   split
   ·rename_i e he; have:=hz.sg e (List.mem_of_getElem? he); exact zAy this.1.1 this.1.2 hx
   ·exact z0
  ·rw [List.mem_singleton.1 hy]; exact hz.hi.2.le (by decide)
 show Sz 400000 ((zjx s l x).getD row 0)
 rw [List.getD_eq_getElem?_getD]
 cases h : (zjx s l x)[row]? with
 | none=>exact z0
 | some y=>exact hall y (List.mem_of_getElem? h)
def cenP (s : Sl) (x : Cel) : V :=
 let X:=s.X.xs.getD x.c 0
 let l:=(s.L.xs.map (·.xs)).getD x.c []
 let xm:=(X+s.X.xs.getD (x.c+1) 0)/2
 let t:=s.S.xs.getD x.c ⟨none,0,[]⟩
 match x.k with
 | 0=>⟨X,l.getD x.r 0⟩
 | 1=>midV ⟨X,l.getD x.r 0⟩ ⟨X,l.getD (x.r+1) 0⟩
 | 2=>onP s t x.r xm
 | _=>midV (onP s t x.r xm) (onP s t (x.r+1) xm)
theorem zkP {s : Sl} {d c r : Nat} (h : (r : Int)<zdC s d c) : ∃ l x,s.L.xs[c]?=some l∧s.X.xs[c]?=some x∧r+d<l.xs.length:=by
 unfold zdC at h
 split at h
 ·rename_i hc
  refine ⟨s.L.xs[c],s.X.xs[c],List.getElem?_eq_getElem hc.1,List.getElem?_eq_getElem hc.2,?_⟩
  rw [List.getD_eq_getElem?_getD,List.getElem?_map,List.getElem?_eq_getElem hc.1] at h
  simp only [Option.map_some,Option.getD_some] at h
  omega
 ·omega
theorem zl6 {s : Sl} {d c r : Nat} (h : (r : Int)<zbv s d c) : ∃ t x y,s.S.xs[c]?=some t∧s.X.xs[c]?=some x∧s.X.xs[c+1]?=some y∧r<t.xs.length+d∧c+1<s.L.xs.length:=by
 unfold zbv at h
 split at h
 ·rename_i hc
  refine ⟨s.S.xs[c],s.X.xs[c],s.X.xs[c+1],List.getElem?_eq_getElem hc.1,List.getElem?_eq_getElem (by omega),List.getElem?_eq_getElem hc.2.1,?_,hc.2.2⟩
  rw [List.getD_eq_getElem?_getD,List.getElem?_map,List.getElem?_eq_getElem hc.1] at h
  simp only [Option.map_some,Option.getD_some] at h
  omega
 ·omega
theorem zb3 {α : Type} {l : List α} {i : Nat} {x d : α} (h : l[i]?=some x) : l.getD i d=x:=by rw [List.getD_eq_getElem?_getD,h]; rfl
theorem zvl (s : Sl) (x : Cel) (hs : s.small) (hz : s.sz) (hzx : s.szX) (hk : x.k<4) (hx : (x.r : Int)<cntK s x.k x.c) : FnM PP zkJ [s.V,x.V] (facts s.F) (zbu (.tuple #[pV (PQ (cenP s x)),.int .i64 0])):=by
 refine FnS.of zab mixed zql rfl rfl (Nat.le_of_ble_eq_true rfl) s.F_ok ?_
 intro w hw
 obtain ⟨k,c,r⟩:=x
 replace hx : (r : Int)<cntK s k c:=hx
 replace hk : k<4:=hk
 have hs':=hs
 obtain ⟨s1,s2,s3,s4,s5,s6⟩:=hs'
 have hc : c≤1000000:=by
  have hk' : k=0∨k=1∨k=2∨k=3:=by omega
  rcases hk' with rfl | rfl | rfl | rfl
  ·obtain ⟨l,x,h1,h2,h3⟩:=zkP hx; have:=(List.getElem?_eq_some_iff.1 h1).1; omega
  ·obtain ⟨l,x,h1,h2,h3⟩:=zkP hx; have:=(List.getElem?_eq_some_iff.1 h1).1; omega
  ·obtain ⟨l,x,y,h1,h2,h3⟩:=zl6 hx; have:=(List.getElem?_eq_some_iff.1 h1).1; omega
  ·obtain ⟨l,x,y,h1,h2,h3⟩:=zl6 hx; have:=(List.getElem?_eq_some_iff.1 h1).1; omega
 have his:=zBB s ⟨k,c,r⟩ hs ⟨hk,hc⟩
 rw [decide_eq_true hx] at his
 have hk' : k=0∨k=1∨k=2∨k=3:=by omega
 have hw1 : ∀ {n : Nat},n≤1000000000→IntKind.i64.wrap ((n : Int)+1)=((n+1 : Nat) : Int):=fun h=>by rw [wrap_i64 (by omega) (by omega)]; rfl
 conv=>whnf
 refine cfs his ?_
 rcases hk' with rfl | rfl | rfl | rfl
 ·obtain ⟨l,x,h1,h2,h3⟩:=zkP hx
  obtain ⟨y,hy⟩ : ∃ y,l.xs[r]?=some y:=⟨_,List.getElem?_eq_getElem (by omega)⟩
  have hv:=zq5 s c r l x y h1 h2 hy
  conv=>whnf
  refine cfs hv ?_
  conv=>whnf
  refine zas ?_
  rw [show cenP s ⟨0,c,r⟩=⟨x,y⟩ by simp only [cenP]; rw [zb3 h2,zb3 (show (s.L.xs.map (·.xs))[c]?=some l.xs by rw [List.getElem?_map,h1]; rfl),zb3 hy]]
 ·obtain ⟨l,x,h1,h2,h3⟩:=zkP hx
  obtain ⟨y,hy⟩ : ∃ y,l.xs[r]?=some y:=⟨_,List.getElem?_eq_getElem (by omega)⟩
  obtain ⟨y',hy'⟩ : ∃ y,l.xs[r+1]?=some y:=⟨_,List.getElem?_eq_getElem (by omega)⟩
  have hv:=zq5 s c r l x y h1 h2 hy
  have hv':=zq5 s c (r+1) l x y' h1 h2 hy'
  have zx:=hzx.X x (List.mem_of_getElem? h2)
  have zy:=hzx.L l (List.mem_of_getElem? h1) y (List.mem_of_getElem? hy)
  have zy':=hzx.L l (List.mem_of_getElem? h1) y' (List.mem_of_getElem? hy')
  have:=s4 l (List.mem_of_getElem? h1)
  rw [←hw1 (n:=r) (by omega)] at hv'
  conv=>whnf
  refine zaj.quiet (by kernel_rfl) ?_
  conv=>whnf
  refine cds hv ?_
  conv=>whnf
  refine cds hv' ?_
  conv=>whnf
  refine cd (zBc ⟨x,y⟩ ⟨x,y'⟩ ⟨zx.le (by decide),zy.le (by decide)⟩ ⟨zx.le (by decide),zy'.le (by decide)⟩) ?_
  conv=>whnf
  refine zas ?_
  rw [show cenP s ⟨1,c,r⟩=midV ⟨x,y⟩ ⟨x,y'⟩ by simp only [cenP]; rw [zb3 h2,zb3 (show (s.L.xs.map (·.xs))[c]?=some l.xs by rw [List.getElem?_map,h1]; rfl),zb3 hy,zb3 hy']]
 all_goals
  obtain ⟨t,x,y,h1,h2,h3,h4,h5⟩:=zl6 hx
  have:=s5 t (List.mem_of_getElem? h1)
  have zx:=hzx.X x (List.mem_of_getElem? h2)
  have zy:=hzx.X y (List.mem_of_getElem? h3)
  have zm : Sz KY ((x+y)/2):=((zx.add zy).div (show Sz 2 (2 : Rat) from ⟨by decide,by decide⟩)).le (by decide)
  have h6:=(List.getElem?_eq_some_iff.1 h2).1
  have h7:=(List.getElem?_eq_some_iff.1 h3).1
  have hAX : s.X.A.isSome=true:=zap (hw _ Sl.F_X) (by rw [zag zaP]; omega)
  have hon:=c_on s c r t ((x+y)/2) hs hz h1 zm (by omega)
  have hon':=c_on s c (r+1) t ((x+y)/2) hs hz h1 zm (by omega)
  rw [←hw1 (n:=r) (by omega)] at hon'
  conv=>whnf
  refine zaj.quiet (by kernel_rfl) ?_
  conv=>whnf
  refine ⟨⟨show (0 : Int)≤(c : Int) by omega,show (c : Int)<(s.X.xs.length : Int) by omega,hAX⟩,?_⟩
  conv=>whnf
  refine zao.elem (A:=s.X.A) (xs:=s.X.xs) (j:=(c : Int)) ratQ zaP Sl.F_X rfl (by rw [Int.toNat_natCast]; omega) (by decide) (fun h=>by cases h) ?_
  intro x' hx'
  obtain rfl : x'=x:=by rw [Int.toNat_natCast,h2] at hx'; exact (Option.some.inj hx').symm
  conv=>whnf
  refine ⟨⟨show 0≤IntKind.i64.wrap ((c : Int)+1) by rw [hw1 (by omega)]; omega,show IntKind.i64.wrap ((c : Int)+1)<(s.X.xs.length : Int) by rw [hw1 (by omega)]; omega,hAX⟩,?_⟩
  conv=>whnf
  refine zao.elem (A:=s.X.A) (xs:=s.X.xs) (j:=((c+1 : Nat) : Int)) ratQ zaP Sl.F_X (congrArg (fun z : Int=>s.X.A.map (fun a=>a.add (z.toNat*3))) (hw1 (n:=c) (by omega))) (by rw [Int.toNat_natCast]; omega) (by decide) (fun h=>by cases h) ?_
  intro y' hy'
  obtain rfl : y'=y:=by rw [Int.toNat_natCast,h3] at hy'; exact (Option.some.inj hy').symm
  conv=>whnf
  refine cd (ztI x' y' (zx.le (by decide)) (zy.le (by decide))) ?_
  conv=>whnf
  refine cfs hon ?_
  conv=>whnf
 ·refine zas ?_
  rw [show cenP s ⟨2,c,r⟩=onP s t r ((x'+y')/2) by simp only [cenP]; rw [zb3 h2,zb3 h3,zb3 h1]]
 ·refine zaj.quiet (by kernel_rfl) ?_
  conv=>whnf
  refine cds hon' ?_
  conv=>whnf
  refine cd (zBc _ _ (zzg hz zm) (zzg hz zm)) ?_
  conv=>whnf
  refine zas ?_
  rw [show cenP s ⟨3,c,r⟩=midV (onP s t r ((x'+y')/2)) (onP s t (r+1) ((x'+y')/2)) by simp only [cenP]; rw [zb3 h2,zb3 h3,zb3 h1]]
end Go.Sx
end
section
set_option maxRecDepth 10000
set_option maxHeartbeats 2000000
namespace Go.Sx
open Go Go.Proofs
def zCI (a b : Cel) : Prop:=a.c<b.c∨(a.c=b.c∧(a.k<b.k∨(a.k=b.k∧a.r<b.r)))
instance (a b : Cel) : Decidable (zCI a b):=inferInstanceAs (Decidable (_∨_))
def sgn (k : Nat) : Int:=if k=0∨k=3 then 1 else -1
theorem Sl.is_len {s : Sl} (h : s.is) : s.L.xs.length=s.X.xs.length∧s.S.xs.length=s.X.xs.length-1∧0<s.X.xs.length:=by
 obtain ⟨h1,h2,h3⟩:=h
 have e2:=congrArg List.length h2
 have e3:=congrArg List.length h3
 rw [zf7] at e3
 simp only [List.length_map] at e2 e3
 refine ⟨e2,e3,?_⟩
 rw [h1]
 have : s.lo.x∈xsL s.lo s.hi (pcsL s.lo s.hi s.sg.xs):=zgm.2 (List.mem_cons_self ..)
 exact List.length_pos_of_mem this
theorem Sl.is_line {s : Sl} (h : s.is) {l : Ln Rat} (hl : l∈s.L.xs) : ∃ x,l.xs=ysL s.lo s.hi (pcsL s.lo s.hi s.sg.xs) x:=by
 have : l.xs∈s.L.xs.map (·.xs):=List.mem_map.2 ⟨l,hl,rfl⟩
 rw [h.2.1] at this
 obtain ⟨x,_,hx⟩:=List.mem_map.1 this
 exact ⟨x,hx.symm⟩
theorem zoA {f : Rat→Rat→List Nat} {t : List Nat} : ∀ {l : List Rat},t∈zbI f l→∃ x y,t=f x y
 | [],h=>by cases h
 | [_],h=>by cases h
 | x::y::r,h=>by
  rcases List.mem_cons.1 h with rfl | h
  ·exact ⟨x,y,rfl⟩
  ·exact zoA h
theorem Sl.is_strip {s : Sl} (h : s.is) {l : Ln Nat} (hl : l∈s.S.xs) : ∃ x y,l.xs=zkL s.lo s.hi (pcsL s.lo s.hi s.sg.xs) x y:=by
 have : l.xs∈s.S.xs.map (·.xs):=List.mem_map.2 ⟨l,hl,rfl⟩
 rw [h.2.2] at this
 exact zoA this
theorem zxc {lo hi : V} {ps : List Pc} {x : Rat} : (ysL lo hi ps x).length≤2+3*ps.length:=by
 refine Nat.le_trans (znC _) ?_
 have:=zs6 x ps
 simp only [List.length_cons]; omega
theorem zrP {lo hi : V} {ps : List Pc} {l r : Rat} : (zkL lo hi ps l r).length≤ps.length:=by
 refine Nat.le_trans (ztP _) ?_
 rw [(zev _).length_eq]
 exact List.length_filterMap_le _ _
theorem zqo {lo hi : V} {E : List (V×V)} : (pcsL lo hi E).length≤E.length:=znf ..
theorem zvQ {s : Sl} {B : Nat} (hL : ∀ l∈s.L.xs,l.xs.length≤B) (hS : ∀ l∈s.S.xs,l.xs.length≤B) (k c : Nat) : cntK s k c≤B+2:=by
 have h1 : ∀ d,zdC s d c≤B+2:=fun d=>by
  unfold zdC; split
  ·rename_i h
   have:=hL _ (List.getElem_mem h.1)
   rw [List.getD_eq_getElem?_getD,List.getElem?_map,List.getElem?_eq_getElem h.1]
   simp only [Option.map_some,Option.getD_some]; omega
  ·omega
 have h2 : ∀ d,d≤2→zbv s d c≤B+2:=fun d hd=>by
  unfold zbv; split
  ·rename_i h
   have:=hS _ (List.getElem_mem h.1)
   rw [List.getD_eq_getElem?_getD,List.getElem?_map,List.getElem?_eq_getElem h.1]
   simp only [Option.map_some,Option.getD_some]; omega
  ·omega
 match k with
 | 0=>exact h1 0
 | 1=>exact h1 1
 | 2=>exact h2 2 (by omega)
 | _+3=>exact h2 1 (by omega)
theorem zt4 {s : Sl} {B c : Nat} (h : ∀ k,cntK s k c≤B) : ∀ j,(colF s c j).length≤j*B
 | 0=>by simp [colF]
 | j+1=>by
  have h1:=zt4 h j
  have h2:=h (3-j)
  rw [colF,List.length_append,Nat.succ_mul]
  simp only [zeU,List.length_map,List.length_range]
  omega
theorem zn0 {s : Sl} {B : Nat} (h : ∀ k c,cntK s k c≤B) : ∀ n c,(zdA s c n).length≤n*(4*B)
 | 0,c=>by simp [zdA]
 | n+1,c=>by
  have h1:=zn0 h n (c+1)
  have h2:=zt4 (c:=c) (fun k=>h k c) 4
  rw [zdA,List.length_append,Nat.succ_mul]
  omega
theorem Sl.is_small {s : Sl} (h : s.is) (hE : s.sg.xs.length≤8) : s.small∧(zgw s).length≤1000000000:=by
 obtain ⟨e1,e2,e3⟩:=Sl.is_len h
 have hp : (pcsL s.lo s.hi s.sg.xs).length≤8:=Nat.le_trans zqo hE
 have hX : s.X.xs.length≤6418:=by
  rw [h.1]
  refine Nat.le_trans (znC _) ?_
  have:=zlk (pcsL s.lo s.hi s.sg.xs) (pcsL s.lo s.hi s.sg.xs).length (by omega)
  simp only [List.length_cons]; omega
 have hL : ∀ l∈s.L.xs,l.xs.length≤26:=fun l hl=>by
  obtain ⟨x,hx⟩:=Sl.is_line h hl
  rw [hx]; exact Nat.le_trans zxc (by omega)
 have hS : ∀ l∈s.S.xs,l.xs.length≤26:=fun l hl=>by
  obtain ⟨x,y,hx⟩:=Sl.is_strip h hl
  rw [hx]; exact Nat.le_trans zrP (by omega)
 refine ⟨⟨by omega,by omega,by omega,fun l hl=>Nat.le_trans (hL l hl) (by decide),fun l hl=>Nat.le_trans (hS l hl) (by decide),by omega⟩,?_⟩
 have hc:=zn0 (B:=28) (fun k c=>zvQ hL hS k c) s.X.xs.length 0
 refine Nat.le_trans hc ?_
 exact Nat.le_trans (Nat.mul_le_mul_right _ hX) (by decide)
theorem zBi {lo hi : V} {ps : List Pc} {x : Rat} (hlo : SzV K0 lo) (hhi : SzV K0 hi) (hps : zmD ps) (hx : Sz KX x) : ∀ y∈ysL lo hi ps x,Sz 200000 y:=fun y hy=>by
 rw [ysL,zgm] at hy
 rcases List.mem_cons.1 hy with rfl | hy
 ·exact hlo.2.le (by decide)
 rcases List.mem_cons.1 hy with rfl | hy
 ·exact hhi.2.le (by decide)
 obtain ⟨p,hp,hy⟩:=List.mem_flatMap.1 hy
 exact ztb (hps p hp).1 hx y hy
theorem Sl.is_szX {s : Sl} (h : s.is) (hz : s.sz) : s.szX:=by
 have hps : zmD (pcsL s.lo s.hi s.sg.xs):=zw4 hz.lo hz.hi (fun e he=>(hz.sg e he).1)
 have hX : ∀ x∈s.X.xs,Sz KX x:=fun x hx=>by rw [h.1] at hx; exact zzA hz.lo hz.hi hps x hx
 refine ⟨hX,fun l hl=>?_⟩
 have : l.xs∈s.L.xs.map (·.xs):=List.mem_map.2 ⟨l,hl,rfl⟩
 rw [h.2.1] at this
 obtain ⟨x,hx,e⟩:=List.mem_map.1 this
 rw [←e]
 exact zBi hz.lo hz.hi hps (hX x hx)
end Go.Sx
end
section
set_option maxRecDepth 10000
set_option maxHeartbeats 1000000
namespace Go.Sx
theorem zvI {t q d : Rat} (hd : 0<d) : 0≤(t-q)*d↔q≤t:=by
 constructor
 ·intro h
  by_cases h1 : t<q
  ·have:=Rat.mul_pos (show 0<q-t by grind) hd; grind
  ·exact Rat.not_lt.1 h1
 ·intro h; exact Rat.mul_nonneg (by grind) (Rat.le_of_lt hd)
theorem zzY {t q d : Rat} (hd : d<0) : 0≤(t-q)*d↔t≤q:=by
 have:=zvI (t:=-t) (q:=-q) (d:=-d) (by grind)
 rw [show (-t - -q)*-d=(t-q)*d by grind] at this
 rw [this]; grind
def inR (b : Bx) (A B : V) (k : Nat) (t : Rat) : Prop:=0≤t∧t≤1∧∀ j,j<k→0≤zaR b A j+t*(zaR b B j-zaR b A j)
theorem zyZ {b : Bx} {A B : V} {k : Nat} {t : Rat} : inR b A B (k+1) t↔inR b A B k t∧0≤zaR b A k+t*(zaR b B k-zaR b A k):=by
 constructor
 ·rintro ⟨h1,h2,h3⟩; exact ⟨⟨h1,h2,fun j hj=>h3 j (by omega)⟩,h3 k (by omega)⟩
 ·rintro ⟨⟨h1,h2,h3⟩,h4⟩
  refine ⟨h1,h2,fun j hj=>?_⟩
  by_cases hjk : j=k
  ·rw [hjk]; exact h4
  ·exact h3 j (by omega)
theorem zrZ (b : Bx) (A B : V) : ∀ k,(zcw b A B k=none→∀ t,¬inR b A B k t)∧∀ l h,zcw b A B k=some (l,h)→∀ t,(l≤t∧t≤h)↔inR b A B k t
 | 0=>by
  refine ⟨fun h=>(by cases h),fun l h e t=>?_⟩
  cases e
  exact ⟨fun h=>⟨h.1,h.2,fun j hj=>absurd hj (Nat.not_lt_zero j)⟩,fun h=>⟨h.1,h.2.1⟩⟩
 | k+1=>by
  obtain ⟨i1,i2⟩:=zrZ b A B k
  have hs:=fun t=>zyZ (b:=b) (A:=A) (B:=B) (k:=k) (t:=t)
  rw [zcw]
  cases hc : zcw b A B k with
  | none=>exact ⟨fun _ t h=>i1 hc t ((hs t).1 h).1,fun l h e=>(by cases e)⟩
  | some p =>
   obtain ⟨l,h⟩:=p
   have i3:=i2 l h hc
   simp only
   generalize zaR b A k=f at hs ⊢
   generalize zaR b B k=g at hs ⊢
   by_cases h0 : g-f=0
   ·rw [if_pos h0]
    have e : ∀ t,f+t*(g-f)=f:=fun t=>by rw [h0]; grind
    by_cases hf : f<0
    ·rw [if_pos hf]
     refine ⟨fun _ t ht=>?_,fun l h e=>(by cases e)⟩
     have:=((hs t).1 ht).2
     rw [e] at this; grind
    ·rw [if_neg hf]
     refine ⟨fun h=>(by cases h),fun l' h' e' t=>?_⟩
     cases e'
     rw [hs,e,←i3]
     exact ⟨fun h=>⟨h,by grind⟩,fun h=>h.1⟩
   rw [if_neg h0]
   have hq : ∀ t,f+t*(g-f)=(t - -f/(g-f))*(g-f):=fun t=>by
    have:=Rat.div_mul_cancel (a:=-f) h0
    grind
   generalize -f/(g-f)=q at hq ⊢
   by_cases hd : 0<g-f
   ·have hk : ∀ t,0≤f+t*(g-f)↔q≤t:=fun t=>by rw [hq]; exact zvI hd
    by_cases hl : l<q
    ·rw [if_pos ⟨hd,hl⟩]
     refine ⟨fun h=>(by cases h),fun l' h' e' t=>?_⟩
     cases e'
     rw [hs,hk,←i3]
     exact ⟨fun h=>⟨⟨by grind,h.2⟩,h.1⟩,fun h=>⟨h.2,h.1.2⟩⟩
    ·rw [if_neg (fun h=>hl h.2),if_neg (fun h=>by grind)]
     refine ⟨fun h=>(by cases h),fun l' h' e' t=>?_⟩
     cases e'
     rw [hs,hk,←i3]
     exact ⟨fun h=>⟨h,by grind⟩,fun h=>h.1⟩
   ·have hd' : g-f<0:=by grind
    have hk : ∀ t,0≤f+t*(g-f)↔t≤q:=fun t=>by rw [hq]; exact zzY hd'
    rw [if_neg (fun h=>by grind)]
    by_cases hl : q<h
    ·rw [if_pos ⟨hd',hl⟩]
     refine ⟨fun h=>(by cases h),fun l' h' e' t=>?_⟩
     cases e'
     rw [hs,hk,←i3]
     exact ⟨fun h=>⟨⟨h.1,by grind⟩,h.2⟩,fun h=>⟨h.1.1,h.2⟩⟩
    ·rw [if_neg (fun h=>hl h.2)]
     refine ⟨fun h=>(by cases h),fun l' h' e' t=>?_⟩
     cases e'
     rw [hs,hk,←i3]
     exact ⟨fun h=>⟨h,by grind⟩,fun h=>h.1⟩
def inX (lo hi p : V) : Prop:=(lo.x≤p.x∧p.x≤hi.x)∧lo.y≤p.y∧p.y≤hi.y
theorem zta {lo hi A B : V} {t : Rat} : inR ⟨PQ lo,PQ hi⟩ A B 4 t↔(0≤t∧t≤1)∧inX lo hi (A.at B t):=by
 have e0 : zaR ⟨PQ lo,PQ hi⟩ A 0+t*(zaR ⟨PQ lo,PQ hi⟩ B 0-zaR ⟨PQ lo,PQ hi⟩ A 0)=(A.at B t).x-lo.x:=by
  show (A.x-(Q lo.x).v)+t*((B.x-(Q lo.x).v)-(A.x-(Q lo.x).v))=(A.x+(B.x-A.x)*t)-lo.x
  rw [Q_v]; grind
 have e1 : zaR ⟨PQ lo,PQ hi⟩ A 1+t*(zaR ⟨PQ lo,PQ hi⟩ B 1-zaR ⟨PQ lo,PQ hi⟩ A 1)=hi.x-(A.at B t).x:=by
  show ((Q hi.x).v-A.x)+t*(((Q hi.x).v-B.x)-((Q hi.x).v-A.x))=hi.x-(A.x+(B.x-A.x)*t)
  rw [Q_v]; grind
 have e2 : zaR ⟨PQ lo,PQ hi⟩ A 2+t*(zaR ⟨PQ lo,PQ hi⟩ B 2-zaR ⟨PQ lo,PQ hi⟩ A 2)=(A.at B t).y-lo.y:=by
  show (A.y-(Q lo.y).v)+t*((B.y-(Q lo.y).v)-(A.y-(Q lo.y).v))=(A.y+(B.y-A.y)*t)-lo.y
  rw [Q_v]; grind
 have e3 : zaR ⟨PQ lo,PQ hi⟩ A 3+t*(zaR ⟨PQ lo,PQ hi⟩ B 3-zaR ⟨PQ lo,PQ hi⟩ A 3)=hi.y-(A.at B t).y:=by
  show ((Q hi.y).v-A.y)+t*(((Q hi.y).v-B.y)-((Q hi.y).v-A.y))=hi.y-(A.y+(B.y-A.y)*t)
  rw [Q_v]; grind
 unfold inR inX
 constructor
 ·rintro ⟨h1,h2,h3⟩
  have k0:=h3 0 (by decide); have k1:=h3 1 (by decide); have k2:=h3 2 (by decide); have k3:=h3 3 (by decide)
  rw [e0] at k0; rw [e1] at k1; rw [e2] at k2; rw [e3] at k3
  exact ⟨⟨h1,h2⟩,⟨by grind,by grind⟩,by grind,by grind⟩
 ·rintro ⟨⟨h1,h2⟩,⟨k0,k1⟩,k2,k3⟩
  refine ⟨h1,h2,fun j hj=>?_⟩
  match j,hj with
  | 0,_=>rw [e0]; grind
  | 1,_=>rw [e1]; grind
  | 2,_=>rw [e2]; grind
  | 3,_=>rw [e3]; grind
theorem zuT {lo hi A B c d : V} (h : zdb ⟨PQ lo,PQ hi⟩ A B=some (c,d)) : ∃ l u,l≤u∧0≤l∧u≤1∧c=A.at B l∧d=A.at B u∧∀ t,(l≤t∧t≤u)↔(0≤t∧t≤1)∧inX lo hi (A.at B t):=by
 unfold zdb at h
 split at h
 ·cases h
 ·rename_i l u hc
  split at h
  ·cases h
  ·rename_i hlu
   cases h
   have hi:=(zrZ ⟨PQ lo,PQ hi⟩ A B 4).2 l u hc
   have hl : l≤u:=Rat.not_lt.1 hlu
   have k1:=zta.1 ((hi l).1 ⟨Rat.le_refl,hl⟩)
   have k2:=zta.1 ((hi u).1 ⟨hl,Rat.le_refl⟩)
   exact ⟨l,u,hl,k1.1.1,k2.1.2,rfl,rfl,fun t=>(hi t).trans zta⟩
theorem zwt {A B c d q : V} (hc : onS A B c) (hd : onS A B d) (hq : onS c d q) : onS A B q:=by
 obtain ⟨s,⟨s0,s1⟩,rfl⟩:=hc
 obtain ⟨t,⟨t0,t1⟩,rfl⟩:=hd
 obtain ⟨r,⟨r0,r1⟩,rfl⟩:=hq
 refine ⟨s+(t-s)*r,⟨?_,?_⟩,?_⟩
 ·have h1:=Rat.mul_nonneg s0 (show 0≤1-r by grind)
  have h2:=Rat.mul_nonneg t0 r0
  grind
 ·have h1:=Rat.mul_nonneg (show 0≤1-s by grind) (show 0≤1-r by grind)
  have h2:=Rat.mul_nonneg (show 0≤1-t by grind) r0
  grind
 ·show (⟨(A.x+(B.x-A.x)*s)+((A.x+(B.x-A.x)*t)-(A.x+(B.x-A.x)*s))*r,(A.y+(B.y-A.y)*s)+((A.y+(B.y-A.y)*t)-(A.y+(B.y-A.y)*s))*r⟩ : V)=⟨A.x+(B.x-A.x)*(s+(t-s)*r),A.y+(B.y-A.y)*(s+(t-s)*r)⟩
  congr 1 <;> grind
theorem zA2 {A B p q : V} (hp : onS A B p) (hq : onS A B q) : onS A B ⟨(p.x+q.x)/2,(p.y+q.y)/2⟩:=by
 refine zwt hp hq ⟨1/2,⟨by grind,by grind⟩,?_⟩
 show _=(⟨p.x+(q.x-p.x)*(1/2),p.y+(q.y-p.y)*(1/2)⟩ : V)
 congr 1 <;> grind
theorem zzx {lo hi a b p : V} (ha : inX lo hi a) (hb : inX lo hi b) (hp : onS a b p) : inX lo hi p:=by
 obtain ⟨⟨a1,a2⟩,a3,a4⟩:=ha
 obtain ⟨⟨b1,b2⟩,b3,b4⟩:=hb
 obtain ⟨t,⟨t0,t1⟩,rfl⟩:=hp
 have key : ∀ u v c : Rat,c≤u→c≤v→c≤u+(v-u)*t:=fun u v c h1 h2=>by
  have k1:=Rat.mul_nonneg (show 0≤u-c by grind) (show 0≤1-t by grind)
  have k2:=Rat.mul_nonneg (show 0≤v-c by grind) t0
  grind
 have key2 : ∀ u v c : Rat,u≤c→v≤c→u+(v-u)*t≤c:=fun u v c h1 h2=>by
  have k1:=Rat.mul_nonneg (show 0≤c-u by grind) (show 0≤1-t by grind)
  have k2:=Rat.mul_nonneg (show 0≤c-v by grind) t0
  grind
 exact ⟨⟨key _ _ _ a1 b1,key2 _ _ _ a2 b2⟩,key _ _ _ a3 b3,key2 _ _ _ a4 b4⟩
theorem zv2 {A B : V} {x y : Rat} (hne : (B-A).x≠0) (h : onS A B ⟨x,y⟩) : hgtE A B x=(y,0):=by
 obtain ⟨t,⟨t0,t1⟩,e⟩:=h
 have ex : x=A.x+(B.x-A.x)*t:=congrArg V.x e
 have ey : y=A.y+(B.y-A.y)*t:=congrArg V.y e
 have ht : (x-A.x)/(B-A).x=t:=by
  rw [ex,show A.x+(B.x-A.x)*t-A.x=t*(B-A).x by show _=t*(B.x-A.x); grind]
  exact Rat.mul_div_cancel hne
 unfold hgtE
 rw [if_neg hne,ht,if_pos (zcb.2 ⟨t0,t1⟩),ey]
 show (A.y+t*(B.y-A.y),(0 : Int))=_
 congr 1; grind
theorem zwX {p : Pc} {x y : Rat} (h : hgtO p x=some y) : (p.b-p.a).x≠0∧onS p.a p.b ⟨x,y⟩:=by
 unfold hgtO hgtE at h
 by_cases hne : (p.b-p.a).x=0
 ·rw [if_pos hne] at h; cases h
 refine ⟨hne,?_⟩
 rw [if_neg hne] at h
 by_cases hu : zgb ((x-p.a.x)/(p.b-p.a).x)=true
 ·rw [if_pos hu] at h
  simp only [if_true] at h
  cases h
  refine ⟨_,zcb.1 hu,?_⟩
  have:=Rat.div_mul_cancel (a:=x-p.a.x) hne
  generalize (x-p.a.x)/(p.b-p.a).x=t at this ⊢
  show (⟨x,p.a.y+t*(p.b.y-p.a.y)⟩ : V)=⟨p.a.x+(p.b.x-p.a.x)*t,p.a.y+(p.b.y-p.a.y)*t⟩
  have h2 : t*(p.b.x-p.a.x)=x-p.a.x:=this
  congr 1 <;> grind
 ·rw [if_neg hu] at h; cases h
structure PcOf (lo hi : V) (E : List (V×V)) (p : Pc) (e : V×V) : Prop where
 at' : E[p.i]?=some e
 a : onS e.1 e.2 p.a
 b : onS e.1 e.2 p.b
 ia : inX lo hi p.a
 ib : inX lo hi p.b
 ne : p.a≠p.b
theorem zw8 {lo hi : V} {E : List (V×V)} {p : Pc} (hp : p∈pcsL lo hi E) : ∃ e,PcOf lo hi E p e:=by
 have : ∀ (l : List (V×V)) (i : Nat),p∈pcsF lo hi i l→∃ e j,l[j]?=some e∧pcsO lo hi e (i+j)=some p:=fun l=>by
  induction l with
  | nil=>intro i h; cases h
  | cons e r ih =>
   intro i h
   rcases List.mem_append.1 h with h | h
   ·refine ⟨e,0,rfl,?_⟩
    cases ho : pcsO lo hi e i with
    | none=>rw [ho] at h; cases h
    | some q=>rw [ho] at h; rw [List.mem_singleton.1 h]
   ·obtain ⟨e',j,h1,h2⟩:=ih (i+1) h
    exact ⟨e',j+1,by rw [List.getElem?_cons_succ]; exact h1,by rw [show i+(j+1)=i+1+j by omega]; exact h2⟩
 obtain ⟨e,j,h1,h2⟩:=this E 0 hp
 rw [Nat.zero_add] at h2
 refine ⟨e,?_⟩
 unfold pcsO at h2
 split at h2
 ·cases h2
 ·rename_i c d hc
  split at h2
  ·cases h2
  ·rename_i hcd
   cases h2
   obtain ⟨l,u,hlu,l0,u1,rfl,rfl,hiff⟩:=zuT hc
   have ic:=((hiff l).1 ⟨Rat.le_refl,hlu⟩)
   have iu:=((hiff u).1 ⟨hlu,Rat.le_refl⟩)
   have oc : onS e.1 e.2 (e.1.at e.2 l):=⟨l,ic.1,rfl⟩
   have ou : onS e.1 e.2 (e.1.at e.2 u):=⟨u,iu.1,rfl⟩
   unfold ordV
   split
   ·exact ⟨h1,ou,oc,iu.2,ic.2,fun h=>hcd h.symm⟩
   ·exact ⟨h1,oc,ou,ic.2,iu.2,hcd⟩
end Go.Sx
end
section
set_option maxRecDepth 10000
set_option maxHeartbeats 2000000
namespace Go.Sx
open Go Go.Proofs
def hgtR (A B : V) (x : Rat) : Rat×Int :=
 if (B-A).x=0 then (0,24) else if x<A.x∨B.x<x then (0,14) else ((A.at B ((x-A.x)/(B-A).x)).y,0)
theorem zz4 (A B : V) (x : Rat) : hgtR (ordV A B).1 (ordV A B).2 x=hgtE A B x:=by
 have key : ∀ A B : V,¬B.x<A.x→hgtR A B x=hgtE A B x:=fun A B hle=>by
  unfold hgtR hgtE
  by_cases h0 : (B-A).x=0
  ·rw [if_pos h0,if_pos h0]
  rw [if_neg h0,if_neg h0]
  have hd : 0<(B-A).x:=by
   have : (B-A).x=B.x-A.x:=rfl
   grind
  have hq:=Rat.div_mul_cancel (a:=x-A.x) h0
  generalize (x-A.x)/(B-A).x=q at hq
  have hB : (B-A).x=B.x-A.x:=rfl
  by_cases ho : x<A.x∨B.x<x
  ·rw [if_pos ho,if_neg]
   intro hu
   obtain ⟨u0,u1⟩:=zcb.1 hu
   have k1:=Rat.mul_nonneg u0 (Rat.le_of_lt hd)
   have k2:=Rat.mul_nonneg (show 0≤1-q by grind) (Rat.le_of_lt hd)
   rcases ho with ho | ho <;> grind
  ·rw [if_neg ho,if_pos]
   ·show (A.y+(B.y-A.y)*q,(0 : Int))=(A.y+q*(B.y-A.y),0)
    congr 1; grind
   ·refine zcb.2 ⟨?_,?_⟩
    ·refine Rat.not_lt.1 fun h=>?_
     have:=Rat.mul_pos (show 0 < -q by grind) hd
     exact ho (.inl (by grind))
    ·refine Rat.not_lt.1 fun h=>?_
     have:=Rat.mul_pos (show 0<q-1 by grind) hd
     exact ho (.inr (by grind))
 have swap : hgtE B A x=hgtE A B x:=by
  unfold hgtE
  by_cases h0 : (B-A).x=0
  ·have h1 : (A-B).x=0:=by have : B.x-A.x=0:=h0; show A.x-B.x=0; grind
   rw [if_pos h0,if_pos h1]
  have h1 : ¬(A-B).x=0:=fun h=>h0 (by have : A.x-B.x=0:=h; show B.x-A.x=0; grind)
  rw [if_neg h0,if_neg h1]
  have hq:=Rat.div_mul_cancel (a:=x-A.x) h0
  have hp:=Rat.div_mul_cancel (a:=x-B.x) h1
  generalize (x-A.x)/(B-A).x=q at hq ⊢
  generalize (x-B.x)/(A-B).x=p at hp ⊢
  have e : p=1-q:=by
   have : (p-(1-q))*(A-B).x=0:=by
    have h2 : (B-A).x=-(A-B).x:=by show B.x-A.x=-(A.x-B.x); grind
    rw [h2] at hq
    have h3 : (A-B).x=A.x-B.x:=rfl
    grind
   rcases Rat.mul_eq_zero.1 this with h | h
   ·grind
   ·exact absurd h h1
  have hu : zgb p=zgb q:=by
   refine Bool.eq_iff_iff.2 ?_
   rw [zcb,zcb,e]
   constructor <;> rintro ⟨h1,h2⟩ <;> exact ⟨by grind,by grind⟩
  rw [hu,e]
  split
  ·show (B.y+(1-q)*(A.y-B.y),(0 : Int))=(A.y+q*(B.y-A.y),0)
   congr 1; grind
  ·rfl
 unfold ordV
 split
 ·rename_i h
  rw [key B A (fun hlt=>?_),swap]
  have:=zmg.1 h
  unfold ltP2 at this
  grind
 ·rename_i h
  refine key A B (fun hlt=>?_)
  have : ¬cmpV A B>0:=h
  rw [zmg] at this
  unfold ltP2 at this
  grind
theorem ztT (s : Sg) (x : Raw) (hs : s.sm KS) (hx : x.sm KV) : Fn PP zdE [sV s,rawV x] (.tuple #[qV (zdP s x.v).1,.int .i64 (zdP s x.v).2]):=by
 have zA:=hs.1.sz (by decide)
 have zB:=hs.2.sz (by decide)
 have zx:=Raw.sz (by decide) hx.1 hx.2
 refine Fn.of zab mixed zhw rfl rfl (Nat.le_of_ble_eq_true rfl) ?_
 intro w
 conv=>whnf
 refine cf (znn s ⟨hs.1.le (by decide),hs.2.le (by decide)⟩) ?_
 rw [zdc]
 by_cases hd : zb5 s
 ·rw [zdP,if_pos hd,if_pos hd]
  conv=>whnf
  exact zas (by rw [qV,zto])
 rw [zdP,if_neg hd,if_neg hd,←zz4]
 have hord:=zqB s ⟨hs.1.le (by decide),hs.2.le (by decide)⟩
 have zo : SzV KS (ordV s.A.v s.B.v).1∧SzV KS (ordV s.A.v s.B.v).2:=by
  unfold ordV; split
  ·exact ⟨zB,zA⟩
  ·exact ⟨zA,zB⟩
 obtain ⟨P,Q',hPQ⟩ : ∃ P Q',ordV s.A.v s.B.v=(P,Q'):=⟨_,_,rfl⟩
 rw [hPQ] at hord zo ⊢
 simp only at hord zo ⊢
 conv=>whnf
 refine cf hord ?_
 conv=>whnf
 obtain ⟨zP,zQ⟩:=zo
 refine cf (zkV (Q Q'.x) (Q P.x) (zQ.1.q.le (by decide)) (zP.1.q.le (by decide))) ?_
 rw [Q_v,Q_v]
 have zd:=zQ.1.sub zP.1
 obtain ⟨d,hd'⟩ : ∃ d,d=Q'.x-P.x:=⟨_,rfl⟩
 rw [←hd'] at zd ⊢
 have hdx : (Q' - P).x=d:=hd'.symm
 rw [hgtR,hdx]
 conv=>whnf
 refine cf (znH (Q d) (zd.q.le (by decide))) ?_
 rw [Q_v]
 conv=>whnf
 refine zah ?_ ?_ <;> intro h
 ·have h1 : d=0:=zbL.1 (by simpa using h)
  rw [if_pos h1]
  conv=>whnf
  exact zas (by rw [qV,zto])
 have h1 : ¬d=0:=fun e=>by
  have : ¬cmpQ d 0=0:=by simpa using h
  exact this (zbL.2 e)
 rw [if_neg h1]
 conv=>whnf
 refine cf (zaX x (Q P.x) (hx.le (by decide)) (zP.1.q.le (by decide))) ?_
 rw [Q_v]
 conv=>whnf
 refine zah ?_ ?_ <;> intro h
 ·have h2 : x.v<P.x:=zbg.1 (of_decide_eq_true h)
  rw [if_pos (.inl h2)]
  conv=>whnf
  exact zas (by rw [qV,zto])
 have h2 : ¬x.v<P.x:=fun e=>of_decide_eq_false h (zbg.2 e)
 conv=>whnf
 refine cf (zaX x (Q Q'.x) (hx.le (by decide)) (zQ.1.q.le (by decide))) ?_
 rw [Q_v]
 conv=>whnf
 refine zah ?_ ?_ <;> intro h
 ·have h3 : Q'.x<x.v:=zbC.1 (of_decide_eq_true h)
  rw [if_pos (.inr h3)]
  conv=>whnf
  exact zas (by rw [qV,zto])
 have h3 : ¬Q'.x<x.v:=fun e=>of_decide_eq_false h (zbC.2 e)
 rw [if_neg (fun h=>h.elim h2 h3)]
 conv=>whnf
 refine zaj.late [(11,7,[9])] (by kernel_rfl) ?_
 conv=>whnf
 refine cd (zkV x (Q P.x) (hx.le (by decide)) (zP.1.q.le (by decide))) ?_
 rw [Q_v]
 have zf:=zx.sub zP.1
 conv=>whnf
 refine cd (zrk (Q (x.v-P.x)) (Q d) (zf.q.le (by decide)) (zd.q.le (by decide))) ?_
 rw [Q_v,Q_v,quoV,if_neg h1]
 have zt:=zf.div zd
 generalize (x.v-P.x)/d=t at zt ⊢
 conv=>whnf
 refine cf (zAN (PQ P) (PQ Q') (Q t) (zP.q.le (by decide)) (zQ.q.le (by decide)) (zt.q.le (by decide))) ?_
 rw [PQ_v,PQ_v,Q_v]
 conv=>whnf
 exact zas rfl
end Go.Sx
end
section
set_option maxRecDepth 10000
set_option maxHeartbeats 2000000
namespace Go.Sx
open Go Go.Proofs
def cutR (l h f s : Rat) : Rat×Rat×Bool :=
 if s=0 then (l,h,decide (0≤f))
 else if 0<s then ((if l < -f/s then -f/s else l),h,decide ((if l < -f/s then -f/s else l)≤h))
 else (l,(if -f/s<h then -f/s else h),decide (l≤(if -f/s<h then -f/s else h)))
theorem zut (x y : Rat) : decide (cmpQ x y≤0)=decide (x≤y):=decide_eq_decide.2 zwc
theorem zBD (x y : Rat) : decide (cmpQ x y≥0)=decide (y≤x):=decide_eq_decide.2 zwl
theorem zCa (l h f s : Rat) (zl : Sz 605 l) (zh : Sz 605 h) (zf : Sz 201 f) (zs : Sz 403 s) : Fn PP zfg [qV l,qV h,qV f,qV s] (.tuple #[qV (cutR l h f s).1,qV (cutR l h f s).2.1,.bool (cutR l h f s).2.2]):=by
 refine Fn.of zab mixed zj7 rfl rfl (Nat.le_of_ble_eq_true rfl) ?_
 intro w
 conv=>whnf
 refine cf (znH (Q s) (zs.q.le (by decide))) ?_
 rw [Q_v,cutR]
 conv=>whnf
 refine zah ?_ ?_ <;> intro hz
 ·have h1 : s=0:=zbL.1 (by simpa using hz)
  rw [if_pos h1]
  conv=>whnf
  refine zaj.late [(5,8,[1,4]),(6,9,[4])] (by kernel_rfl) ?_
  conv=>whnf
  refine cd (znH (Q f) (zf.q.le (by decide))) ?_
  rw [Q_v]
  conv=>whnf
  refine zam ?_
  rw [zBD]
 have h0 : ¬s=0:=fun e=>by
  have : ¬cmpQ s 0=0:=by simpa using hz
  exact this (zbL.2 e)
 rw [if_neg h0]
 have zt : Sz 605 (-f/s):=(zf.neg.div zs).le (by decide)
 conv=>whnf
 refine zah ?_ ?_ <;> intro hs
 ·have h1 : 0<s:=zuD.1 (by simpa using hs)
  rw [if_pos h1]
  conv=>whnf
  refine zaj.late [(8,11,[6])] (by kernel_rfl) ?_
  conv=>whnf
  refine cd (zuO (Q f) (zf.q.le (by decide))) ?_
  rw [Q_v]
  conv=>whnf
  refine cd (zrk (Q (-f)) (Q s) (zf.neg.q.le (by decide)) (zs.q.le (by decide))) ?_
  rw [Q_v,Q_v,quoV,if_neg h0]
  generalize -f/s=t at zt ⊢
  conv=>whnf
  refine cf (zaX (Q t) (Q l) (zt.q.le (by decide)) (zl.q.le (by decide))) ?_
  rw [Q_v,Q_v]
  conv=>whnf
  by_cases hlt : l<t
  ·refine zai (decide_eq_true (zbC.2 hlt)) ?_
   simp only [if_pos hlt]
   conv=>whnf
   refine zaj.late [(6,8,[1,5]),(7,9,[5])] (by kernel_rfl) ?_
   conv=>whnf
   refine cd (zaX (Q t) (Q h) (zt.q.le (by decide)) (zh.q.le (by decide))) ?_
   rw [Q_v,Q_v]
   conv=>whnf
   refine zam ?_
   rw [zut]
  ·refine zae (decide_eq_false (fun k=>hlt (zbC.1 k))) ?_
   simp only [if_neg hlt]
   conv=>whnf
   refine zaj.late [(6,8,[1,5]),(7,9,[5])] (by kernel_rfl) ?_
   conv=>whnf
   refine cd (zaX (Q l) (Q h) (zl.q.le (by decide)) (zh.q.le (by decide))) ?_
   rw [Q_v,Q_v]
   conv=>whnf
   refine zam ?_
   rw [zut]
 ·have h1 : ¬0<s:=fun e=>by
   have : ¬cmpQ s 0=1:=by simpa using hs
   exact this (zuD.2 e)
  rw [if_neg h1]
  conv=>whnf
  refine zaj.late [(8,13,[6])] (by kernel_rfl) ?_
  conv=>whnf
  refine cd (zuO (Q f) (zf.q.le (by decide))) ?_
  rw [Q_v]
  conv=>whnf
  refine cd (zrk (Q (-f)) (Q s) (zf.neg.q.le (by decide)) (zs.q.le (by decide))) ?_
  rw [Q_v,Q_v,quoV,if_neg h0]
  generalize -f/s=t at zt ⊢
  conv=>whnf
  refine cf (zaX (Q t) (Q h) (zt.q.le (by decide)) (zh.q.le (by decide))) ?_
  rw [Q_v,Q_v]
  conv=>whnf
  by_cases hlt : t<h
  ·refine zai (decide_eq_true (zbg.2 hlt)) ?_
   simp only [if_pos hlt]
   conv=>whnf
   refine zaj.late [(6,8,[1,5]),(7,9,[5])] (by kernel_rfl) ?_
   conv=>whnf
   refine cd (zaX (Q l) (Q t) (zl.q.le (by decide)) (zt.q.le (by decide))) ?_
   rw [Q_v,Q_v]
   conv=>whnf
   refine zam ?_
   rw [zut]
  ·refine zae (decide_eq_false (fun k=>hlt (zbg.1 k))) ?_
   simp only [if_neg hlt]
   conv=>whnf
   refine zaj.late [(6,8,[1,5]),(7,9,[5])] (by kernel_rfl) ?_
   conv=>whnf
   refine cd (zaX (Q l) (Q h) (zl.q.le (by decide)) (zh.q.le (by decide))) ?_
   rw [Q_v,Q_v]
   conv=>whnf
   refine zam ?_
   rw [zut]
end Go.Sx
end
section
set_option maxRecDepth 10000
set_option maxHeartbeats 2000000
namespace Go.Sx
open Go Go.Proofs
theorem zvk {b : Bx} {A B : V} {k : Nat} (h : zcw b A B k=none) (j : Nat) : zcw b A B (k+j)=none:=by
 induction j with
 | zero=>exact h
 | succ j ih=>rw [←Nat.add_assoc,zcw,ih]
theorem zuU {b : Bx} {A B : V} {k : Nat} {l h : Rat} (e : zcw b A B k=some (l,h)) (hlt : h<l) (j : Nat) : zcw b A B (k+j)=none∨∃ l' h',zcw b A B (k+j)=some (l',h')∧h' < l':=by
 induction j with
 | zero=>exact .inr ⟨l,h,e,hlt⟩
 | succ j ih =>
  rw [←Nat.add_assoc]
  rcases ih with ih | ⟨l',h',ih,hl⟩
  ·exact .inl (by rw [zcw,ih])
  rw [zcw,ih]
  simp only
  split
  ·split
   ·exact .inl rfl
   ·exact .inr ⟨_,_,rfl,hl⟩
  ·split
   ·rename_i k; exact .inr ⟨_,_,rfl,Std.lt_trans hl k.2⟩
   ·split
    ·rename_i k; exact .inr ⟨_,_,rfl,Std.lt_trans k.2 hl⟩
    ·exact .inr ⟨_,_,rfl,hl⟩
theorem zyp {b : Bx} {A B : V} {k : Nat} (hk : k≤4) (h : zcw b A B k=none) : zdb b A B=none:=by
 have:=zvk h (4-k)
 rw [show k+(4-k)=4 by omega] at this
 rw [zdb,this]
theorem zvg {b : Bx} {A B : V} {k : Nat} {l h : Rat} (hk : k≤4) (e : zcw b A B k=some (l,h)) (hlt : h<l) : zdb b A B=none:=by
 have:=zuU e hlt (4-k)
 rw [show k+(4-k)=4 by omega] at this
 rcases this with h | ⟨l',h',e',h''⟩
 ·rw [zdb,h]
 ·rw [zdb,e']; exact if_pos h''
theorem zyk {b : Bx} {A B : V} {k : Nat} {l h f s : Rat} (hk : k<4) (e : zcw b A B k=some (l,h)) (hf : f=zaR b A k) (hs : s=zaR b B k-zaR b A k) (hle : l≤h) :
  ((cutR l h f s).2.2=true→zcw b A B (k+1)=some ((cutR l h f s).1,(cutR l h f s).2.1)∧(cutR l h f s).1≤(cutR l h f s).2.1)∧((cutR l h f s).2.2=false→zdb b A B=none):=by
 have hn : zcw b A B (k+1)=if s=0 then (if f<0 then none else some (l,h)) else if 0<s∧l < -f/s then some (-f/s,h) else if s<0∧-f/s<h then some (l,-f/s) else some (l,h):=by
  rw [zcw,e,hf,hs]
 have bk:=fun (l' h' : Rat)=>zvg (b:=b) (A:=A) (B:=B) (k:=k+1) (l:=l') (h:=h') (by omega)
 unfold cutR
 by_cases h0 : s=0
 ·rw [if_pos h0] at hn ⊢
  refine ⟨fun k=>?_,fun k=>?_⟩
  ·have : 0≤f:=of_decide_eq_true k
   rw [if_neg (by grind)] at hn
   exact ⟨hn,hle⟩
  ·have : ¬0≤f:=of_decide_eq_false k
   rw [if_pos (by grind)] at hn
   exact zyp (by omega) hn
 rw [if_neg h0] at hn ⊢
 by_cases hp : 0<s
 ·rw [if_pos hp]
  rw [if_neg (show ¬(s<0∧-f/s<h) from fun k=>by have:=k.1; grind)] at hn
  have hn' : zcw b A B (k+1)=some ((if l < -f/s then -f/s else l),h):=by
   rw [hn]; split
   ·rename_i k; rw [if_pos k.2]
   ·rename_i k; rw [if_neg (fun h=>k ⟨hp,h⟩)]
  refine ⟨fun k=>⟨hn',of_decide_eq_true k⟩,fun k=>bk _ _ hn' ?_⟩
  have : ¬_:=of_decide_eq_false k
  exact Rat.not_le.1 this
 ·rw [if_neg hp]
  rw [if_neg (show ¬(0<s∧l < -f/s) from fun k=>hp k.1)] at hn
  have hm : s<0:=by grind
  have hn' : zcw b A B (k+1)=some (l,(if -f/s<h then -f/s else h)):=by
   rw [hn]; split
   ·rename_i k; rw [if_pos k.2]
   ·rename_i k; rw [if_neg (fun h=>k ⟨hm,h⟩)]
  refine ⟨fun k=>⟨hn',of_decide_eq_true k⟩,fun k=>bk _ _ hn' ?_⟩
  have : ¬_:=of_decide_eq_false k
  exact Rat.not_le.1 this
def lit4 (a b c d : Rat) : List Value:=ratC (Q a)++(ratC (Q b)++(ratC (Q c)++ratC (Q d)))
theorem zBZ (s : Sg) (b : Bx) (hs : s.sm K0) (hb : b.sm K0) : Fn PP zeF [sV s,bxV b] (zr6 s b):=by
 refine Fn.of zab mixed zjT rfl rfl (Nat.le_of_ble_eq_true rfl) ?_
 intro w
 have zA:=hs.1.sz (by decide)
 have zB:=hs.2.sz (by decide)
 have zl:=hb.1.sz (by decide)
 have zh:=hb.2.sz (by decide)
 conv=>whnf
 refine cf (znn s (hs.le (by decide))) ?_
 rw [zdc,zr6]
 by_cases hd : zb5 s
 ·rw [if_pos hd,if_pos hd]
  conv=>whnf
  exact zam rfl
 rw [if_neg hd,if_neg hd]
 conv=>whnf
 refine cf (zaX b.lo.x b.hi.x (hb.1.1.le (by decide)) (hb.2.1.le (by decide))) ?_
 conv=>whnf
 by_cases h1 : b.hi.x.v<b.lo.x.v
 ·rw [if_pos (.inl h1)]
  refine zai (decide_eq_true (zbC.2 h1)) ?_
  conv=>whnf
  exact zam rfl
 refine zae (decide_eq_false (fun h=>h1 (zbC.1 h))) ?_
 conv=>whnf
 refine cf (zaX b.lo.y b.hi.y (hb.1.2.le (by decide)) (hb.2.2.le (by decide))) ?_
 conv=>whnf
 by_cases h2 : b.hi.y.v<b.lo.y.v
 ·rw [if_pos (.inr h2)]
  refine zai (decide_eq_true (zbC.2 h2)) ?_
  conv=>whnf
  exact zam rfl
 rw [if_neg (fun h=>h.elim h1 h2)]
 refine zae (decide_eq_false (fun h=>h2 (zbC.1 h))) ?_
 conv=>whnf
 refine cf (zoO s.B s.A (hs.2.le (by decide)) (hs.1.le (by decide))) ?_
 conv=>whnf
 refine zaj.quiet (by kernel_rfl) ?_
 conv=>whnf
 refine cd (zkV s.A.x b.lo.x (hs.1.1.le (by decide)) (hb.1.1.le (by decide))) ?_
 conv=>whnf
 refine cd (zkV b.hi.x s.A.x (hb.2.1.le (by decide)) (hs.1.1.le (by decide))) ?_
 conv=>whnf
 refine cd (zkV s.A.y b.lo.y (hs.1.2.le (by decide)) (hb.1.2.le (by decide))) ?_
 conv=>whnf
 refine cd (zkV b.hi.y s.A.y (hb.2.2.le (by decide)) (hs.1.2.le (by decide))) ?_
 conv=>whnf
 refine zaj.quiet (by kernel_rfl) ?_
 conv=>whnf
 refine cd (zuO (Q (s.B.v-s.A.v).x) ((zB.sub zA).1.q.le (by decide))) ?_
 rw [Q_v]
 conv=>whnf
 refine cd (zuO (Q (s.B.v-s.A.v).y) ((zB.sub zA).2.q.le (by decide))) ?_
 rw [Q_v]
 conv=>whnf
 refine cf (zA6 1 (by decide) (by decide)) ?_
 conv=>whnf
 refine zak (ι:=Nat×Rat×Rat×Bool) (fun ⟨i,l,h,k⟩=>⟨[(2,.o (.p 2 0)),(4,.o (.p 4 0)),(8,.o (.s 70 0 4 4)),(9,.o (.s 81 0 4 4)),(10,.o (.p 10 0)),(11,.o (.p 11 0)),(12,.o (.v (.bool k))),(13,.o (.v (.int .i64 i)))],
   [(2,sgB s),(4,sgB S0),(10,ratM (Q l)),(11,ratM (Q h)),(70,.box ((lit4 (s.A.x.v-b.lo.x.v) (b.hi.x.v-s.A.x.v) (s.A.y.v-b.lo.y.v) (b.hi.y.v-s.A.y.v)).map AV.v) zaq),(81,.box ((lit4 (s.B.v-s.A.v).x (-(s.B.v-s.A.v).x) (s.B.v-s.A.v).y (-(s.B.v-s.A.v).y)).map AV.v) zaq)],[]⟩)
  (fun ⟨i,l,h,k⟩=>i≤4∧(k=true→zcw b s.A.v s.B.v i=some (l,h)∧l≤h)∧(k=false→zdb b s.A.v s.B.v=none)) (fun ⟨i,l,h,k⟩=>4-i) (0,0,1,true) ⟨by omega,fun _=>⟨rfl,by decide⟩,fun h=>by cases h⟩
  (SLe.id ⟨rfl,rfl,rfl,rfl,rfl,rfl,rfl,rfl,trivial⟩ ⟨⟨_,rfl,.refl _⟩,⟨_,rfl,.refl _⟩,⟨_,rfl,by rw [zhg]; exact .refl _⟩,⟨_,rfl,.refl _⟩,⟨_,rfl,.refl _⟩,⟨_,rfl,.refl _⟩,trivial⟩ (fun R hR=>hR)) ?_
 rintro ⟨i,l,h,k⟩ ⟨hi,hk1,hk2⟩
 cases k with
 | false =>
  have hi' : i=0∨i=1∨i=2∨i=3∨i=4:=by omega
  rw [hk2 rfl]
  rcases hi' with rfl | rfl | rfl | rfl | rfl <;>
  ·conv=>whnf
   exact zam rfl
 | true =>
  obtain ⟨hc,hle⟩:=hk1 rfl
  obtain ⟨zl,zh⟩:=znx hb zA zB i l h hc
  by_cases hi4 : i=4
  ·subst hi4
   rw [zdb,hc]
   simp only [if_neg (Rat.not_lt.2 hle)]
   conv=>whnf
   refine zaj.quiet (by kernel_rfl) ?_
   conv=>whnf
   refine cd (zAN s.A s.B (Q l) (hs.1.le (by decide)) (hs.2.le (by decide)) (zl.q.le (by decide))) ?_
   rw [Q_v]
   conv=>whnf
   refine cd (zAN s.A s.B (Q h) (hs.1.le (by decide)) (hs.2.le (by decide)) (zh.q.le (by decide))) ?_
   rw [Q_v]
   conv=>whnf
   exact zam rfl
  have zf:=zia hb zA i
  have zs:=(zia hb zB i).sub zf
  have hst:=fun f s' hf hs'=>zyk (b:=b) (A:=s.A.v) (B:=s.B.v) (k:=i) (l:=l) (h:=h) (f:=f) (s:=s') (by omega) hc hf hs' hle
  have hi' : i=0∨i=1∨i=2∨i=3:=by omega
  have e : ∀ a b c : Rat,b-a=(b-c)-(a-c):=fun a b c=>by grind
  have e' : ∀ a b c : Rat,-(b-a)=(c-b)-(c-a):=fun a b c=>by grind
  have r0:=fun (f s' : Rat) (h1 : f=zaR b s.A.v i) (h2 : s'=zaR b s.B.v i-zaR b s.A.v i)=>zCa l h f s' zl zh (by rw [h1]; exact zf) (by rw [h2]; exact zs)
  rcases hi' with rfl | rfl | rfl | rfl
  all_goals
   conv=>whnf
   refine zaj.late [(15,10,[13,14]),(16,11,[14])] (by kernel_rfl) ?_
   conv=>whnf
   refine ⟨by decide,?_⟩
   conv=>whnf
   refine ⟨by decide,?_⟩
   conv=>whnf
  ·have hz:=hst (s.A.x.v-b.lo.x.v) (s.B.v-s.A.v).x rfl (e _ _ _)
   refine cd (r0 (s.A.x.v-b.lo.x.v) (s.B.v-s.A.v).x rfl (e _ _ _)) ?_
   generalize cutR l h (s.A.x.v-b.lo.x.v) (s.B.v-s.A.v).x=R at hz ⊢
   obtain ⟨l',h',k'⟩:=R
   conv=>whnf
   exact ⟨(_,l',h',k'),⟨by decide,hz⟩,Nat.le_of_ble_eq_true rfl,SLe.id ⟨rfl,rfl,rfl,rfl,rfl,rfl,rfl,rfl,trivial⟩ ⟨⟨_,rfl,.refl _⟩,⟨_,rfl,.refl _⟩,⟨_,rfl,.refl _⟩,⟨_,rfl,.refl _⟩,⟨_,rfl,.refl _⟩,⟨_,rfl,.refl _⟩,trivial⟩ (fun R hR=>hR)⟩
  ·have hz:=hst (b.hi.x.v-s.A.x.v) (-(s.B.v-s.A.v).x) rfl (e' _ _ _)
   refine cd (r0 (b.hi.x.v-s.A.x.v) (-(s.B.v-s.A.v).x) rfl (e' _ _ _)) ?_
   generalize cutR l h (b.hi.x.v-s.A.x.v) (-(s.B.v-s.A.v).x)=R at hz ⊢
   obtain ⟨l',h',k'⟩:=R
   conv=>whnf
   exact ⟨(_,l',h',k'),⟨by decide,hz⟩,Nat.le_of_ble_eq_true rfl,SLe.id ⟨rfl,rfl,rfl,rfl,rfl,rfl,rfl,rfl,trivial⟩ ⟨⟨_,rfl,.refl _⟩,⟨_,rfl,.refl _⟩,⟨_,rfl,.refl _⟩,⟨_,rfl,.refl _⟩,⟨_,rfl,.refl _⟩,⟨_,rfl,.refl _⟩,trivial⟩ (fun R hR=>hR)⟩
  ·have hz:=hst (s.A.y.v-b.lo.y.v) (s.B.v-s.A.v).y rfl (e _ _ _)
   refine cd (r0 (s.A.y.v-b.lo.y.v) (s.B.v-s.A.v).y rfl (e _ _ _)) ?_
   generalize cutR l h (s.A.y.v-b.lo.y.v) (s.B.v-s.A.v).y=R at hz ⊢
   obtain ⟨l',h',k'⟩:=R
   conv=>whnf
   exact ⟨(_,l',h',k'),⟨by decide,hz⟩,Nat.le_of_ble_eq_true rfl,SLe.id ⟨rfl,rfl,rfl,rfl,rfl,rfl,rfl,rfl,trivial⟩ ⟨⟨_,rfl,.refl _⟩,⟨_,rfl,.refl _⟩,⟨_,rfl,.refl _⟩,⟨_,rfl,.refl _⟩,⟨_,rfl,.refl _⟩,⟨_,rfl,.refl _⟩,trivial⟩ (fun R hR=>hR)⟩
  ·have hz:=hst (b.hi.y.v-s.A.y.v) (-(s.B.v-s.A.v).y) rfl (e' _ _ _)
   refine cd (r0 (b.hi.y.v-s.A.y.v) (-(s.B.v-s.A.v).y) rfl (e' _ _ _)) ?_
   generalize cutR l h (b.hi.y.v-s.A.y.v) (-(s.B.v-s.A.v).y)=R at hz ⊢
   obtain ⟨l',h',k'⟩:=R
   conv=>whnf
   exact ⟨(_,l',h',k'),⟨by decide,hz⟩,Nat.le_of_ble_eq_true rfl,SLe.id ⟨rfl,rfl,rfl,rfl,rfl,rfl,rfl,rfl,trivial⟩ ⟨⟨_,rfl,.refl _⟩,⟨_,rfl,.refl _⟩,⟨_,rfl,.refl _⟩,⟨_,rfl,.refl _⟩,⟨_,rfl,.refl _⟩,⟨_,rfl,.refl _⟩,trivial⟩ (fun R hR=>hR)⟩
end Go.Sx
end
section
set_option maxRecDepth 10000
set_option maxHeartbeats 2000000
namespace Go.Sx
open Go Go.Proofs
theorem zpE (b : Bx) (hb : b.sm KK) : Fn PP zcY [bxV b] (.bool (decide b.good)):=by
 refine Fn.of zab mixed zf4 rfl rfl (Nat.le_of_ble_eq_true rfl) ?_
 intro w
 conv=>whnf
 refine cf (zh5 b.lo hb.1) ?_
 by_cases h1 : b.lo.ok
 rotate_left
 ·rw [if_neg h1]
  conv=>whnf
  refine zaa ?_
  rw [decide_eq_false (fun h=>h1 h.1)]
 rw [if_pos h1]
 conv=>whnf
 refine cf (zh5 b.hi hb.2) ?_
 by_cases h2 : b.hi.ok
 rotate_left
 ·rw [if_neg h2]
  conv=>whnf
  refine zaa ?_
  rw [decide_eq_false (fun h=>h2 h.2.1)]
 rw [if_pos h2]
 conv=>whnf
 refine cf (zaX b.lo.x b.hi.x hb.1.1 hb.2.1) ?_
 conv=>whnf
 by_cases h3 : b.lo.x.v<b.hi.x.v
 rotate_left
 ·refine zae (decide_eq_false (fun h=>h3 (zbg.1 h))) ?_
  conv=>whnf
  refine zaa ?_
  rw [decide_eq_false (fun h=>h3 h.2.2.1)]
 refine zai (decide_eq_true (zbg.2 h3)) ?_
 conv=>whnf
 refine cf (zaX b.lo.y b.hi.y hb.1.2 hb.2.2) ?_
 conv=>whnf
 refine zaa (congrArg Value.bool (decide_eq_decide.2 ?_))
 rw [zbg]
 exact ⟨fun h=>⟨h1,h2,h3,h⟩,fun h=>h.2.2.2⟩
theorem zxE (x y : Rat) (hx : Sz KV x) (hy : Sz KV y) : Fn PP zdF [qV x,qV y] (qV ((x+y)/2)):=by
 refine Fn.of zab mixed zhc rfl rfl (Nat.le_of_ble_eq_true rfl) ?_
 intro w
 conv=>whnf
 refine cf (zuA (Q x) (Q y) (hx.q.le (by decide)) (hy.q.le (by decide))) ?_
 rw [Q_v,Q_v]
 conv=>whnf
 refine cf (zA6 2 (by decide) (by decide)) ?_
 conv=>whnf
 refine cf (zrk (Q (x+y)) (Q ((2 : Int) : Rat)) ((hx.add hy).q.le (by decide)) ((show Sz 1 ((2 : Int) : Rat) from ⟨by decide,by decide⟩).q.le (by decide))) ?_
 rw [Q_v,Q_v,quoV,if_neg (by decide)]
 conv=>whnf
 exact zaa rfl
theorem eqRV (x y : Rat) : ((Q x).neg==(Q y).neg&&((bs (Q x).num).toList==(bs (Q y).num).toList&&((bs (Q x).den).toList==(bs (Q y).den).toList&&true)))=decide (x=y):=by
 have h:=eqPV ⟨x,0⟩ ⟨y,0⟩
 have e : (decide ((⟨x,0⟩ : V)=⟨y,0⟩))=decide (x=y):=decide_eq_decide.2 ⟨fun h=>congrArg V.x h,fun h=>by rw [h]⟩
 rw [←e,←h]
 simp [PQ]
theorem zuw (p q : V) : Fn PP zeJ [sV ⟨PQ p,PQ q⟩] (.bool (decide (p=q))):=by
 refine Fn.of zab mixed zjk rfl rfl (Nat.le_of_ble_eq_true rfl) ?_
 intro w
 conv=>whnf
 refine zaa (congrArg Value.bool ?_)
 exact eqPV p q
theorem zwJ (p q : V) : Fn PP zd4 [sV ⟨PQ p,PQ q⟩] (.bool (decide (p.x=q.x))):=by
 refine Fn.of zab mixed zix rfl rfl (Nat.le_of_ble_eq_true rfl) ?_
 intro w
 conv=>whnf
 refine zaa (congrArg Value.bool ?_)
 exact eqRV p.x q.x
end Go.Sx
end
