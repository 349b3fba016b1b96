/- A part of the proof of a law: the symbolic executor, contracts of functions of the program, plain laws. No conditions. -/
import Derived.Test.YtcmekchbdbakgaaGreatM3
set_option linter.unusedVariables false
set_option linter.unusedSimpArgs false
set_option linter.unusedSectionVars false
section
set_option maxRecDepth 10000
namespace Go.Sx
open Go Go.Proofs
theorem zz0 (o : List Nat) (d k : Nat) : (o++List.replicate (k+1) 0).set o.length d=(o++[d])++List.replicate k 0:=by
 rw [List.replicate_succ,List.set_append_right _ _ (Nat.le_refl _),Nat.sub_self]
 simp
theorem zuH (o : List Nat) (d k : Nat) {n i : Nat} (hn : n=o.length+(k+1)) (hi : i=o.length) : putN i [Value.int .u32 (d : Int)] (rowV u32c (o++List.replicate (k+1) 0))=rowV u32c ((o++[d])++List.replicate k 0):=by
 subst hi
 have:=zci (f:=u32c) zau (k:=o.length) (l:=o++List.replicate (k+1) 0) d (by simp)
 rw [Nat.mul_one] at this
 rw [←zz0]
 exact this
theorem zuX {B i bo x y : Nat} {a b o : List Nat} (hB : 0<B) (hyB : y<B) (hxB : x<B) (hbo : bo≤1) (ho : o.length=i) (hv : lv B (a.take i)+B ^ i*bo=lv B o+lv B (b.take i)) (hx : a[i]?=some x) (hy : b[i]?=some y∨(b.length≤i∧y=0)) :
  lv B (a.take (i+1))+B ^ (i+1)*(if x<y+bo then 1 else 0)=lv B (o++[(B+x-y-bo)%B])+lv B (b.take (i+1)):=by
 have h1:=za0 (B:=B) hx
 have h2 : lv B (b.take (i+1))=lv B (b.take i)+B ^ i*y:=by
  rcases hy with h | ⟨h,rfl⟩
  ·exact za0 h
  ·rw [zsr h]; omega
 rw [h1,h2,zcM,ho,Nat.pow_succ,Nat.mul_assoc]
 have h3 : x+B*(if x<y+bo then 1 else 0)=(B+x-y-bo)%B+y+bo:=by
  split
  ·rw [Nat.mul_one,Nat.mod_eq_of_lt (by omega)]; omega
  ·rw [Nat.mul_zero,show B+x-y-bo=(x-y-bo)+B by omega,Nat.add_mod_right,Nat.mod_eq_of_lt (by omega)]; omega
 have h4 : B ^ i*x+B ^ i*(B*(if x<y+bo then 1 else 0))=B ^ i*((B+x-y-bo)%B)+B ^ i*y+B ^ i*bo:=by
  rw [←Nat.mul_add,h3,Nat.mul_add,Nat.mul_add]
 omega

theorem zvT (A B : Option Addr) (c d : Nat) (p q : Nat) (hqp : q≤p) (hl : (digs (2 ^ 32) p).length≤100000000000) :
  FnM PP zby [.slice A (digs (2 ^ 32) p).length c,.slice B (digs (2 ^ 32) q).length d] (facts [zaf A (u32V (digs (2 ^ 32) p)),zaf B (u32V (digs (2 ^ 32) q))]) (zdn zat 1 (digs (2 ^ 32) (p-q)).length (u32V (digs (2 ^ 32) (p-q)))):=by
 obtain ⟨a,ea⟩ : ∃ a,a=digs (2 ^ 32) p:=⟨_,rfl⟩
 obtain ⟨b,eb⟩ : ∃ b,b=digs (2 ^ 32) q:=⟨_,rfl⟩
 have hlen : b.length≤a.length:=by
  rw [ea,eb]
  exact za6 (by decide) (Nat.lt_of_le_of_lt hqp (zbG (by decide)))
 have ha : ∀ x∈a,x<2 ^ 32:=by rw [ea]; exact zbZ (by decide) p
 have hb : ∀ x∈b,x<2 ^ 32:=by rw [eb]; exact zbZ (by decide) q
 have hva : lv (2 ^ 32) a=p:=by rw [ea,zbD (by decide)]
 have hvb : lv (2 ^ 32) b=q:=by rw [eb,zbD (by decide)]
 rw [←ea,←eb]
 rw [←ea] at hl
 refine FnO.of zab mixed zik rfl rfl (Nat.le_of_ble_eq_true rfl) (by simp [zaf.ok]) ?_
 intro w hw
 conv=>whnf
 refine ⟨⟨by omega,by omega,by show (4 : Int)*_≤_; omega,by omega⟩,?_⟩
 conv=>whnf
 refine zak (ι:=List Nat×Nat) (fun ⟨o,bo⟩=>⟨[(0,.o (.v (.slice A a.length c))),(1,.o (.v (.slice B b.length d))),(5,.o (.w 12)),(6,.o (.v (u32 bo))),(13,.o (.v (.slice A a.length c))),(14,.o (.v (.int .i64 a.length))),(15,.o (.v (.int .i64 o.length)))],[(12,.own zat 1 a.length (u32V (o++List.replicate (a.length-o.length) 0)))],[zaf A (u32V a),zaf B (u32V b)]⟩)
  (fun ⟨o,bo⟩=>o.length≤a.length∧bo≤1∧(∀ x∈o,x<2 ^ 32)∧lv (2 ^ 32) (a.take o.length)+(2 ^ 32) ^ o.length*bo=lv (2 ^ 32) o+lv (2 ^ 32) (b.take o.length)) (fun ⟨o,bo⟩=>a.length-o.length) ([],0)
  ⟨Nat.zero_le _,Nat.zero_le _,(fun _ h=>by cases h),rfl⟩ (SLe.id ⟨rfl,rfl,rfl,rfl,rfl,rfl,rfl,trivial⟩ ⟨⟨_,rfl,?_⟩,trivial⟩ (fun R hR=>hR)) ?_
 ·simp only [ME.ren,Int.toNat_natCast,List.nil_append,List.length_nil,Nat.sub_zero]
  simp only [u32V,zb7]
  exact .refl _
 rintro ⟨o,bo⟩ ⟨ho,hbo,hob,hinv⟩
 conv=>whnf
 refine zah ?_ ?_
 ·intro h
  have hi : o.length<a.length:=by have : (o.length : Int)<a.length:=by simpa using h
                                  omega
  have hA : A.isSome=true:=zap (zbN hw).1 (by rw [zar]; omega)
  conv=>whnf
  refine ⟨⟨by omega,by omega,hA⟩,?_⟩
  conv=>whnf
  refine zao.elem u32c zau (List.mem_cons_self ..) rfl (by rw [Int.toNat_natCast]; exact hi) (by decide) (fun _=>rfl) ?_
  rw [Int.toNat_natCast]
  intro x hx
  have hxb : x<2 ^ 32:=ha x (List.mem_of_getElem? hx)
  conv=>whnf
  have key : ∀ y,y<2 ^ 32→(b[o.length]?=some y∨(b.length≤o.length∧y=0))→∃ j : List Nat×Nat,(j.1.length≤a.length∧j.2≤1∧(∀ x∈j.1,x<2 ^ 32)∧lv (2 ^ 32) (a.take j.1.length)+(2 ^ 32) ^ j.1.length*j.2=lv (2 ^ 32) j.1+lv (2 ^ 32) (b.take j.1.length)) ∧
    j=(o++[(2 ^ 32+x-y-bo)%2 ^ 32],if x<y+bo then 1 else 0):=by
   intro y hyb hy
   refine ⟨_,⟨by simp; omega,?_,?_,?_⟩,rfl⟩
   ·show (if x<y+bo then 1 else 0)≤1
    split <;> omega
   ·intro z hz
    rcases List.mem_append.1 hz with hz | hz
    ·exact hob z hz
    ·rw [List.mem_singleton.1 hz]; exact Nat.mod_lt _ (by decide)
   ·show lv (2 ^ 32) (a.take (o++[(2 ^ 32+x-y-bo)%2 ^ 32]).length)+(2 ^ 32) ^ (o++[(2 ^ 32+x-y-bo)%2 ^ 32]).length*(if x<y+bo then 1 else 0)=lv (2 ^ 32) (o++[(2 ^ 32+x-y-bo)%2 ^ 32])+lv (2 ^ 32) (b.take (o++[(2 ^ 32+x-y-bo)%2 ^ 32]).length)
    rw [List.length_append]
    exact zuX (by decide) hyb hxb hbo rfl hinv hx hy
  refine zah ?_ ?_
  ·intro h2
   have hi2 : o.length<b.length:=by have : (o.length : Int)<b.length:=by simpa using h2
                                    omega
   have hB : B.isSome=true:=zap (zbN hw).2 (by rw [zar]; omega)
   conv=>whnf
   refine ⟨⟨by omega,by omega,hB⟩,?_⟩
   conv=>whnf
   refine zao.elem u32c zau (List.mem_cons_of_mem _ (List.mem_singleton.2 rfl)) rfl (by rw [Int.toNat_natCast]; exact hi2) (by decide) (fun _=>rfl) ?_
   rw [Int.toNat_natCast]
   intro y hy
   have hyb : y<2 ^ 32:=hb y (List.mem_of_getElem? hy)
   conv=>whnf
   refine zac.fn (zqt x y bo hxb hyb hbo) rfl ?_
   conv=>whnf
   refine ⟨⟨by omega,by omega⟩,?_⟩
   conv=>whnf
   refine ⟨⟨by rw [zar]; simp; show _*1+1≤_; omega,by decide⟩,?_⟩
   conv=>whnf
   obtain ⟨j,hj,ej⟩:=key y hyb (.inl hy)
   subst ej
   refine ⟨_,hj,by simp; omega,?_⟩
   refine SLe.id ⟨rfl,rfl,rfl,rfl,rfl,rfl,?_,trivial⟩ ⟨⟨_,rfl,?_⟩,trivial⟩ (fun R hR=>hR)
   ·show some (SV.o (.v (.int _ (IntKind.i64.wrap ((o.length : Int)+1)))))=some (SV.o (.v (.int _ (((o++[_]).length : Nat) : Int))))
    rw [wrap_i64 (by omega) (by omega),List.length_append]; rfl
   ·show MEle (ME.own _ _ _ (putN ((o.length : Int).toNat*1) [Value.int _ _] (rowV u32c (o++List.replicate (a.length-o.length) 0)))) (ME.own _ _ _ (rowV u32c ((o++[(2 ^ 32+x-y-bo)%2 ^ 32])++List.replicate (a.length-(o++[_]).length) 0)))
    rw [List.length_append,show a.length-o.length=(a.length-(o.length+1))+1 by omega,zuH o _ _ rfl (by simp)]
    exact .refl _
  ·intro h2
   have hi2 : b.length≤o.length:=by have : ¬(o.length : Int)<b.length:=by simpa using h2
                                    omega
   conv=>whnf
   refine zac.fn (zqt x 0 bo hxb (by decide) hbo) rfl ?_
   conv=>whnf
   refine ⟨⟨by omega,by omega⟩,?_⟩
   conv=>whnf
   refine ⟨⟨by rw [zar]; simp; show _*1+1≤_; omega,by decide⟩,?_⟩
   conv=>whnf
   obtain ⟨j,hj,ej⟩:=key 0 (by decide) (.inr ⟨hi2,rfl⟩)
   subst ej
   refine ⟨_,hj,by simp; omega,?_⟩
   refine SLe.id ⟨rfl,rfl,rfl,rfl,rfl,rfl,?_,trivial⟩ ⟨⟨_,rfl,?_⟩,trivial⟩ (fun R hR=>hR)
   ·show some (SV.o (.v (.int _ (IntKind.i64.wrap ((o.length : Int)+1)))))=some (SV.o (.v (.int _ (((o++[_]).length : Nat) : Int))))
    rw [wrap_i64 (by omega) (by omega),List.length_append]; rfl
   ·show MEle (ME.own _ _ _ (putN ((o.length : Int).toNat*1) [Value.int _ _] (rowV u32c (o++List.replicate (a.length-o.length) 0)))) (ME.own _ _ _ (rowV u32c ((o++[(2 ^ 32+x-0-bo)%2 ^ 32])++List.replicate (a.length-(o++[_]).length) 0)))
    rw [List.length_append,show a.length-o.length=(a.length-(o.length+1))+1 by omega,zuH o _ _ rfl (by simp)]
    exact .refl _
 ·intro h
  have hi : o.length=a.length:=by have : ¬(o.length : Int)<a.length:=by simpa using h
                                  omega
  have hval : lv (2 ^ 32) o=p-q:=by
   rw [hi,List.take_length,List.take_of_length_le hlen,hva,hvb] at hinv
   have h1:=zkT (by decide) o hob
   rw [hi] at h1
   rcases Nat.eq_zero_or_pos bo with h2 | h2
   ·subst h2; omega
   ·have : bo=1:=by omega
    subst this; omega
  have hdig : tr o=digs (2 ^ 32) (p-q):=by rw [zna (by decide) hob,hval]
  conv=>whnf
  have hz : o++List.replicate (a.length-o.length) 0=o:=by rw [hi,Nat.sub_self]; simp
  refine zac.cutO (n:=a.length) (xs:=u32V (o++List.replicate (a.length-o.length) 0)) (n':=(tr o).length) 40 (fun A c hc=>?_) rfl (by rw [←hi]; exact zcB o) rfl rfl ?_ rfl
  ·rw [hz,←hi]; exact zhy A c o (by omega) (by omega)
  ·conv=>whnf
   refine ⟨40,rfl,?_⟩
   show some (ME.own zat 1 (tr o).length ((rowV u32c (o++List.replicate (a.length-o.length) 0)).take ((tr o).length*1)))=_
   rw [hz,zbm zau,zeB,hdig]
end Go.Sx
end
section
set_option maxRecDepth 10000
namespace Go.Sx
open Go Go.Proofs
theorem zfd (P R : List Nat) (z d : Nat) {i : Nat} (hi : i=P.length) : putN i [Value.int .u32 (d : Int)] (rowV u32c (P++z::R))=rowV u32c ((P++[d])++R):=by
 subst hi
 have:=zci (f:=u32c) zau (k:=P.length) (l:=P++z::R) d (by simp)
 rw [Nat.mul_one] at this
 have e : (P++z::R).set P.length d=(P++[d])++R:=by
  rw [List.set_append_right _ _ (Nat.le_refl _),Nat.sub_self]; simp
 rw [←e]
 exact this
theorem zvq {B i k cy x y z : Nat} {o P b : List Nat} (hB : 0<B) (hP : P.length=i+k) (hv : lv B P+B ^ (i+k)*cy=lv B (o.take (i+k))+B ^ i*(x*lv B (b.take k))) (hz : o[i+k]?=some z) (hy : b[k]?=some y) :
  lv B (P++[(cy+(x*y+z))%B])+B ^ (i+(k+1))*((cy+(x*y+z))/B)=lv B (o.take (i+(k+1)))+B ^ i*(x*lv B (b.take (k+1))):=by
 have h1:=za0 (B:=B) hz
 have h2:=za0 (B:=B) hy
 rw [show i+(k+1)=i+k+1 by omega,h1,h2,zcM,hP,Nat.pow_succ,Nat.mul_assoc]
 have h3 : B ^ (i+k)*((cy+(x*y+z))%B)+B ^ (i+k)*(B*((cy+(x*y+z))/B))=B ^ (i+k)*(cy+(x*y+z)):=by
  rw [←Nat.mul_add,Nat.mod_add_div]
 have h4 : B ^ i*(x*(lv B (b.take k)+B ^ k*y))=B ^ i*(x*lv B (b.take k))+B ^ (i+k)*(x*y):=by
  rw [Nat.mul_add,Nat.mul_add,Nat.pow_add]
  congr 1
  rw [Nat.mul_assoc (B ^ i)]
  congr 1
  exact Nat.mul_left_comm x (B ^ k) y
 rw [Nat.mul_add,Nat.mul_add] at h3
 rw [h4]
 omega

theorem zvH (A D : Option Addr) (c d : Nat) (a b : List Nat) (ha : ∀ x∈a,x<2 ^ 32) (hb : ∀ x∈b,x<2 ^ 32) (hla : a.length≤100000000000) (hlb : b.length≤100000000000) :
  FnM PP zcy [.slice A a.length c,.slice D b.length d] (facts [zaf A (u32V a),zaf D (u32V b)]) (zdn zat 1 (digs (2 ^ 32) (lv (2 ^ 32) a*lv (2 ^ 32) b)).length (u32V (digs (2 ^ 32) (lv (2 ^ 32) a*lv (2 ^ 32) b)))):=by
 refine FnO.of zab mixed ziP rfl rfl (Nat.le_of_ble_eq_true rfl) (by simp [zaf.ok]) ?_
 intro w hw
 have hcap : IntKind.i64.wrap ((a.length : Int)+(b.length : Int))=((a.length+b.length : Nat) : Int):=by rw [wrap_i64 (by omega) (by omega)]; omega
 conv=>whnf
 refine ⟨by rw [hcap]; exact ⟨by omega,by omega,by show (4 : Int)*_≤_; omega,by omega⟩,?_⟩
 conv=>whnf
 refine zak (ι:=Nat×List Nat) (fun ⟨i,o⟩=>⟨[(0,.o (.v (.slice A a.length c))),(1,.o (.v (.slice D b.length d))),(5,.o (.w 16)),(17,.o (.v (.slice A a.length c))),(18,.o (.v (.int .i64 a.length))),(19,.o (.v (.int .i64 i)))],[(16,.own zat 1 (a.length+b.length) (u32V (o++List.replicate (a.length-i) 0)))],[zaf A (u32V a),zaf D (u32V b)]⟩)
  (fun ⟨i,o⟩=>i≤a.length∧o.length=i+b.length∧(∀ x∈o,x<2 ^ 32)∧lv (2 ^ 32) o=lv (2 ^ 32) (a.take i)*lv (2 ^ 32) b) (fun ⟨i,o⟩=>a.length-i) (0,List.replicate b.length 0)
  ⟨Nat.zero_le _,by simp,(fun x h=>by rw [(List.mem_replicate.1 h).2]; decide),by simp [zp8,lv]⟩ (SLe.id ⟨rfl,rfl,rfl,rfl,rfl,rfl,trivial⟩ ⟨⟨_,rfl,?_⟩,trivial⟩ (fun R hR=>hR)) ?_
 ·rw [hcap]
  simp only [ME.ren,Int.toNat_natCast,Nat.sub_zero,List.replicate_append_replicate]
  rw [Nat.add_comm b.length]
  simp only [u32V,zb7]
  exact .refl _
 rintro ⟨i,o⟩ ⟨hi,ho,hob,hov⟩
 conv=>whnf
 refine zah ?_ ?_
 ·intro h
  have hi' : i<a.length:=by have : (i : Int)<a.length:=by simpa using h
                            omega
  have hA : A.isSome=true:=zap (zbN hw).1 (by rw [zar]; omega)
  conv=>whnf
  refine ⟨⟨by omega,by omega,hA⟩,?_⟩
  conv=>whnf
  refine zao.elem u32c zau (List.mem_cons_self ..) rfl (by rw [Int.toNat_natCast]; exact hi') (by decide) (fun _=>rfl) ?_
  rw [Int.toNat_natCast]
  intro x hx
  have hxb : x<2 ^ 32:=ha x (List.mem_of_getElem? hx)
  conv=>whnf
  refine zak (ι:=Nat×List Nat×Nat) (fun ⟨k,P,cy⟩=>⟨[(0,.o (.v (.slice A a.length c))),(1,.o (.v (.slice D b.length d))),(5,.o (.w 16)),(17,.o (.v (.slice A a.length c))),(18,.o (.v (.int .i64 a.length))),(19,.o (.v (.int .i64 i))),
    (6,.o (.v (.int .i64 i))),(7,.o (.v (u32 x))),(8,.o (.v (.int .u64 cy))),(24,.o (.v (.slice D b.length d))),(25,.o (.v (.int .i64 b.length))),(26,.o (.v (.int .i64 k)))],[(16,.own zat 1 (a.length+b.length) (u32V (P++(o.drop (i+k)++List.replicate (a.length-i) 0))))],[zaf A (u32V a),zaf D (u32V b)]⟩)
   (fun ⟨k,P,cy⟩=>k≤b.length∧P.length=i+k∧cy<2 ^ 32∧(∀ x∈P,x<2 ^ 32)∧lv (2 ^ 32) P+(2 ^ 32) ^ (i+k)*cy=lv (2 ^ 32) (o.take (i+k))+(2 ^ 32) ^ i*(x*lv (2 ^ 32) (b.take k))) (fun ⟨k,P,cy⟩=>b.length-k) (0,o.take i,0)
   ⟨Nat.zero_le _,by rw [List.length_take]; omega,by decide,(fun x h=>hob x (List.mem_of_mem_take h)),by simp [lv]⟩ (SLe.id ⟨rfl,rfl,rfl,rfl,rfl,rfl,rfl,rfl,rfl,rfl,rfl,rfl,trivial⟩ ⟨⟨_,rfl,?_⟩,trivial⟩ (fun R hR=>hR)) ?_
  ·simp only [ME.ren,Nat.add_zero]
   rw [←List.append_assoc,List.take_append_drop]
   exact .refl _
  rintro ⟨k,P,cy⟩ ⟨hk,hP,hcy,hPb,hinv⟩
  have hik : IntKind.i64.wrap ((i : Int)+(k : Int))=((i+k : Nat) : Int):=by rw [wrap_i64 (by omega) (by omega)]; omega
  conv=>whnf
  refine zah ?_ ?_
  ·intro h2
   have hk' : k<b.length:=by have : (k : Int)<b.length:=by simpa using h2
                             omega
   have hD : D.isSome=true:=zap (zbN hw).2 (by rw [zar]; omega)
   conv=>whnf
   refine ⟨⟨by omega,by omega,hD⟩,?_⟩
   conv=>whnf
   refine zao.elem u32c zau (List.mem_cons_of_mem _ (List.mem_singleton.2 rfl)) rfl (by rw [Int.toNat_natCast]; exact hk') (by decide) (fun _=>rfl) ?_
   rw [Int.toNat_natCast]
   intro y hy
   have hyb : y<2 ^ 32:=hb y (List.mem_of_getElem? hy)
   have hoz : o[i+k]?=some o[i+k]:=List.getElem?_eq_getElem (by omega)
   obtain ⟨z,hz⟩ : ∃ z,z=o[i+k]:=⟨_,rfl⟩
   rw [←hz] at hoz
   have hzb : z<2 ^ 32:=hob z (List.mem_of_getElem? hoz)
   have hdrop : o.drop (i+k)=z::o.drop (i+(k+1)):=by rw [List.drop_eq_getElem_cons (show i+k<o.length by omega),hz]; rfl
   conv=>whnf
   refine ⟨⟨by rw [hik]; omega,by rw [hik]; omega⟩,?_⟩
   conv=>whnf
   refine zbU.elem u32c zau (k:=i+k) (by rw [hik]; rfl) (by simp; omega) (by decide) (fun _=>rfl) ?_
   intro z' hz'
   have hzz : z'=z:=by
    rw [List.getElem?_append_right (by omega),hP,Nat.sub_self,hdrop] at hz'
    exact (Option.some.inj hz').symm
   subst hzz
   have hxy : x*y≤(2 ^ 32-1)*(2 ^ 32-1):=Nat.mul_le_mul (by omega) (by omega)
   have hmul : IntKind.u64.wrap (IntKind.u64.wrap (x : Int)*IntKind.u64.wrap (y : Int))=((x*y : Nat) : Int):=by
    have e1 : IntKind.u64.wrap (x : Int)=x:=by rw [IntKind.wrap_u64]; omega
    have e2 : IntKind.u64.wrap (y : Int)=y:=by rw [IntKind.wrap_u64]; omega
    rw [e1,e2,←Int.natCast_mul,IntKind.wrap_u64]; omega
   have ht : IntKind.u64.wrap ((cy : Int)+IntKind.u64.wrap (IntKind.u64.wrap (IntKind.u64.wrap (x : Int)*IntKind.u64.wrap (y : Int))+IntKind.u64.wrap (z' : Int)))=((cy+(x*y+z') : Nat) : Int):=by
    rw [hmul]
    generalize x*y=xy at hxy ⊢
    simp only [IntKind.wrap_u64]; omega
   conv=>whnf
   refine ⟨⟨by rw [hik]; omega,by rw [hik]; omega⟩,?_⟩
   conv=>whnf
   refine ⟨⟨by rw [hik,zar]; simp; show (i+k)*1+1≤_; omega,by decide⟩,?_⟩
   conv=>whnf
   refine ⟨by decide,?_⟩
   conv=>whnf
   obtain ⟨t,htt⟩ : ∃ t,t=cy+(x*y+z'):=⟨_,rfl⟩
   rw [←htt] at ht
   have htb : t<2 ^ 64:=by rw [htt]; generalize x*y=xy at hxy ⊢; omega
   refine ⟨(k+1,P++[t%2 ^ 32],t/2 ^ 32),⟨by omega,by simp; omega,by show t/2 ^ 32<2 ^ 32; omega,?_,?_⟩,by simp; omega,?_⟩
   ·intro v hv
    rcases List.mem_append.1 hv with hv | hv
    ·exact hPb v hv
    ·rw [List.mem_singleton.1 hv]; exact Nat.mod_lt _ (by decide)
   ·rw [htt]; exact zvq (by decide) hP hinv hoz hy
   ·refine SLe.id ⟨rfl,rfl,rfl,rfl,rfl,rfl,rfl,rfl,?_,rfl,rfl,?_,trivial⟩ ⟨⟨_,rfl,?_⟩,trivial⟩ (fun R hR=>hR)
    ·show some (SV.o (.v (.int _ (Int.fdiv (IntKind.u64.wrap ((cy : Int)+IntKind.u64.wrap (IntKind.u64.wrap (IntKind.u64.wrap (x : Int)*IntKind.u64.wrap (y : Int))+IntKind.u64.wrap (z' : Int)))) (2 ^ 32)))))=some (SV.o (.v (.int _ ((t/2 ^ 32 : Nat) : Int))))
     rw [ht,Int.fdiv_eq_ediv_of_nonneg _ (by decide)]; rfl
    ·show some (SV.o (.v (.int _ (IntKind.i64.wrap ((k : Int)+1)))))=some (SV.o (.v (.int _ ((k+1 : Nat) : Int))))
     rw [wrap_i64 (by omega) (by omega)]; rfl
    ·show MEle (ME.own _ _ _ (putN ((IntKind.i64.wrap ((i : Int)+(k : Int))).toNat*1) [Value.int .u32 (IntKind.u32.wrap (IntKind.u64.wrap ((cy : Int)+IntKind.u64.wrap (IntKind.u64.wrap (IntKind.u64.wrap (x : Int)*IntKind.u64.wrap (y : Int))+IntKind.u64.wrap (z' : Int)))))] (rowV u32c (P++(o.drop (i+k)++List.replicate (a.length-i) 0)))))
      (ME.own _ _ _ (rowV u32c ((P++[t%2 ^ 32])++(o.drop (i+(k+1))++List.replicate (a.length-i) 0))))
     rw [ht,hik,hdrop,List.cons_append,IntKind.wrap_u32,show ((t : Nat) : Int)%4294967296=((t%2 ^ 32 : Nat) : Int) by omega,zfd P _ _ _ (by rw [hP,Int.toNat_natCast,Nat.mul_one])]
     exact .refl _
  ·intro h2
   have hk' : k=b.length:=by have : ¬(k : Int)<b.length:=by simpa using h2
                             omega
   have him : IntKind.i64.wrap ((i : Int)+(b.length : Int))=((i+b.length : Nat) : Int):=by rw [wrap_i64 (by omega) (by omega)]; omega
   have hd0 : o.drop (i+k)=[]:=by rw [hk',←ho,List.drop_length]
   have hrep : List.replicate (a.length-i) 0=0::List.replicate (a.length-(i+1)) 0:=by
    rw [←List.replicate_succ]; congr 1; omega
   conv=>whnf
   refine ⟨⟨by rw [him]; omega,by rw [him]; omega⟩,?_⟩
   conv=>whnf
   refine ⟨⟨by rw [him,zar,hd0]; simp; show (i+b.length)*1+1≤_; omega,by decide⟩,?_⟩
   conv=>whnf
   refine ⟨(i+1,P++[cy]),⟨by omega,by simp; omega,?_,?_⟩,by simp; omega,?_⟩
   ·intro v hv
    rcases List.mem_append.1 hv with hv | hv
    ·exact hPb v hv
    ·rw [List.mem_singleton.1 hv]; exact hcy
   ·rw [zcM,hP,hinv,hk',←ho,List.take_length,List.take_length,hov,za0 hx,Nat.add_mul]
    congr 1
    rw [Nat.mul_assoc]
   ·refine SLe.id ⟨rfl,rfl,rfl,rfl,rfl,?_,trivial⟩ ⟨⟨_,rfl,?_⟩,trivial⟩ (fun R hR=>hR)
    ·show some (SV.o (.v (.int _ (IntKind.i64.wrap ((i : Int)+1)))))=some (SV.o (.v (.int _ ((i+1 : Nat) : Int))))
     rw [wrap_i64 (by omega) (by omega)]; rfl
    ·show MEle (ME.own _ _ _ (putN ((IntKind.i64.wrap ((i : Int)+(b.length : Int))).toNat*1) [Value.int .u32 (IntKind.u32.wrap (cy : Int))] (rowV u32c (P++(o.drop (i+k)++List.replicate (a.length-i) 0)))))
      (ME.own _ _ _ (rowV u32c ((P++[cy])++List.replicate (a.length-(i+1)) 0)))
     rw [him,hd0,hrep,List.nil_append,IntKind.wrap_u32,show (cy : Int)%4294967296=(cy : Int) by omega,zfd P _ _ _ (by rw [hP,hk',Int.toNat_natCast,Nat.mul_one])]
     exact .refl _
 ·intro h
  have hi' : i=a.length:=by have : ¬(i : Int)<a.length:=by simpa using h
                            omega
  have hz : o++List.replicate (a.length-i) 0=o:=by rw [hi',Nat.sub_self]; simp
  have hdig : tr o=digs (2 ^ 32) (lv (2 ^ 32) a*lv (2 ^ 32) b):=by rw [zna (by decide) hob,hov,hi',List.take_length]
  have hol : a.length+b.length=o.length:=by rw [ho,hi']
  conv=>whnf
  refine zac.cutO (n:=a.length+b.length) (xs:=u32V (o++List.replicate (a.length-i) 0)) (n':=(tr o).length) 66 (fun A c hc=>?_) rfl (by rw [hol]; exact zcB o) rfl rfl ?_ rfl
  ·rw [hz,hol]; exact zhy A c o (by omega) (by omega)
  ·conv=>whnf
   refine ⟨66,rfl,?_⟩
   show some (ME.own zat 1 (tr o).length ((rowV u32c (o++List.replicate (a.length-i) 0)).take ((tr o).length*1)))=_
   rw [hz,zbm zau,zeB,hdig]
end Go.Sx
end
section
set_option maxRecDepth 10000
namespace Go.Sx
open Go Go.Proofs
theorem zw6 {v d q r : Nat} (hd : r<d) (h : v=d*q+r) : v/d=q∧v%d=r:=by
 subst h
 rw [Nat.mul_add_div (by omega),Nat.div_eq_of_lt hd,Nat.mul_add_mod,Nat.mod_eq_of_lt hd]
 exact ⟨by omega,rfl⟩
theorem zAc (A : Option Addr) (c : Nat) (a : List Nat) (d : Nat) (ha : ∀ x∈a,x<2 ^ 32) (hd : 0<d) (hd2 : d<2 ^ 32) (hla : a.length≤100000000000) :
  FnM PP zd0 [.slice A a.length c,u32 d] (facts [zaf A (u32V a)]) (zxV zat 1 (digs (2 ^ 32) (lv (2 ^ 32) a/d)).length (u32V (digs (2 ^ 32) (lv (2 ^ 32) a/d))) (u32 (lv (2 ^ 32) a%d))):=by
 refine FnT.of zab mixed zig rfl rfl (Nat.le_of_ble_eq_true rfl) (by simp [zaf.ok]) ?_
 intro w hw
 have hwr : IntKind.i64.wrap ((a.length : Int)-1)=(a.length : Int)-1:=wrap_i64 (by omega) (by omega)
 conv=>whnf
 refine ⟨⟨by omega,by omega,by show (4 : Int)*_≤_; omega,by omega⟩,?_⟩
 conv=>whnf
 refine zak (ι:=Nat×List Nat×Nat) (fun ⟨k,q,r⟩=>⟨[(0,.o (.v (.slice A a.length c))),(1,.o (.v (u32 d))),(6,.o (.w 11)),(7,.o (.v (u32 r))),(8,.o (.v (.int .i64 ((k : Int)-1))))],[(11,.own zat 1 a.length (u32V (List.replicate k 0++q)))],[zaf A (u32V a)]⟩)
  (fun ⟨k,q,r⟩=>k≤a.length∧q.length=a.length-k∧r<d∧(∀ x∈q,x<2 ^ 32)∧lv (2 ^ 32) (a.drop k)=d*lv (2 ^ 32) q+r) (fun ⟨k,q,r⟩=>k) (a.length,[],0)
  ⟨Nat.le_refl _,by simp,hd,(fun _ h=>by cases h),by simp [lv]⟩ (SLe.id ⟨rfl,rfl,rfl,rfl,congrArg (fun z=>some (SV.o (.v (.int .i64 z)))) hwr,trivial⟩ ⟨⟨_,rfl,?_⟩,trivial⟩ (fun R hR=>hR)) ?_
 ·simp only [ME.ren,Int.toNat_natCast,List.append_nil]
  simp only [u32V,zb7]
  exact .refl _
 rintro ⟨k,q,r⟩ ⟨hk,hq,hr,hqb,hinv⟩
 conv=>whnf
 refine zah ?_ ?_
 ·intro h
  have hk0 : 0<k:=by have : (0 : Int)≤(k : Int)-1:=by simpa using h
                     omega
  have hA : A.isSome=true:=zap (zaK hw) (by rw [zar]; omega)
  have hkn : ((k : Int)-1).toNat=k-1:=by omega
  conv=>whnf
  refine ⟨⟨by omega,by omega,hA⟩,?_⟩
  conv=>whnf
  refine zao.elem u32c zau (List.mem_singleton.2 rfl) rfl (by omega) (by decide) (fun _=>rfl) ?_
  rw [hkn]
  intro x hx
  have hxb : x<2 ^ 32:=ha x (List.mem_of_getElem? hx)
  conv=>whnf
  refine zac.fn (zzZ r x d hr hxb hd2) rfl ?_
  conv=>whnf
  refine ⟨⟨by omega,by omega⟩,?_⟩
  conv=>whnf
  refine ⟨⟨by rw [hkn,zar]; simp; show (k-1)*1+1≤_; omega,by decide⟩,?_⟩
  conv=>whnf
  have hq2 : (r*2 ^ 32+x)/d<2 ^ 32:=by
   apply Nat.div_lt_of_lt_mul
   have : (r+1)*2 ^ 32≤d*2 ^ 32:=Nat.mul_le_mul_right _ hr
   omega
  have hdrop : a.drop (k-1)=x::a.drop k:=by
   obtain ⟨h5,h6⟩:=List.getElem?_eq_some_iff.1 hx
   rw [List.drop_eq_getElem_cons h5,h6,show k-1+1=k by omega]
  refine ⟨(k-1,(r*2 ^ 32+x)/d::q,(r*2 ^ 32+x)%d),⟨by omega,by simp; omega,Nat.mod_lt _ hd,?_,?_⟩,by show k-1<k; omega,?_⟩
  ·intro v hv
   rcases List.mem_cons.1 hv with rfl | hv
   ·exact hq2
   ·exact hqb v hv
  ·rw [hdrop]
   simp only [lv]
   rw [hinv]
   have h7:=Nat.div_add_mod (r*2 ^ 32+x) d
   generalize (r*2 ^ 32+x)/d=q' at *
   generalize (r*2 ^ 32+x)%d=r' at *
   rw [Nat.mul_add,Nat.mul_add,Nat.mul_left_comm d (2 ^ 32)]
   omega
  ·refine SLe.id ⟨rfl,rfl,rfl,rfl,?_,trivial⟩ ⟨⟨_,rfl,?_⟩,trivial⟩ (fun R hR=>hR)
   ·show some (SV.o (.v (.int _ (IntKind.i64.wrap ((k : Int)-1-1)))))=some (SV.o (.v (.int _ (((k-1 : Nat) : Int)-1))))
    rw [wrap_i64 (by omega) (by omega)]
    congr 4; omega
   ·show MEle (ME.own _ _ _ (putN (((k : Int)-1).toNat*1) [Value.int .u32 (((r*2 ^ 32+x)/d : Nat) : Int)] (rowV u32c (List.replicate k 0++q)))) (ME.own _ _ _ (rowV u32c (List.replicate (k-1) 0++(r*2 ^ 32+x)/d::q)))
    have hrep : List.replicate k 0++q=List.replicate (k-1) 0++0::q:=by
     have : List.replicate k 0=List.replicate (k-1) 0++[0]:=by rw [←List.replicate_succ']; congr 1; omega
     rw [this]; simp
    rw [hkn,hrep,zfd (List.replicate (k-1) 0) q 0 _ (by simp)]
    simp only [List.append_assoc,List.singleton_append]
    exact .refl _
 ·intro h
  have hk0 : k=0:=by have : ¬(0 : Int)≤(k : Int)-1:=by simpa using h
                     omega
  subst hk0
  rw [List.drop_zero] at hinv
  obtain ⟨hdq,hdr⟩:=zw6 hr hinv
  have hdig : tr q=digs (2 ^ 32) (lv (2 ^ 32) a/d):=by rw [zna (by decide) hqb,hdq]
  have hql : a.length=q.length:=by omega
  conv=>whnf
  refine zac.cutO (n:=a.length) (xs:=u32V (List.replicate 0 0++q)) (n':=(tr q).length) 33 (fun A c hc=>?_) rfl (by rw [hql]; exact zcB q) rfl rfl ?_ rfl
  ·rw [hql]; exact zhy A c q (by omega) (by omega)
  ·conv=>whnf
   refine ⟨33,by rw [hdr],?_⟩
   show some (ME.own zat 1 (tr q).length ((rowV u32c q).take ((tr q).length*1)))=_
   rw [zbm zau,zeB,hdig]
end Go.Sx
end
section
set_option maxRecDepth 10000
namespace Go.Sx
open Go Go.Proofs
theorem zsU {B : Nat} (hB : 0<B) : ∀ (l : List Nat),(∀ x∈l,x<B)→pad B l.length (lv B l)=l
 | [],_=>rfl
 | x::l,h=>by
  have hx:=h x (by simp)
  rw [List.length_cons,zqK,lv,Nat.add_mul_mod_self_left,Nat.mod_eq_of_lt hx,Nat.add_mul_div_left _ _ hB,Nat.div_eq_of_lt hx,Nat.zero_add,zsU hB l (fun y hy=>h y (List.mem_cons_of_mem _ hy))]
theorem zvW {x n h : Nat} (hx : x<2 ^ 32) (hn : n<32) (hh : h<2 ^ n) : x*2 ^ n/2 ^ 32<2 ^ n∧∃ m,x*2 ^ n%2 ^ 32=m*2 ^ n∧h+m*2 ^ n<2 ^ 32:=by
 have hp : (2 : Nat) ^ 32=2 ^ (32-n)*2 ^ n:=by rw [←Nat.pow_add]; congr 1; omega
 have hpos : 0<(2 : Nat) ^ n:=Nat.pow_pos (by decide)
 refine ⟨Nat.div_lt_of_lt_mul (Nat.mul_lt_mul_of_pos_right hx hpos),x%2 ^ (32-n),?_,?_⟩
 ·rw [hp,Nat.mul_mod_mul_right]
 ·have h1 : x%2 ^ (32-n)<2 ^ (32-n):=Nat.mod_lt _ (Nat.pow_pos (by decide))
  have h2 : (x%2 ^ (32-n)+1)*2 ^ n≤2 ^ (32-n)*2 ^ n:=Nat.mul_le_mul_right _ h1
  rw [←hp,Nat.add_mul,Nat.one_mul] at h2
  omega
theorem zvr {B i h x p : Nat} {a o : List Nat} (ho : o.length=i) (hv : lv B o+B ^ i*h=lv B (a.take i)*p) (hx : a[i]?=some x) :
  lv B (o++[h+x*p%B])+B ^ (i+1)*(x*p/B)=lv B (a.take (i+1))*p:=by
 have h1 : B ^ i*(x*p%B)+B ^ i*(B*(x*p/B))=B ^ i*(x*p):=by rw [←Nat.mul_add,Nat.mod_add_div]
 rw [zcM,ho,za0 hx,Nat.add_mul,←hv,Nat.pow_succ,Nat.mul_add,Nat.mul_assoc (B ^ i) B,Nat.mul_assoc (B ^ i) x]
 omega
theorem zwQ (A : Option Addr) (c : Nat) (a : List Nat) (n : Nat) (ha : ∀ x∈a,x<2 ^ 32) (hn : n<32) (hla : a.length≤100000000000) :
   FnM PP zd9 [.slice A a.length c,.int .i64 n] (facts [zaf A (u32V a)]) (zdn zat 1 (a.length+1) (u32V (pad (2 ^ 32) (a.length+1) (lv (2 ^ 32) a*2 ^ n)))):=by
 refine FnO.of zab mixed ziC rfl rfl (Nat.le_of_ble_eq_true rfl) (by simp [zaf.ok]) ?_
 intro w hw
 have hcap : IntKind.i64.wrap ((a.length : Int)+1)=((a.length+1 : Nat) : Int):=by rw [wrap_i64 (by omega) (by omega)]; omega
 have hpos : 0<(2 : Nat) ^ n:=Nat.pow_pos (by decide)
 conv=>whnf
 refine ⟨by rw [hcap]; exact ⟨by omega,by omega,by show (4 : Int)*_≤_; omega,by omega⟩,?_⟩
 conv=>whnf
 refine zak (ι:=List Nat×Nat) (fun ⟨o,h⟩=>⟨[(0,.o (.v (.slice A a.length c))),(1,.o (.v (.int .i64 n))),(5,.o (.w 12)),(13,.o (.v (.slice A a.length c))),(14,.o (.v (.int .i64 a.length))),(15,.o (.v (.int .i64 o.length)))],[(12,.own zat 1 (a.length+1) (u32V (o++h::List.replicate (a.length-o.length) 0)))],[zaf A (u32V a)]⟩)
   (fun ⟨o,h⟩=>o.length≤a.length∧h<2 ^ n∧(∀ x∈o,x<2 ^ 32)∧lv (2 ^ 32) o+(2 ^ 32) ^ o.length*h=lv (2 ^ 32) (a.take o.length)*2 ^ n) (fun ⟨o,h⟩=>a.length-o.length) ([],0)
   ⟨Nat.zero_le _,hpos,(fun _ h=>by cases h),by simp [lv]⟩ (SLe.id ⟨rfl,rfl,rfl,rfl,rfl,rfl,trivial⟩ ⟨⟨_,rfl,?_⟩,trivial⟩ (fun R hR=>hR)) ?_
 · rw [hcap]
   simp only [ME.ren,Int.toNat_natCast,List.length_nil,Nat.sub_zero,List.nil_append,←List.replicate_succ]
   simp only [u32V,zb7]
   exact .refl _
 rintro ⟨o,h⟩ ⟨ho,hh,hob,hinv⟩
 conv=>whnf
 refine zah ?_ ?_
 · intro hlt
   have hi : o.length<a.length:=by have : (o.length : Int)<a.length:=by simpa using hlt
                                   omega
   have hA : A.isSome=true:=zap (zaK hw) (by rw [zar]; omega)
   have hip : IntKind.i64.wrap ((o.length : Int)+1)=((o.length+1 : Nat) : Int):=by rw [wrap_i64 (by omega) (by omega)]; omega
   conv=>whnf
   refine ⟨⟨by omega,by omega,hA⟩,?_⟩
   conv=>whnf
   refine zao.elem u32c zau (List.mem_singleton.2 rfl) rfl (by rw [Int.toNat_natCast]; exact hi) (by decide) (fun _=>rfl) ?_
   rw [Int.toNat_natCast]
   intro x hx
   have hxb : x<2 ^ 32:=ha x (List.mem_of_getElem? hx)
   obtain ⟨hhi,m,hm,hsum⟩:=zvW hxb hn hh
   have hy : IntKind.u64.wrap (IntKind.u64.wrap (x : Int)*2 ^ min (n : Int).toNat IntKind.u64.bits)=((x*2 ^ n : Nat) : Int):=by
     have e1 : IntKind.u64.wrap (x : Int)=(x : Int):=by rw [IntKind.wrap_u64]; omega
     have e2 : ((x : Int)*2 ^ n)=((x*2 ^ n : Nat) : Int):=by rw [Int.natCast_mul,Int.natCast_pow]; rfl
     have e3 : x*2 ^ n<2 ^ 64:=by
       have h1 : x*2 ^ n<2 ^ 32*2 ^ n:=Nat.mul_lt_mul_of_pos_right hxb hpos
       have h2 : (2 : Nat) ^ 32*2 ^ n≤2 ^ 64:=by rw [←Nat.pow_add]; exact Nat.pow_le_pow_right (by decide) (by omega)
       omega
     rw [e1,Int.toNat_natCast,show min n IntKind.u64.bits=n from Nat.min_eq_left (by show n≤64; omega),e2,IntKind.wrap_u64]; omega
   conv=>whnf
   refine ⟨by omega,?_⟩
   conv=>whnf
   refine ⟨⟨by omega,by omega⟩,?_⟩
   conv=>whnf
   refine zbU.elem u32c zau (k:=o.length) (by rw [Int.toNat_natCast]; rfl) (by simp) (by decide) (fun _=>rfl) ?_
   intro h' hh'
   have hhh : h'=h:=by
     rw [List.getElem?_append_right (Nat.le_refl _),Nat.sub_self] at hh'
     exact (Option.some.inj hh').symm
   subst hhh
   conv=>whnf
   refine ⟨⟨by omega,by omega⟩,?_⟩
   conv=>whnf
   refine ⟨⟨by rw [zar]; simp; show _*1+1≤_; omega,by decide⟩,?_⟩
   conv=>whnf
   refine ⟨by decide,?_⟩
   conv=>whnf
   refine ⟨⟨by rw [hip]; omega,by rw [hip]; omega⟩,?_⟩
   conv=>whnf
   have hor : IntKind.u32.wrap (BitVec.toNat (w:=32) (BitVec.ofInt 32 (h' : Int) ||| BitVec.ofInt 32 (IntKind.u32.wrap ((x*2 ^ n : Nat) : Int))) : Int)=((h'+m*2 ^ n : Nat) : Int):=by
     have e1 : IntKind.u32.wrap ((x*2 ^ n : Nat) : Int)=((m*2 ^ n : Nat) : Int):=by rw [IntKind.wrap_u32,←hm]; rfl
     rw [e1]
     exact zzd hh hsum
   have hrep : List.replicate (a.length-o.length) 0=0::List.replicate (a.length-(o.length+1)) 0:=by rw [←List.replicate_succ]; congr 1; omega
   have hput1 : ∀ v : Int,v=((h'+m*2 ^ n : Nat) : Int)→putN ((o.length : Int).toNat*1) [Value.int .u32 v] (rowV u32c (o++h'::List.replicate (a.length-o.length) 0))
       = rowV u32c ((o++[h'+m*2 ^ n])++0::List.replicate (a.length-(o.length+1)) 0):=by
     intro v hv
     rw [hv,zfd o _ _ _ (by simp),hrep]
   refine ⟨⟨?_,by decide⟩,?_⟩
   · show _≤(putN ((o.length : Int).toNat*1) [Value.int .u32 _] (rowV u32c _)).length
     rw [hput1 _ (by rw [hy]; exact hor),hip,zar]
     simp
     show (o.length+1)*1+1≤_
     omega
   conv=>whnf
   refine ⟨(o++[h'+m*2 ^ n],x*2 ^ n/2 ^ 32),⟨by simp; omega,hhi,?_,?_⟩,by simp; omega,?_⟩
   · intro v hv
     rcases List.mem_append.1 hv with hv | hv
     · exact hob v hv
     · rw [List.mem_singleton.1 hv]; exact hsum
   · rw [List.length_append]
     show lv (2 ^ 32) (o++[h'+m*2 ^ n])+(2 ^ 32) ^ (o.length+1)*(x*2 ^ n/2 ^ 32)=lv (2 ^ 32) (a.take (o.length+1))*2 ^ n
     rw [←hm]
     exact zvr rfl hinv hx
   · refine SLe.id ⟨rfl,rfl,rfl,rfl,rfl,?_,trivial⟩ ⟨⟨_,rfl,?_⟩,trivial⟩ (fun R hR=>hR)
     · show some (SV.o (.v (.int _ (IntKind.i64.wrap ((o.length : Int)+1)))))=some (SV.o (.v (.int _ (((o++[_]).length : Nat) : Int))))
       rw [hip,List.length_append]; rfl
     · show MEle (ME.own _ _ _ (putN ((IntKind.i64.wrap ((o.length : Int)+1)).toNat*1) [Value.int .u32 (IntKind.u32.wrap (Int.fdiv (IntKind.u64.wrap (IntKind.u64.wrap (x : Int)*2 ^ min (n : Int).toNat IntKind.u64.bits)) (2 ^ 32)))] (putN ((o.length : Int).toNat*1) [Value.int .u32 _] (rowV u32c (o++h'::List.replicate (a.length-o.length) 0)))))
         (ME.own _ _ _ (rowV u32c ((o++[h'+m*2 ^ n])++(x*2 ^ n/2 ^ 32)::List.replicate (a.length-(o++[_]).length) 0)))
       have hhi2 : IntKind.u32.wrap (Int.fdiv ((x*2 ^ n : Nat) : Int) (2 ^ 32))=((x*2 ^ n/2 ^ 32 : Nat) : Int):=by
         rw [Int.fdiv_eq_ediv_of_nonneg _ (by decide)]
         have e5 : ((x*2 ^ n : Nat) : Int)/2 ^ 32=((x*2 ^ n/2 ^ 32 : Nat) : Int):=rfl
         have e6 : (2 : Nat) ^ n≤2 ^ 32:=Nat.pow_le_pow_right (by decide) (by omega)
         rw [e5]
         generalize x*2 ^ n/2 ^ 32=z at hhi ⊢
         rw [IntKind.wrap_u32]; omega
       rw [hput1 _ (by rw [hy]; exact hor),hy,hhi2,hip,zfd (o++[h'+m*2 ^ n]) _ _ _ (by simp)]
       simp only [List.length_append,List.append_assoc,List.singleton_append,List.cons_append,List.nil_append,List.length_cons,List.length_nil]
       exact .refl _
 · intro hlt
   have hi : o.length=a.length:=by have : ¬(o.length : Int)<a.length:=by simpa using hlt
                                   omega
   have h32 : (2 : Nat) ^ n≤2 ^ 32:=Nat.pow_le_pow_right (by decide) (by omega)
   conv=>whnf
   refine ⟨12,rfl,?_⟩
   show some (ME.own zat 1 (a.length+1) (u32V (o++h::List.replicate (a.length-o.length) 0)))=_
   have hval : lv (2 ^ 32) (o++[h])=lv (2 ^ 32) a*2 ^ n:=by rw [zcM,hinv,hi,List.take_length]
   have:=zsU (B:=2 ^ 32) (by decide) (o++[h]) (fun v hv=>by
     rcases List.mem_append.1 hv with hv | hv
     · exact hob v hv
     · rw [List.mem_singleton.1 hv]; omega)
   rw [hval,List.length_append,hi] at this
   rw [hi,Nat.sub_self]
   simp only [List.replicate_zero]
   rw [←this]; rfl
end Go.Sx
end
section
set_option maxRecDepth 10000
namespace Go.Sx
open Go Go.Proofs
theorem zl1 {B : Nat} (hB : 0<B) {a : List Nat} (ha : ∀ x∈a,x<B) (i : Nat) (hi : i≤a.length) : lv B a/B ^ i=lv B (a.drop i):=by
 have h1 : lv B a=lv B (a.take i)+B ^ i*lv B (a.drop i):=by
  conv=>lhs; rw [←List.take_append_drop i a]
  rw [zbE,List.length_take,Nat.min_eq_left hi]
 have h2 : lv B (a.take i)<B ^ i:=by
  have:=zkT hB (a.take i) (fun z hz=>ha z (List.mem_of_mem_take hz))
  rwa [List.length_take,Nat.min_eq_left hi] at this
 rw [h1,Nat.add_mul_div_left _ _ (Nat.pow_pos hB),Nat.div_eq_of_lt h2,Nat.zero_add]
theorem zq0 {a : List Nat} {i n x y : Nat} (ha : ∀ z∈a,z<2 ^ 32) (hn : n<32) (hx : a[i]?=some x) (hy : a[i+1]?=some y∨(a.length≤i+1∧y=0)) :
  lv (2 ^ 32) a/2 ^ n/(2 ^ 32) ^ i%2 ^ 32=(x+y*2 ^ 32)/2 ^ n%2 ^ 32:=by
 obtain ⟨hi,hxe⟩:=List.getElem?_eq_some_iff.1 hx
 have h1 : ∃ m,lv (2 ^ 32) (a.drop i)=x+2 ^ 32*(y+2 ^ 32*m):=by
  rw [List.drop_eq_getElem_cons hi,hxe]
  rcases hy with h | ⟨h,rfl⟩
  ·obtain ⟨hj,hye⟩:=List.getElem?_eq_some_iff.1 h
   rw [List.drop_eq_getElem_cons hj,hye]
   exact ⟨_,rfl⟩
  ·rw [List.drop_of_length_le h]
   exact ⟨0,rfl⟩
 obtain ⟨m,hm⟩:=h1
 have hp : (2 : Nat) ^ 32=2 ^ n*2 ^ (32-n):=by rw [←Nat.pow_add]; congr 1; omega
 have hpos : 0<(2 : Nat) ^ n:=Nat.pow_pos (by decide)
 rw [Nat.div_div_eq_div_mul,Nat.mul_comm,←Nat.div_div_eq_div_mul,zl1 (by decide) ha i (by omega),hm]
 have h2 : x+2 ^ 32*(y+2 ^ 32*m)=(x+y*2 ^ 32)+2 ^ n*(2 ^ 32*(2 ^ (32-n)*m)):=by
  have : 2 ^ n*(2 ^ 32*(2 ^ (32-n)*m))=2 ^ 32*(2 ^ 32*m):=by
   rw [Nat.mul_left_comm (2 ^ n),←Nat.mul_assoc (2 ^ n) (2 ^ (32-n)),←hp]
  rw [this]; omega
 rw [h2,Nat.add_mul_div_left _ _ hpos,Nat.add_mul_mod_self_left]
theorem zyt (B i v : Nat) : pad B (i+1) v=pad B i v++[v/B ^ i%B]:=by simp [pad,List.range_succ]
theorem zvX (A : Option Addr) (c : Nat) (a : List Nat) (n : Nat) (ha : ∀ x∈a,x<2 ^ 32) (hn : n<32) (hla : a.length≤100000000000) :
  FnM PP zbW [.slice A a.length c,.int .i64 n] (facts [zaf A (u32V a)]) (zdn zat 1 (digs (2 ^ 32) (lv (2 ^ 32) a/2 ^ n)).length (u32V (digs (2 ^ 32) (lv (2 ^ 32) a/2 ^ n)))):=by
 refine FnO.of zab mixed zgP rfl rfl (Nat.le_of_ble_eq_true rfl) (by simp [zaf.ok]) ?_
 intro w hw
 conv=>whnf
 refine ⟨⟨by omega,by omega,by show (4 : Int)*_≤_; omega,by omega⟩,?_⟩
 conv=>whnf
 refine zak (ι:=Nat) (fun i=>⟨[(0,.o (.v (.slice A a.length c))),(1,.o (.v (.int .i64 n))),(5,.o (.w 10)),(12,.o (.v (.int .i64 a.length))),(13,.o (.v (.int .i64 i)))],[(10,.own zat 1 a.length (u32V (pad (2 ^ 32) i (lv (2 ^ 32) a/2 ^ n)++List.replicate (a.length-i) 0)))],[zaf A (u32V a)]⟩)
  (fun i=>i≤a.length) (fun i=>a.length-i) 0 (Nat.zero_le _) (SLe.id ⟨rfl,rfl,rfl,rfl,rfl,trivial⟩ ⟨⟨_,rfl,?_⟩,trivial⟩ (fun R hR=>hR)) ?_
 ·simp only [ME.ren,Int.toNat_natCast,Nat.sub_zero]
  show MEle _ (ME.own _ _ _ (rowV u32c ([]++List.replicate a.length 0)))
  rw [List.nil_append,zb7]
  exact .refl _
 intro i hi
 conv=>whnf
 refine zah ?_ ?_
 ·intro hlt
  have hi' : i<a.length:=by have : (i : Int)<a.length:=by simpa using hlt
                            omega
  have hA : A.isSome=true:=zap (zaK hw) (by rw [zar]; omega)
  have hip : IntKind.i64.wrap ((i : Int)+1)=((i+1 : Nat) : Int):=by rw [wrap_i64 (by omega) (by omega)]; omega
  have hrep : List.replicate (a.length-i) 0=0::List.replicate (a.length-(i+1)) 0:=by rw [←List.replicate_succ]; congr 1; omega
  have hput : ∀ (v : Int) (x y : Nat),a[i]?=some x→(a[i+1]?=some y∨(a.length≤i+1∧y=0))→v=(((x+y*2 ^ 32)/2 ^ n%2 ^ 32 : Nat) : Int) →
    putN ((i : Int).toNat*1) [Value.int .u32 v] (rowV u32c (pad (2 ^ 32) i (lv (2 ^ 32) a/2 ^ n)++List.replicate (a.length-i) 0))=rowV u32c (pad (2 ^ 32) (i+1) (lv (2 ^ 32) a/2 ^ n)++List.replicate (a.length-(i+1)) 0):=by
   intro v x y hx hy hv
   rw [hv,hrep,zfd _ _ _ _ (by rw [zay,Int.toNat_natCast,Nat.mul_one]),zyt,zq0 ha hn hx hy]
  conv=>whnf
  refine ⟨⟨by omega,by omega,hA⟩,?_⟩
  conv=>whnf
  refine zao.elem u32c zau (List.mem_singleton.2 rfl) rfl (by rw [Int.toNat_natCast]; exact hi') (by decide) (fun _=>rfl) ?_
  rw [Int.toNat_natCast]
  intro x hx
  have hxb : x<2 ^ 32:=ha x (List.mem_of_getElem? hx)
  have hx64 : IntKind.u64.wrap (x : Int)=(x : Int):=by rw [IntKind.wrap_u64]; omega
  have hshr : ∀ z : Nat,IntKind.u32.wrap (Int.fdiv (z : Int) (2 ^ min (n : Int).toNat IntKind.u64.bits))=((z/2 ^ n%2 ^ 32 : Nat) : Int):=fun z=>by
   have e2 : ((2 : Int) ^ n)=((2 ^ n : Nat) : Int):=by rw [Int.natCast_pow]; rfl
   rw [Int.toNat_natCast,show min n IntKind.u64.bits=n from Nat.min_eq_left (by show n≤64; omega),e2,Int.fdiv_eq_ediv_of_nonneg _ (Int.natCast_nonneg _),IntKind.wrap_u32]
   have e3 : ((z : Int)/((2 ^ n : Nat) : Int))=((z/2 ^ n : Nat) : Int):=rfl
   rw [e3]; omega
  conv=>whnf
  refine zah ?_ ?_
  ·intro h2
   have hj : i+1<a.length:=by
    have : IntKind.i64.wrap ((i : Int)+1)<(a.length : Int):=by simpa using h2
    rw [hip] at this; omega
   conv=>whnf
   refine ⟨⟨by rw [hip]; omega,by rw [hip]; omega,hA⟩,?_⟩
   conv=>whnf
   refine zao.elem u32c zau (List.mem_singleton.2 rfl) rfl (by rw [hip,Int.toNat_natCast]; exact hj) (by decide) (fun _=>rfl) ?_
   rw [hip,Int.toNat_natCast]
   intro y hy
   have hyb : y<2 ^ 32:=ha y (List.mem_of_getElem? hy)
   have hor : IntKind.u64.wrap (BitVec.toNat (w:=64) (BitVec.ofInt 64 (IntKind.u64.wrap (x : Int)) ||| BitVec.ofInt 64 (IntKind.u64.wrap (IntKind.u64.wrap (y : Int)*2 ^ min (32 : Int).toNat IntKind.u64.bits))) : Int)=((x+y*2 ^ 32 : Nat) : Int):=by
    have e1 : IntKind.u64.wrap (IntKind.u64.wrap (y : Int)*2 ^ min (32 : Int).toNat IntKind.u64.bits)=((y*2 ^ 32 : Nat) : Int):=by
     rw [show min (32 : Int).toNat IntKind.u64.bits=32 from rfl,IntKind.wrap_u64,IntKind.wrap_u64]; omega
    rw [e1,hx64,ztY,BitVec.toNat_or,zaM (by omega),zaM (by omega),Nat.or_comm,Nat.mul_comm,←Nat.two_pow_add_eq_or_of_lt hxb]
    omega
   conv=>whnf
   refine ⟨by decide,?_⟩
   conv=>whnf
   refine ⟨by omega,?_⟩
   conv=>whnf
   refine ⟨⟨by omega,by omega⟩,?_⟩
   conv=>whnf
   refine ⟨⟨by rw [zar]; simp [zay]; show i*1+1≤_; omega,by decide⟩,?_⟩
   conv=>whnf
   refine ⟨i+1,by omega,by omega,?_⟩
   refine SLe.id ⟨rfl,rfl,rfl,rfl,congrArg (fun z=>some (SV.o (.v (.int .i64 z)))) hip,trivial⟩ ⟨⟨_,rfl,?_⟩,trivial⟩ (fun R hR=>hR)
   show MEle (ME.own _ _ _ (putN ((i : Int).toNat*1) [Value.int .u32 _] (rowV u32c _))) (ME.own _ _ _ (rowV u32c _))
   rw [hput _ x y hx (.inl hy) (by exact (congrArg (fun z=>IntKind.u32.wrap (Int.fdiv z (2 ^ min (n : Int).toNat IntKind.u64.bits))) hor).trans (hshr _))]
   exact .refl _
  ·intro h2
   have hj : a.length≤i+1:=by
    have : ¬IntKind.i64.wrap ((i : Int)+1)<(a.length : Int):=by simpa using h2
    rw [hip] at this; omega
   conv=>whnf
   refine ⟨by omega,?_⟩
   conv=>whnf
   refine ⟨⟨by omega,by omega⟩,?_⟩
   conv=>whnf
   refine ⟨⟨by rw [zar]; simp [zay]; show i*1+1≤_; omega,by decide⟩,?_⟩
   conv=>whnf
   refine ⟨i+1,by omega,by omega,?_⟩
   refine SLe.id ⟨rfl,rfl,rfl,rfl,congrArg (fun z=>some (SV.o (.v (.int .i64 z)))) hip,trivial⟩ ⟨⟨_,rfl,?_⟩,trivial⟩ (fun R hR=>hR)
   show MEle (ME.own _ _ _ (putN ((i : Int).toNat*1) [Value.int .u32 _] (rowV u32c _))) (ME.own _ _ _ (rowV u32c _))
   rw [hput _ x 0 hx (.inr ⟨hj,rfl⟩) ((congrArg (fun z=>IntKind.u32.wrap (Int.fdiv z (2 ^ min (n : Int).toNat IntKind.u64.bits))) hx64).trans ((hshr x).trans (by simp)))]
   exact .refl _
 ·intro hlt
  have hi' : i=a.length:=by have : ¬(i : Int)<a.length:=by simpa using hlt
                            omega
  obtain ⟨o,hoe⟩ : ∃ o,o=pad (2 ^ 32) i (lv (2 ^ 32) a/2 ^ n):=⟨_,rfl⟩
  have hz : pad (2 ^ 32) i (lv (2 ^ 32) a/2 ^ n)++List.replicate (a.length-i) 0=o:=by rw [hoe,hi',Nat.sub_self]; simp
  have hol : a.length=o.length:=by rw [hoe,zay,hi']
  have hob : ∀ x∈o,x<2 ^ 32:=by rw [hoe]; exact znQ (by decide) _ _
  have hdig : tr o=digs (2 ^ 32) (lv (2 ^ 32) a/2 ^ n):=by
   have h1:=zkT (by decide) a ha
   have h2 : lv (2 ^ 32) a/2 ^ n≤lv (2 ^ 32) a:=Nat.div_le_self _ _
   rw [zna (by decide) hob,hoe,zmo (by decide),hi',Nat.mod_eq_of_lt (by omega)]
  conv=>whnf
  refine zac.cutO (n:=a.length) (xs:=u32V (pad (2 ^ 32) i (lv (2 ^ 32) a/2 ^ n)++List.replicate (a.length-i) 0)) (n':=(tr o).length) 44 (fun A c hc=>?_) rfl (by rw [hol]; exact zcB o) rfl rfl ?_ rfl
  ·rw [hz,hol]; exact zhy A c o (by omega) (by omega)
  ·conv=>whnf
   refine ⟨44,rfl,?_⟩
   show some (ME.own zat 1 (tr o).length ((rowV u32c (pad (2 ^ 32) i (lv (2 ^ 32) a/2 ^ n)++List.replicate (a.length-i) 0)).take ((tr o).length*1)))=_
   rw [hz,zbm zau,zeB,hdig]
end Go.Sx
end
section
set_option maxRecDepth 10000
namespace Go.Sx
open Go Go.Proofs
def blen (x : Nat) : Nat:=if x=0 then 0 else Nat.log2 x+1
theorem zth (x : Nat) : x<2 ^ blen x:=by
 unfold blen
 split
 ·rename_i h; subst h; decide
 ·exact Nat.lt_log2_self
theorem zqH {x : Nat} (hx : 0<x) : 2 ^ (blen x-1)≤x∧0<blen x:=by
 unfold blen
 rw [if_neg (by omega)]
 exact ⟨Nat.log2_self_le (by omega),by omega⟩
theorem zAa {x L : Nat} (h1 : 2 ^ L≤x) (h2 : x<2 ^ (L+1)) : blen x=L+1:=by
 have hx : 0<x:=Nat.lt_of_lt_of_le (Nat.pow_pos (by decide)) h1
 obtain ⟨h3,h4⟩:=zqH hx
 have h5:=zth x
 have h6 : blen x-1<L+1:=(Nat.pow_lt_pow_iff_right (a:=2) (by decide)).1 (Nat.lt_of_le_of_lt h3 h2)
 have h7 : L<blen x:=(Nat.pow_lt_pow_iff_right (a:=2) (by decide)).1 (Nat.lt_of_le_of_lt h1 h5)
 omega
theorem zlB {x k : Nat} (h : 2 ^ k≤x) : blen x=k+blen (x/2 ^ k):=by
 have hp : 0<(2 : Nat) ^ k:=Nat.pow_pos (by decide)
 have hq : 0<x/2 ^ k:=Nat.div_pos h hp
 obtain ⟨h1,h2⟩:=zqH hq
 have h3:=zth (x/2 ^ k)
 obtain ⟨L,hL⟩ : ∃ L,blen (x/2 ^ k)=L+1:=⟨blen (x/2 ^ k)-1,by omega⟩
 rw [hL] at h1 h3 ⊢
 simp only [Nat.add_sub_cancel] at h1
 rw [show k+(L+1)=(k+L)+1 by omega]
 refine zAa ?_ ?_
 ·rw [Nat.pow_add,Nat.mul_comm]
  exact (Nat.le_div_iff_mul_le hp).1 h1
 ·rw [show k+L+1=(L+1)+k by omega,Nat.pow_add]
  exact (Nat.div_lt_iff_lt_mul hp).1 h3
theorem ztw {x : Nat} (h : x<2 ^ 32) : blen x≤32:=by
 rcases Nat.eq_zero_or_pos x with rfl | hx
 ·decide
 ·obtain ⟨h1,h2⟩:=zqH hx
  have:=(Nat.pow_lt_pow_iff_right (a:=2) (by decide)).1 (Nat.lt_of_le_of_lt h1 h)
  omega
theorem zqE (x k m : Nat) (hk : k≤m) : (x : Int).fdiv (2 ^ min (k : Int).toNat m)=((x/2 ^ k : Nat) : Int):=by
 have e2 : ((2 : Int) ^ k)=((2 ^ k : Nat) : Int):=by rw [Int.natCast_pow]; rfl
 rw [Int.toNat_natCast,Nat.min_eq_left hk,e2,Int.fdiv_eq_ediv_of_nonneg _ (Int.natCast_nonneg _)]; rfl
theorem zng {s : ByteArray} {v N : Int} {j x n : Nat} (h : ∀ j : Fin 256,sb s (j.val : Int)=(blen j.val : Int)) (hj : j<256) (hv : v=(j : Int)) (hN : N=(n : Int)) (hx : n+blen j=blen x) (hb : blen x≤32) :
  Value.int .i64 (IntKind.i64.wrap (N+IntKind.i64.wrap (sb s v)))=.int .i64 (blen x):=by
 have:=h ⟨j,hj⟩
 rw [hv,hN,this,wrap_i64 (n:=(blen j : Int)) (by omega) (by omega),wrap_i64 (by omega) (by omega)]
 congr 1; omega
theorem zpU {v : Int} {j : Nat} (hv : v=(j : Int)) (hj : j<256) : 0≤v∧v<256:=by omega
theorem ztE {j : Nat} (hj : j<256) : IntKind.u8.wrap (j : Int)=(j : Int):=by rw [IntKind.wrap_u8]; omega
theorem zAF (x : Nat) (hx : x<2 ^ 32) : Fn PP zfB [u32 x] (.int .i64 (blen x)):=by
 refine Fn.of zab mixed zlN rfl rfl (Nat.le_of_ble_eq_true rfl) ?_
 intro w
 have hb:=ztw hx
 conv=>whnf
 refine zah ?_ ?_
 ·intro h
  have hge : 65536≤x:=by have : (65536 : Int)≤x:=by simpa using h
                         omega
  have h16:=zqE x 16 32 (by decide)
  have hs16:=zlB (x:=x) (k:=16) (by omega)
  conv=>whnf
  refine ⟨by decide,?_⟩
  conv=>whnf
  refine zah ?_ ?_
  ·intro h2
   have hge2 : 256≤x/2 ^ 16:=by
    have : ((x : Int).fdiv (2 ^ min ((16 : Nat) : Int).toNat 32))≥256:=of_decide_eq_true h2
    rw [h16] at this; omega
   have hs8:=zlB (x:=x/2 ^ 16) (k:=8) (by omega)
   have h8:=zqE (x/2 ^ 16) 8 32 (by decide)
   have hv : IntKind.u8.wrap (((x : Int).fdiv (2 ^ min ((16 : Nat) : Int).toNat 32)).fdiv (2 ^ min ((8 : Nat) : Int).toNat 32))=((x/2 ^ 16/2 ^ 8 : Nat) : Int):=by rw [h16,h8,ztE (by omega)]
   conv=>whnf
   refine ⟨by decide,?_⟩
   conv=>whnf
   refine ⟨⟨(zpU hv (by omega)).1,show _<(256 : Int) from (zpU hv (by omega)).2⟩,?_⟩
   conv=>whnf
   refine zaa ?_
   refine zng (j:=x/2 ^ 16/2 ^ 8) (n:=24) ?_ (by omega) hv (by decide) (by omega) hb
   decide +kernel
  ·intro h2
   have hge2 : x/2 ^ 16<256:=by
    have : ¬((x : Int).fdiv (2 ^ min ((16 : Nat) : Int).toNat 32))≥256:=of_decide_eq_false h2
    rw [h16] at this; omega
   have hv : IntKind.u8.wrap ((x : Int).fdiv (2 ^ min ((16 : Nat) : Int).toNat 32))=((x/2 ^ 16 : Nat) : Int):=by rw [h16,ztE (by omega)]
   conv=>whnf
   refine ⟨⟨(zpU hv (by omega)).1,show _<(256 : Int) from (zpU hv (by omega)).2⟩,?_⟩
   conv=>whnf
   refine zaa ?_
   refine zng (j:=x/2 ^ 16) (n:=16) ?_ (by omega) hv (by decide) (by omega) hb
   decide +kernel
 ·intro h
  have hge : x<65536:=by have : ¬(65536 : Int)≤x:=by simpa using h
                         omega
  conv=>whnf
  refine zah ?_ ?_
  ·intro h2
   have hge2 : 256≤x:=by have : (256 : Int)≤x:=by simpa using h2
                         omega
   have hs8:=zlB (x:=x) (k:=8) (by omega)
   have h8:=zqE x 8 32 (by decide)
   have hv : IntKind.u8.wrap ((x : Int).fdiv (2 ^ min ((8 : Nat) : Int).toNat 32))=((x/2 ^ 8 : Nat) : Int):=by rw [h8,ztE (by omega)]
   conv=>whnf
   refine ⟨by decide,?_⟩
   conv=>whnf
   refine ⟨⟨(zpU hv (by omega)).1,show _<(256 : Int) from (zpU hv (by omega)).2⟩,?_⟩
   conv=>whnf
   refine zaa ?_
   refine zng (j:=x/2 ^ 8) (n:=8) ?_ (by omega) hv (by decide) (by omega) hb
   decide +kernel
  ·intro h2
   have hge2 : x<256:=by have : ¬(256 : Int)≤x:=by simpa using h2
                         omega
   have hv : IntKind.u8.wrap (x : Int)=(x : Int):=ztE (by omega)
   conv=>whnf
   refine ⟨⟨by rw [hv]; omega,by rw [hv]; show _<(256 : Int); omega⟩,?_⟩
   conv=>whnf
   refine zaa ?_
   refine zng (j:=x) (n:=0) ?_ (by omega) hv (by decide) (by omega) hb
   decide +kernel
theorem zm6 (x : Nat) (hx : x<2 ^ 32) : Fn PP zco [u32 x] (.int .i64 ((32-blen x : Nat) : Int)):=by
 refine Fn.of zab mixed zeV rfl rfl (Nat.le_of_ble_eq_true rfl) ?_
 intro w
 have hb:=ztw hx
 conv=>whnf
 refine zac.fn (zAF x hx) rfl ?_
 conv=>whnf
 refine zaa ?_
 rw [wrap_i64 (by omega) (by omega)]
 congr 1; omega
end Go.Sx
end
section
set_option maxRecDepth 10000
namespace Go.Sx
open Go Go.Proofs
theorem zbU.elemJ {α : Type} {xs : List α} {k n : Nat} {agg : Bool} {K : SV→Prop} {junk : List Value} (f : α→List Value) (hf : ∀ x,(f x).length=n) {off : Nat} (ho : off=k*n) (hj : k<xs.length) (h0 : 0<n) (h1 : agg=false→n=1) (hk : ∀ x,xs[k]?=some x→K (mkV agg (f x))) :
  zbU (rowV f xs++junk) off n agg K:=by
 obtain ⟨h2,l,h3,h4,h5,h6⟩:=zbU.elem f hf ho hj h0 h1 hk
 refine ⟨h2,l,h3,h4,fun j x hx=>?_,h6⟩
 have:=h5 j x hx
 rw [List.getElem?_append_left (List.getElem?_eq_some_iff.1 this).1]; exact this
theorem zll (P R : List Nat) (z d : Nat) (junk : List Value) {i : Nat} (hi : i=P.length) : putN i [Value.int .u32 (d : Int)] (rowV u32c (P++z::R)++junk)=rowV u32c ((P++[d])++R)++junk:=by
 rw [←zfd P R z d hi]
 have hl : i+1≤(rowV u32c (P++z::R)).length:=by rw [zag zau,List.length_append,hi]; simp
 rw [zcz _ _ _ (by rw [List.length_append]; simp; omega),zcz _ _ _ (by simpa using hl)]
 rw [List.take_append_of_le_length (by omega),List.drop_append_of_le_length (by simpa using hl)]
 simp

theorem zer {l : List Nat} {k : Nat} (h : k<l.length) : l[k]?=some (l.getD k 0):=by rw [List.getD_eq_getElem?_getD,List.getElem?_eq_getElem h]; rfl
theorem zoy {l : List Nat} {B : Nat} (hB : 0<B) (h : ∀ x∈l,x<B) (k : Nat) : l.getD k 0<B:=by
 rw [List.getD_eq_getElem?_getD]
 cases hk : l[k]? with
 | none=>exact hB
 | some x=>exact h x (List.mem_of_getElem? hk)
theorem zzz {B : Nat} {l : List Nat} {k : Nat} (hk : 2≤k) (hl : l.length=k) : lv B l=(l.getD (k-1) 0*B+l.getD (k-2) 0)*B ^ (k-2)+lv B (l.take (k-2)):=by
 have h1 : l=l.take (k-2)++[l.getD (k-2) 0,l.getD (k-1) 0]:=by
  conv=>lhs; rw [←List.take_append_drop (k-2) l]
  congr 1
  rw [List.drop_eq_getElem_cons (by omega),List.drop_eq_getElem_cons (by omega),List.drop_of_length_le (by omega)]
  simp only [List.getD_eq_getElem?_getD]
  rw [List.getElem?_eq_getElem (show k-2<l.length by omega),List.getElem?_eq_getElem (show k-1<l.length by omega)]
  simp only [Option.getD_some]
  congr 2
  congr 1
  omega
 conv=>lhs; rw [h1]
 rw [zbE,List.length_take,Nat.min_eq_left (by omega)]
 simp only [lv]
 rw [Nat.mul_zero,Nat.add_zero,Nat.mul_comm B,Nat.mul_comm (B ^ (k-2))]
 rw [Nat.add_comm (l.getD (k-2) 0)]; omega
theorem zyf {B : Nat} {l : List Nat} {k : Nat} (hk : 2≤k) (hl : l.length=k+1) : lv B l=((l.getD k 0*B+l.getD (k-1) 0)*B+l.getD (k-2) 0)*B ^ (k-2)+lv B (l.take (k-2)):=by
 have h1:=zzz (B:=B) (l:=l) (k:=k+1) (by omega) hl
 rw [show k+1-1=k by omega,show k+1-2=k-1 by omega] at h1
 have h2 : l.take (k-1)=l.take (k-2)++[l.getD (k-2) 0]:=by
  have:=List.take_add_one (l:=l) (i:=k-2)
  rw [show k-2+1=k-1 by omega,zer (show k-2<l.length by omega)] at this
  exact this
 rw [h1,h2,zcM,List.length_take,Nat.min_eq_left (by omega)]
 obtain ⟨m,rfl⟩ : ∃ m,k=m+2:=⟨k-2,by omega⟩
 simp only [Nat.add_sub_cancel,show m+2-1=m+1 by omega,Nat.pow_succ]
 generalize l.getD (m+2) 0*B+l.getD (m+1) 0=t
 generalize l.getD m 0=u
 rw [Nat.add_mul,Nat.mul_comm (B ^ m) u,Nat.mul_comm (B ^ m) B,←Nat.mul_assoc]
 omega
end Go.Sx
end
section
set_option maxRecDepth 10000
set_option maxHeartbeats 2000000
namespace Go.Sx
open Go Go.Proofs
theorem zyI {B j c b x s g : Nat} {S V D : List Nat} (hB : 0<B) (hD : D.length=j) (hb : b≤1) (hsB : s<B) (hv : lv B (S.take j)+B ^ j*(c+b)=lv B D+g*lv B (V.take j)) (hs : S[j]?=some s) (hx : V[j]?=some x) :
  lv B (S.take (j+1))+B ^ (j+1)*((c+g*x)/B+(if s<(c+g*x)%B+b then 1 else 0))=lv B (D++[(B+s-(c+g*x)%B-b)%B])+g*lv B (V.take (j+1)):=by
 rw [za0 hs,za0 hx,zcM,hD,Nat.pow_succ,Nat.mul_assoc,Nat.mul_add g,show g*(B ^ j*x)=B ^ j*(g*x) from Nat.mul_left_comm _ _ _]
 generalize g*x=gx
 obtain ⟨lo,hlo⟩ : ∃ lo,lo=(c+gx)%B:=⟨_,rfl⟩
 have hloB : lo<B:=by rw [hlo]; exact Nat.mod_lt _ hB
 have hdm:=Nat.div_add_mod (c+gx) B
 rw [←hlo] at hdm ⊢
 have h3 : s+B*(if s<lo+b then 1 else 0)=(B+s-lo-b)%B+lo+b:=by
  split
  ·by_cases h0 : B+s-lo-b<B
   ·rw [Nat.mul_one,Nat.mod_eq_of_lt h0]; omega
   ·omega
  ·rw [Nat.mul_zero,show B+s-lo-b=(s-lo-b)+B by omega,Nat.add_mod_right,Nat.mod_eq_of_lt (by omega)]; omega
 generalize (if s<lo+b then 1 else 0)=b' at h3 ⊢
 generalize (B+s-lo-b)%B=d at h3 ⊢
 generalize (c+gx)/B=c' at hdm ⊢
 have h5 : B ^ j*(s+B*(c'+b'))=B ^ j*(d+gx+(c+b)):=by congr 1; rw [Nat.mul_add]; omega
 have a1 : B ^ j*(s+B*(c'+b'))=B ^ j*s+B ^ j*(B*(c'+b')):=Nat.mul_add ..
 have a2 : B ^ j*(d+gx+(c+b))=B ^ j*d+B ^ j*gx+B ^ j*(c+b):=by rw [Nat.mul_add,Nat.mul_add]
 omega
theorem zvR {B j t x s : Nat} {D V E : List Nat} (hB : 0<B) (hE : E.length=j) (hv : lv B E+B ^ j*t=lv B (D.take j)+lv B (V.take j)) (hs : D[j]?=some s) (hx : V[j]?=some x) :
  lv B (E++[(s+x+t)%B])+B ^ (j+1)*((s+x+t)/B)=lv B (D.take (j+1))+lv B (V.take (j+1)):=by
 rw [za0 hs,za0 hx,zcM,hE,Nat.pow_succ,Nat.mul_assoc]
 have h3 : B ^ j*((s+x+t)%B)+B ^ j*(B*((s+x+t)/B))=B ^ j*(s+x+t):=by rw [←Nat.mul_add,Nat.mod_add_div]
 rw [Nat.mul_add,Nat.mul_add] at h3
 omega
theorem zwd {B k t d D' W q : Nat} {E D V : List Nat} (hB : 0<B) (hE : E.length=k) (hEB : ∀ x∈E,x<B) (hv : lv B E+B ^ k*t=D'+lv B V) (hd : lv B D=D'+B ^ k*d) (hW : W+B ^ (k+1)=lv B D+(q+1)*lv B V) (hq : q=W/lv B V) (hV : lv B V<B ^ k) (hV0 : 0<lv B V) :
  lv B (E++[(d+t)%B])=W%lv B V:=by
 rw [zcM,hE]
 have h1:=Nat.div_add_mod W (lv B V)
 have h2:=Nat.mod_lt W hV0
 rw [←hq,Nat.mul_comm] at h1
 have hp1 : B ^ (k+1)=B ^ k*B:=Nat.pow_succ ..
 rw [Nat.add_mul,Nat.one_mul,hp1] at hW
 have h3 : lv B E+B ^ k*t+B ^ k*d=W%lv B V+B ^ k*B:=by omega
 have h4 : B ^ k*(t+d)+lv B E=W%lv B V+B ^ k*B:=by rw [Nat.mul_add]; omega
 have hEl:=zkT hB E hEB
 rw [hE] at hEl
 generalize W%lv B V=r at *
 have h5 : t+d=r/B ^ k+B:=by
  have hp : 0<B ^ k:=Nat.pow_pos hB
  have:=congrArg (fun z=>z/B ^ k) h4
  rw [Nat.add_comm,Nat.add_mul_div_left _ _ hp,Nat.div_eq_of_lt hEl,Nat.add_mul_div_left _ _ hp] at this
  omega
 have h6 : r/B ^ k=0:=Nat.div_eq_of_lt (by omega)
 have h7 : t+d=B:=by omega
 rw [Nat.add_comm d t,h7,Nat.mod_self]
 rw [h7] at h4
 omega
theorem zu1 {B k x c b N : Nat} {S D : List Nat} (hD : D.length=k) (hcB : c<B) (hxB : x<B) (hb : b≤1) (hS : S.length=k+1) (hx : S[k]?=some x) (hv : lv B (S.take D.length)+B ^ D.length*(c+b)=lv B D+N) :
  lv B S+B ^ (k+1)*(if x<c+b then 1 else 0)=lv B (D++[(B+x-c-b)%B])+N:=by
 have h0 : lv B S=lv B (S.take k)+B ^ k*x:=by
  have:=za0 (B:=B) hx
  rwa [List.take_of_length_le (by omega)] at this
 have h3 : x+B*(if x<c+b then 1 else 0)=(B+x-c-b)%B+c+b:=by
  split
  ·by_cases h0 : B+x-c-b<B
   ·rw [Nat.mul_one,Nat.mod_eq_of_lt h0]; omega
   ·omega
  ·rw [Nat.mul_zero,show B+x-c-b=(x-c-b)+B by omega,Nat.add_mod_right,Nat.mod_eq_of_lt (by omega)]; omega
 rw [hD] at hv
 rw [h0,zcM,hD,Nat.pow_succ,Nat.mul_assoc]
 generalize (if x<c+b then 1 else 0)=b' at h3 ⊢
 generalize (B+x-c-b)%B=d at h3 ⊢
 have h5 : B ^ k*(x+B*b')=B ^ k*(d+c+b):=by rw [h3]
 have a1 : B ^ k*(x+B*b')=B ^ k*x+B ^ k*(B*b'):=Nat.mul_add ..
 have a2 : B ^ k*(d+c+b)=B ^ k*d+B ^ k*(c+b):=by rw [Nat.add_assoc,Nat.mul_add]
 omega
theorem zAS (A : Option Addr) (c : Nat) (V P0 S R : List Nat) (hk : 2≤V.length) (hS : S.length=V.length+1) (hV : ∀ x∈V,x<2 ^ 32) (hP0 : ∀ x∈P0,x<2 ^ 32) (hSb : ∀ x∈S,x<2 ^ 32)
   (hVt : 0<V.getD (V.length-1) 0) (hfit : lv (2 ^ 32) S<2 ^ 32*lv (2 ^ 32) V) (hlen : (P0++(S++R)).length≤1000000000000) :
   FnW PP zcx [.slice A V.length c,.int .i64 P0.length] [zaf A (u32V V)] zat (P0++(S++R)).length (u32V (P0++(S++R)))
     (u32V (P0++(pad (2 ^ 32) (V.length+1) (lv (2 ^ 32) S%lv (2 ^ 32) V)++R))) (u32 (lv (2 ^ 32) S/lv (2 ^ 32) V)):=by
 refine FnW.ofS zab mixed ziL rfl rfl (Nat.le_of_ble_eq_true rfl) (by simp [zaf.ok]) ?_
 intro w b cap junk hcap hw
 obtain ⟨U,hU⟩ : ∃ U,U=P0++(S++R):=⟨_,rfl⟩
 rw [←hU] at hlen hcap ⊢
 obtain ⟨k,hkk⟩ : ∃ k,k=V.length:=⟨_,rfl⟩
 have hUl : U.length=P0.length+(k+1)+R.length:=by rw [hU]; simp [hS]; omega
 have hUS : ∀ j,j<k+1→U[P0.length+j]?=some (S.getD j 0):=by
   intro j hj
   rw [hU,List.getElem?_append_right (by omega),List.getElem?_append_left (by omega),Nat.add_sub_cancel_left]
   exact zer (by omega)
 have hA : A.isSome=true:=zap (zaK hw) (by rw [zar]; omega)
 rw [←hkk] at hk hS hVt ⊢
 have hik : IntKind.i64.wrap ((P0.length : Int)+(k : Int))=((P0.length+k : Nat) : Int):=by rw [wrap_i64 (by omega) (by omega)]; omega
 have hik1 : IntKind.i64.wrap (IntKind.i64.wrap ((P0.length : Int)+(k : Int))-1)=((P0.length+(k-1) : Nat) : Int):=by rw [hik,wrap_i64 (by omega) (by omega)]; omega
 have hk1 : IntKind.i64.wrap ((k : Int)-1)=((k-1 : Nat) : Int):=by rw [wrap_i64 (by omega) (by omega)]; omega
 obtain ⟨u0,hu0⟩ : ∃ u0,u0=S.getD k 0:=⟨_,rfl⟩
 obtain ⟨u1,hu1⟩ : ∃ u1,u1=S.getD (k-1) 0:=⟨_,rfl⟩
 obtain ⟨v1,hv1⟩ : ∃ v1,v1=V.getD (k-1) 0:=⟨_,rfl⟩
 have hu0b : u0<2 ^ 32:=by rw [hu0]; exact zoy (by decide) hSb _
 have hu1b : u1<2 ^ 32:=by rw [hu1]; exact zoy (by decide) hSb _
 have hv1b : v1<2 ^ 32:=by rw [hv1]; exact zoy (by decide) hV _
 have hUlen : (u32V U++junk).length=U.length+junk.length:=by rw [List.length_append,zar]
 refine WPS.peel zab mixed ?_
 conv=>whnf
 refine WPS.peel zab mixed ?_
 conv=>whnf
 refine WPS.peel zab mixed ?_
 conv=>whnf
 refine zaj.quiet (by kernel_rfl) ?_
 conv=>whnf
 refine ⟨by rw [hik]; omega,?_⟩
 conv=>whnf
 refine zbU.elemJ u32c zau (k:=P0.length+k) (by rw [hik]; show 0+(P0.length+k)*1=_; omega) (by omega) (by decide) (fun _=>rfl) ?_
 intro x hx
 obtain rfl : x=u0:=by rw [hUS k (by omega)] at hx; rw [hu0]; exact (Option.some.inj hx).symm
 conv=>whnf
 refine ⟨by decide,?_⟩
 conv=>whnf
 refine ⟨by rw [hik1]; omega,?_⟩
 conv=>whnf
 refine zbU.elemJ u32c zau (k:=P0.length+(k-1)) (by rw [hik1]; show 0+(P0.length+(k-1))*1=_; omega) (by omega) (by decide) (fun _=>rfl) ?_
 intro y hy
 obtain rfl : y=u1:=by rw [hUS (k-1) (by omega)] at hy; rw [hu1]; exact (Option.some.inj hy).symm
 conv=>whnf
 obtain ⟨top,htop⟩ : ∃ top,top=x*2 ^ 32+y:=⟨_,rfl⟩
 have htb : top<2 ^ 64:=by omega
 have hor : IntKind.u64.wrap (BitVec.toNat (w:=64) (BitVec.ofInt 64 (IntKind.u64.wrap (IntKind.u64.wrap (x : Int)*2 ^ min (32 : Int).toNat IntKind.u64.bits)) ||| BitVec.ofInt 64 (IntKind.u64.wrap (y : Int))) : Int)=(top : Int):=by
   have e1 : IntKind.u64.wrap (IntKind.u64.wrap (x : Int)*2 ^ min (32 : Int).toNat IntKind.u64.bits)=((x*2 ^ 32 : Nat) : Int):=by
     rw [show min (32 : Int).toNat IntKind.u64.bits=32 from rfl,IntKind.wrap_u64,IntKind.wrap_u64]; omega
   have e2 : IntKind.u64.wrap (y : Int)=(y : Int):=by rw [IntKind.wrap_u64]; omega
   rw [e1,e2,ztY,BitVec.toNat_or,zaM (by omega),zaM (by omega),Nat.mul_comm,←Nat.two_pow_add_eq_or_of_lt hu1b,htop]
   omega
 refine WPS.peel zab mixed ?_
 conv=>whnf
 refine zaj.quiet (by kernel_rfl) ?_
 conv=>whnf
 have hz1 : V[k-1]?=some v1:=by rw [hv1]; exact zer (by omega)
 refine ⟨⟨by rw [hk1]; omega,by rw [hk1]; omega,hA⟩,?_⟩
 conv=>whnf
 refine zao.elem u32c zau (List.mem_singleton.2 rfl) rfl (by rw [hk1]; omega) (by decide) (fun _=>rfl) ?_
 rw [hk1,Int.toNat_natCast]
 intro z hz
 obtain rfl : z=v1:=by rw [hz1] at hz; exact (Option.some.inj hz).symm
 have hv1p : 0<z:=by rw [hv1]; exact hVt
 have hz64 : IntKind.u64.wrap (z : Int)=(z : Int):=by rw [IntKind.wrap_u64]; omega
 conv=>whnf
 refine ⟨by rw [hz64]; omega,?_⟩
 conv=>whnf
 refine ⟨⟨by rw [hk1]; omega,by rw [hk1]; omega,hA⟩,?_⟩
 conv=>whnf
 refine zao.elem u32c zau (List.mem_singleton.2 rfl) rfl (by rw [hk1]; omega) (by decide) (fun _=>rfl) ?_
 rw [hk1,Int.toNat_natCast]
 intro z' hz'
 obtain rfl : z'=z:=by rw [hz1] at hz'; exact (Option.some.inj hz').symm
 conv=>whnf
 refine ⟨by rw [hz64]; omega,?_⟩
 conv=>whnf
 obtain ⟨Q,hQ⟩ : ∃ Q,Q=lv (2 ^ 32) S/lv (2 ^ 32) V:=⟨_,rfl⟩
 obtain ⟨v2,hv2⟩ : ∃ v2,v2=V.getD (k-2) 0:=⟨_,rfl⟩
 obtain ⟨u2,hu2⟩ : ∃ u2,u2=S.getD (k-2) 0:=⟨_,rfl⟩
 have hv2b : v2<2 ^ 32:=by rw [hv2]; exact zoy (by decide) hV _
 have hu2b : u2<2 ^ 32:=by rw [hu2]; exact zoy (by decide) hSb _
 have hVd : lv (2 ^ 32) V=(z'*2 ^ 32+v2)*(2 ^ 32) ^ (k-2)+lv (2 ^ 32) (V.take (k-2)):=by rw [hv1,hv2]; exact zzz hk hkk.symm
 have hVl : lv (2 ^ 32) (V.take (k-2))<(2 ^ 32) ^ (k-2):=by
   have:=zkT (B:=2 ^ 32) (by decide) (V.take (k-2)) (fun x hx=>hV x (List.mem_of_mem_take hx))
   rwa [List.length_take,Nat.min_eq_left (by omega)] at this
 have hVpos : 0<lv (2 ^ 32) V:=by
   have h1 : 0<z'*2 ^ 32+v2:=by omega
   rw [hVd]
   exact Nat.lt_of_lt_of_le (Nat.mul_pos h1 (Nat.pow_pos (by decide))) (Nat.le_add_right _ _)
 have hSd : ∃ wl,lv (2 ^ 32) S=(top*2 ^ 32+u2)*(2 ^ 32) ^ (k-2)+wl∧wl<(2 ^ 32) ^ (k-2):=by
   refine ⟨lv (2 ^ 32) (S.take (k-2)),?_,?_⟩
   · have h1:=zyf (B:=2 ^ 32) hk hS
     rw [←hu0,←hu1,←htop,←hu2] at h1
     exact h1
   · have:=zkT (B:=2 ^ 32) (by decide) (S.take (k-2)) (fun x hx=>hSb x (List.mem_of_mem_take hx))
     rwa [List.length_take,Nat.min_eq_left (by omega)] at this
 obtain ⟨wl,hSd,hwl⟩:=hSd
 have hinit : Q≤top/z':=by rw [hQ]; exact zvt hv1p hVd hSd hu2b hwl hVpos
 refine WPS.cutW (ι:=Nat×Nat) (fun ⟨g,r⟩=>⟨[(0,.o (.s 194 0 U.length cap)),(1,.o (.v (.slice A k c))),(2,.o (.v (.int .i64 P0.length))),(7,.o (.v (.int .i64 k))),(9,.o (.v (.int .u64 g)))],[(194,.sym (u32V U++junk) zat)],[zaf A (u32V V)]⟩)
   (fun ⟨g,r⟩=>g<2 ^ 32∧Q≤g∧g≤Q+1) ?_ ?_
 · have hsh : ∀ m : Nat,(m : Int).fdiv (2 ^ min (32 : Int).toNat IntKind.u64.bits)=((m/2 ^ 32 : Nat) : Int):=fun m=>by
     rw [show min (32 : Int).toNat IntKind.u64.bits=32 from rfl,Int.fdiv_eq_ediv_of_nonneg _ (by decide)]; rfl
   have hk2 : IntKind.i64.wrap ((k : Int)-2)=((k-2 : Nat) : Int):=by rw [wrap_i64 (by omega) (by omega)]; omega
   have hik2 : IntKind.i64.wrap (IntKind.i64.wrap ((P0.length : Int)+(k : Int))-2)=((P0.length+(k-2) : Nat) : Int):=by rw [hik,wrap_i64 (by omega) (by omega)]; omega
   refine WPS.block ?_
   refine WPS.loop (ι:=Nat×Nat) (fun ⟨g,r⟩=>⟨[(0,.o (.s 194 0 U.length cap)),(1,.o (.v (.slice A k c))),(2,.o (.v (.int .i64 P0.length))),(7,.o (.v (.int .i64 k))),(9,.o (.v (.int .u64 g))),(10,.o (.v (.int .u64 r)))],[(194,.sym (u32V U++junk) zat)],[zaf A (u32V V)]⟩)
     (fun ⟨g,r⟩=>g*z'+r=top∧Q≤g) (fun ⟨g,r⟩=>g) (top/z',top%z') ⟨by rw [Nat.mul_comm]; exact Nat.div_add_mod top z',hinit⟩ (SLe.id ⟨rfl,rfl,rfl,rfl,?_,?_,trivial⟩ ⟨⟨_,rfl,.refl _⟩,trivial⟩ (fun R hR=>hR)) ?_
   · show some (SV.o (.v (.int .u64 (IntKind.u64.wrap (Int.tdiv (IntKind.u64.wrap (BitVec.toNat (w:=64) (BitVec.ofInt 64 _ ||| BitVec.ofInt 64 _) : Int)) (IntKind.u64.wrap (z' : Int)))))))=some (SV.o (.v (.int .u64 ((top/z' : Nat) : Int))))
     rw [hor,hz64,Int.tdiv_eq_ediv_of_nonneg (by omega)]
     have e3 : (top : Int)/(z' : Int)=((top/z' : Nat) : Int):=rfl
     have e4 : top/z'≤top:=Nat.div_le_self _ _
     rw [e3]
     generalize top/z'=q at e4 ⊢
     rw [IntKind.wrap_u64]; congr 4; omega
   · show some (SV.o (.v (.int .u64 (Int.tmod (IntKind.u64.wrap (BitVec.toNat (w:=64) (BitVec.ofInt 64 _ ||| BitVec.ofInt 64 _) : Int)) (IntKind.u64.wrap (z' : Int))))))=some (SV.o (.v (.int .u64 ((top%z' : Nat) : Int))))
     rw [hor,hz64,Int.tmod_eq_emod_of_nonneg (by omega)]; rfl
   rintro ⟨g,r⟩ ⟨hgr,hQg⟩
   have hgb : g≤top:=by have : g*1≤g*z':=Nat.mul_le_mul_left _ hv1p; omega
   have hrb : r≤top:=by omega
   have hdec : Q<g→(g-1)*z'+(r+z')=top∧Q≤g-1∧g-1<g∧IntKind.u64.wrap ((g : Int)-1)=((g-1 : Nat) : Int)∧IntKind.u64.wrap ((r : Int)+IntKind.u64.wrap (z' : Int))=((r+z' : Nat) : Int):=by
     intro h
     obtain ⟨m,rfl⟩ : ∃ m,g=m+1:=⟨g-1,by omega⟩
     rw [Nat.add_mul,Nat.one_mul] at hgr
     refine ⟨by rw [Nat.add_sub_cancel]; omega,by omega,by omega,by rw [IntKind.wrap_u64]; omega,by rw [hz64,IntKind.wrap_u64]; omega⟩
   have hfin : g<2 ^ 32→g*v2≤r*2 ^ 32+u2→g<2 ^ 32∧Q≤g∧g≤Q+1:=fun h1 h2=>⟨h1,hQg,by rw [hQ]; exact zsA (by decide) hv1p hVd hVl hSd hgr h2 h1 hVpos⟩
   have hQb : Q<2 ^ 32:=by rw [hQ]; exact Nat.div_lt_of_lt_mul (by rw [Nat.mul_comm]; exact hfit)
   refine WPS.seq ?_
   refine WPS.cut zab mixed (ι:=Bool) (fun bb=>⟨[(0,.o (.s 194 0 U.length cap)),(1,.o (.v (.slice A k c))),(2,.o (.v (.int .i64 P0.length))),(7,.o (.v (.int .i64 k))),(9,.o (.v (.int .u64 g))),(10,.o (.v (.int .u64 r))),(82,.o (.v (.bool bb)))],[(194,.sym (u32V U++junk) zat)],[zaf A (u32V V)]⟩)
     (fun bb=>(bb=true→Q<g)∧(bb=false→g<2 ^ 32∧g≤Q+1)) ?_ ?_
   · conv=>whnf
     refine zaj.quiet (by kernel_rfl) ?_
     conv=>whnf
     refine ⟨by decide,?_⟩
     conv=>whnf
     refine zah ?_ ?_
     · intro hg1
       have hg2 : 2 ^ 32≤g:=by
         have : (g : Int).fdiv (2 ^ min (32 : Int).toNat IntKind.u64.bits)>0:=of_decide_eq_true hg1
         rw [hsh] at this; omega
       conv=>whnf
       exact ⟨true,⟨fun _=>by omega,fun h=>by cases h⟩,SLe.id ⟨rfl,rfl,rfl,rfl,rfl,rfl,rfl,trivial⟩ ⟨⟨_,rfl,.refl _⟩,trivial⟩ (fun R hR=>hR)⟩
     · intro hg1
       have hg2 : g<2 ^ 32:=by
         have : ¬(g : Int).fdiv (2 ^ min (32 : Int).toNat IntKind.u64.bits)>0:=of_decide_eq_false hg1
         rw [hsh] at this; omega
       conv=>whnf
       refine ⟨by decide,?_⟩
       conv=>whnf
       refine zah ?_ ?_
       · intro hr1
         have hr2 : r<2 ^ 32:=by
           have : (r : Int).fdiv (2 ^ min (32 : Int).toNat IntKind.u64.bits)=0:=eq_of_beq hr1
           rw [hsh] at this; omega
         conv=>whnf
         refine ⟨⟨by rw [hk2]; omega,by rw [hk2]; omega,hA⟩,?_⟩
         conv=>whnf
         refine zao.elem u32c zau (List.mem_singleton.2 rfl) rfl (by rw [hk2]; omega) (by decide) (fun _=>rfl) ?_
         rw [hk2,Int.toNat_natCast]
         intro a ha
         obtain rfl : a=v2:=by rw [zer (show k-2<V.length by omega),←hv2] at ha; exact (Option.some.inj ha).symm
         conv=>whnf
         refine ⟨by decide,?_⟩
         conv=>whnf
         refine ⟨by rw [hik2]; omega,?_⟩
         conv=>whnf
         refine zbU.elemJ u32c zau (k:=P0.length+(k-2)) (by rw [hik2]; show 0+(P0.length+(k-2))*1=_; omega) (by omega) (by decide) (fun _=>rfl) ?_
         intro e he
         obtain rfl : e=u2:=by rw [hUS (k-2) (by omega)] at he; rw [hu2]; exact (Option.some.inj he).symm
         have hmul : IntKind.u64.wrap ((g : Int)*IntKind.u64.wrap (a : Int))=((g*a : Nat) : Int):=by
           have h1 : g*a≤(2 ^ 32-1)*(2 ^ 32-1):=Nat.mul_le_mul (by omega) (by omega)
           have e1 : IntKind.u64.wrap (a : Int)=(a : Int):=by rw [IntKind.wrap_u64]; omega
           rw [e1,←Int.natCast_mul]
           generalize g*a=m at h1 ⊢
           rw [IntKind.wrap_u64]; omega
         have hor2' : IntKind.u64.wrap (BitVec.toNat (w:=64) (BitVec.ofInt 64 (IntKind.u64.wrap ((r : Int)*2 ^ min (32 : Int).toNat IntKind.u64.bits)) ||| BitVec.ofInt 64 (IntKind.u64.wrap (e : Int))) : Int)=((r*2 ^ 32+e : Nat) : Int):=by
           have e1 : IntKind.u64.wrap ((r : Int)*2 ^ min (32 : Int).toNat IntKind.u64.bits)=((r*2 ^ 32 : Nat) : Int):=by
             rw [show min (32 : Int).toNat IntKind.u64.bits=32 from rfl,IntKind.wrap_u64]; omega
           have e2 : IntKind.u64.wrap (e : Int)=(e : Int):=by rw [IntKind.wrap_u64]; omega
           rw [e1,e2,ztY,BitVec.toNat_or,zaM (by omega),zaM (by omega),Nat.mul_comm,←Nat.two_pow_add_eq_or_of_lt hu2b]
         have hor2 : IntKind.u64.wrap (((BitVec.ofInt IntKind.u64.bits (IntKind.u64.wrap ((r : Int)*2 ^ min (32 : Int).toNat IntKind.u64.bits)) ||| BitVec.ofInt IntKind.u64.bits (IntKind.u64.wrap (e : Int))).toNat : Nat) : Int)=((r*2 ^ 32+e : Nat) : Int):=hor2'
         conv=>whnf
         refine ⟨_,⟨fun hc=>?_,fun hc=>?_⟩,SLe.id ⟨rfl,rfl,rfl,rfl,rfl,rfl,rfl,trivial⟩ ⟨⟨_,rfl,.refl _⟩,trivial⟩ (fun R hR=>hR)⟩
         · have hc2 : r*2 ^ 32+e<g*a:=by
             have:=of_decide_eq_true hc
             rw [hmul,hor2] at this; exact Int.ofNat_lt.1 this
           rw [hQ]; exact zvS hVd hSd hwl hgr hc2 hVpos
         · have hc2 : g*a≤r*2 ^ 32+e:=by
             have:=of_decide_eq_false hc
             rw [hmul,hor2] at this; exact Int.ofNat_le.1 (Int.not_lt.1 this)
           exact ⟨hg2,(hfin hg2 hc2).2.2⟩
       · intro hr1
         have hr2 : ¬r<2 ^ 32:=by
           have : ¬(r : Int).fdiv (2 ^ min (32 : Int).toNat IntKind.u64.bits)=0:=ne_of_beq_false hr1
           rw [hsh] at this; omega
         conv=>whnf
         refine ⟨false,⟨fun h=>(by cases h),fun _=>⟨hg2,(hfin hg2 ?_).2.2⟩⟩,SLe.id ⟨rfl,rfl,rfl,rfl,rfl,rfl,rfl,trivial⟩ ⟨⟨_,rfl,.refl _⟩,trivial⟩ (fun R hR=>hR)⟩
         have h1 : g*v2≤(2 ^ 32-1)*(2 ^ 32-1):=Nat.mul_le_mul (by omega) (by omega)
         omega
   · rintro bb ⟨hT,hF⟩
     refine WPS.of zab mixed ?_
     conv=>whnf
     cases bb with
     | false =>
       obtain ⟨h1,h2⟩:=hF rfl
       conv=>whnf
       exact ⟨(g,r),⟨h1,hQg,h2⟩,SLe.id ⟨rfl,rfl,rfl,rfl,rfl,trivial⟩ ⟨⟨_,rfl,.refl _⟩,trivial⟩ (fun R hR=>hR)⟩
     | true =>
       obtain ⟨d1,d2,d3,d4,d5⟩:=hdec (hT rfl)
       conv=>whnf
       refine WPS.of zab mixed ?_
       conv=>whnf
       refine ⟨⟨by rw [hk1]; omega,by rw [hk1]; omega,hA⟩,?_⟩
       conv=>whnf
       refine zao.elem u32c zau (List.mem_singleton.2 rfl) rfl (by rw [hk1]; omega) (by decide) (fun _=>rfl) ?_
       rw [hk1,Int.toNat_natCast]
       intro zz hzz
       obtain rfl : zz=z':=by rw [hz1] at hzz; exact (Option.some.inj hzz).symm
       conv=>whnf
       refine ⟨by decide,?_⟩
       conv=>whnf
       have hgb2 : IntKind.u64.wrap ((g : Int)-1)=((g-1 : Nat) : Int):=d4
       have hrr : IntKind.u64.wrap ((r : Int)+IntKind.u64.wrap (zz : Int))=((r+zz : Nat) : Int):=d5
       have hnext : ∀ s : SS,lk 0 s.tm=some (.o (.s 194 0 U.length cap))→lk 1 s.tm=some (.o (.v (.slice A k c)))→lk 2 s.tm=some (.o (.v (.int .i64 P0.length)))→lk 7 s.tm=some (.o (.v (.int .i64 k)))→lk 9 s.tm=some (.o (.v (.int .u64 (IntKind.u64.wrap ((g : Int)-1)))))→lk 10 s.tm=some (.o (.v (.int .u64 (IntKind.u64.wrap ((r : Int)+IntKind.u64.wrap (zz : Int))))))→lk 194 s.me=some (.sym (u32V U++junk) zat)→s.re=[zaf A (u32V V)] →
           SLe (⟨w,[b],zd3.ntmps⟩ : Cx) s ⟨[(0,.o (.s 194 0 U.length cap)),(1,.o (.v (.slice A k c))),(2,.o (.v (.int .i64 P0.length))),(7,.o (.v (.int .i64 k))),(9,.o (.v (.int .u64 ((g-1 : Nat) : Int)))),(10,.o (.v (.int .u64 ((r+zz : Nat) : Int))))],[(194,.sym (u32V U++junk) zat)],[zaf A (u32V V)]⟩:=by
         intro s h0 h1 h2 h7 h9 h10 hm hr
         rw [hgb2] at h9
         rw [hrr] at h10
         exact SLe.id ⟨h0,h1,h2,h7,h9,h10,trivial⟩ ⟨⟨_,hm,.refl _⟩,trivial⟩ (fun R hR=>by rw [hr]; exact hR)
       refine zah ?_ ?_
       · intro hr1
         have hr2 : 2 ^ 32≤r+zz:=by
           have : (IntKind.u64.wrap ((r : Int)+IntKind.u64.wrap (zz : Int))).fdiv (2 ^ min (32 : Int).toNat IntKind.u64.bits)>0:=of_decide_eq_true hr1
           rw [hrr,hsh] at this; omega
         conv=>whnf
         refine ⟨by decide,?_⟩
         conv=>whnf
         refine zah ?_ ?_
         · intro hg3
           have hg4 : g-1<2 ^ 32:=by
             have : (IntKind.u64.wrap ((g : Int)-1)).fdiv (2 ^ min (32 : Int).toNat IntKind.u64.bits)=0:=eq_of_beq hg3
             rw [hgb2,hsh] at this; omega
           conv=>whnf
           refine ⟨(g-1,r+zz),⟨hg4,d2,?_⟩,?_⟩
           · rw [hQ]
             refine zsA (by decide) hv1p hVd hVl hSd d1 ?_ hg4 hVpos
             have h1 : (g-1)*v2≤(2 ^ 32-1)*(2 ^ 32-1):=Nat.mul_le_mul (by omega) (by omega)
             have h2 : 2 ^ 32*2 ^ 32≤(r+zz)*2 ^ 32:=Nat.mul_le_mul_right _ hr2
             omega
           · refine SLe.trans (hnext _ rfl rfl rfl rfl rfl rfl rfl rfl) (SLe.id ⟨rfl,rfl,rfl,rfl,rfl,trivial⟩ ⟨⟨_,rfl,.refl _⟩,trivial⟩ (fun R hR=>hR))
         · intro hg3
           conv=>whnf
           exact ⟨(g-1,r+zz),⟨d1,d2⟩,d3,hnext _ rfl rfl rfl rfl rfl rfl rfl rfl⟩
       · intro hr1
         conv=>whnf
         exact ⟨(g-1,r+zz),⟨d1,d2⟩,d3,hnext _ rfl rfl rfl rfl rfl rfl rfl rfl⟩
 · rintro ⟨g,r0⟩ ⟨hgB,hQg,hgQ⟩
   clear hor
   have hgb64 : IntKind.u64.wrap (g : Int)=(g : Int):=by rw [IntKind.wrap_u64]; omega
   refine WPS.peel zab mixed ?_
   conv=>whnf
   refine WPS.seq ?_
   refine WPS.peel zab mixed ?_
   conv=>whnf
   refine WPS.block ?_
   refine WPS.loop (ι:=List Nat×Nat×Nat) (fun ⟨D,cy,bo⟩=>⟨[(0,.o (.s 194 0 U.length cap)),(1,.o (.v (.slice A k c))),(2,.o (.v (.int .i64 P0.length))),(7,.o (.v (.int .i64 k))),(9,.o (.v (.int .u64 g))),(11,.o (.v (.int .u64 cy))),(12,.o (.v (u32 bo))),(101,.o (.v (.slice A k c))),(102,.o (.v (.int .i64 k))),(103,.o (.v (.int .i64 D.length)))],[(194,.sym (u32V (P0++(D++(S.drop D.length++R)))++junk) zat)],[zaf A (u32V V)]⟩)
     (fun ⟨D,cy,bo⟩=>D.length≤k∧cy<2 ^ 32∧bo≤1∧(∀ x∈D,x<2 ^ 32)∧lv (2 ^ 32) (S.take D.length)+(2 ^ 32) ^ D.length*(cy+bo)=lv (2 ^ 32) D+g*lv (2 ^ 32) (V.take D.length)) (fun ⟨D,cy,bo⟩=>k-D.length) ([],0,0)
     ⟨Nat.zero_le _,by decide,by decide,(fun x h=>by cases h),by simp [lv]⟩ (SLe.id ⟨rfl,rfl,rfl,rfl,rfl,rfl,rfl,rfl,rfl,rfl,trivial⟩ ⟨⟨_,rfl,by rw [hU]; exact .refl _⟩,trivial⟩ (fun R hR=>hR)) ?_
   rintro ⟨D,cy,bo⟩ ⟨hD,hcy,hbo,hDb,hinv⟩
   refine WPS.of zab mixed ?_
   conv=>whnf
   refine zah ?_ ?_
   · intro h
     have hi : D.length<k:=by have : (D.length : Int)<k:=by simpa using h
                              omega
     conv=>whnf
     refine ⟨⟨by omega,by omega,hA⟩,?_⟩
     conv=>whnf
     refine zao.elem u32c zau (List.mem_singleton.2 rfl) rfl (by rw [Int.toNat_natCast]; omega) (by decide) (fun _=>rfl) ?_
     rw [Int.toNat_natCast]
     intro v hv
     have hvb : v<2 ^ 32:=hV v (List.mem_of_getElem? hv)
     conv=>whnf
     have hij : IntKind.i64.wrap ((P0.length : Int)+(D.length : Int))=((P0.length+D.length : Nat) : Int):=by rw [wrap_i64 (by omega) (by omega)]; omega
     obtain ⟨sj,hsj⟩ : ∃ sj,sj=S.getD D.length 0:=⟨_,rfl⟩
     have hsg : S[D.length]?=some sj:=by rw [hsj]; exact zer (by omega)
     have hsb : sj<2 ^ 32:=hSb sj (List.mem_of_getElem? hsg)
     have hdrop : S.drop D.length=sj::S.drop (D.length+1):=by
       rw [List.drop_eq_getElem_cons (show D.length<S.length by omega)]
       congr 1
       rw [List.getElem?_eq_getElem (show D.length<S.length by omega)] at hsg
       exact Option.some.inj hsg
     refine ⟨⟨by rw [hij]; omega,by rw [hij]; omega⟩,?_⟩
     conv=>whnf
     refine zbU.elemJ u32c zau (k:=P0.length+D.length) (by rw [hij]; show 0+(P0.length+D.length)*1=_; omega) (by rw [hdrop]; simp) (by decide) (fun _=>rfl) ?_
     intro s' hs'
     obtain rfl : s'=sj:=by
       rw [List.getElem?_append_right (by omega),Nat.add_sub_cancel_left,List.getElem?_append_right (by omega),Nat.sub_self,hdrop] at hs'
       exact (Option.some.inj hs').symm
     conv=>whnf
     have hgv : g*v≤(2 ^ 32-1)*(2 ^ 32-1):=Nat.mul_le_mul (by omega) (by omega)
     have hmul : IntKind.u64.wrap ((g : Int)*IntKind.u64.wrap (v : Int))=((g*v : Nat) : Int):=by
       have e1 : IntKind.u64.wrap (v : Int)=(v : Int):=by rw [IntKind.wrap_u64]; omega
       rw [e1,←Int.natCast_mul]
       generalize g*v=m at hgv ⊢
       rw [IntKind.wrap_u64]; omega
     obtain ⟨t,ht⟩ : ∃ t,t=cy+g*v:=⟨_,rfl⟩
     have htb : t<2 ^ 64:=by rw [ht]; generalize g*v=m at hgv ⊢; omega
     have hsum : IntKind.u64.wrap ((cy : Int)+IntKind.u64.wrap ((g : Int)*IntKind.u64.wrap (v : Int)))=(t : Int):=by
       rw [hmul,ht]; generalize g*v=m at hgv ⊢; rw [IntKind.wrap_u64]; omega
     have hlo : IntKind.u32.wrap (IntKind.u64.wrap ((cy : Int)+IntKind.u64.wrap ((g : Int)*IntKind.u64.wrap (v : Int))))=((t%2 ^ 32 : Nat) : Int):=by
       rw [hsum,IntKind.wrap_u32]; omega
     have hlob : t%2 ^ 32<2 ^ 32:=Nat.mod_lt _ (by decide)
     refine zac.fn (zqt s' (t%2 ^ 32) bo hsb hlob hbo) (congrArg (fun z=>[SV.o (.v (u32 s')),.o (.v (.int .u32 z)),.o (.v (u32 bo))]) hlo) ?_
     conv=>whnf
     refine ⟨⟨by rw [hij]; omega,by rw [hij]; omega⟩,?_⟩
     conv=>whnf
     refine ⟨by rw [hij,List.length_append,zar,hdrop]; show 0+(P0.length+D.length)*1+1≤_; simp; omega,?_⟩
     conv=>whnf
     refine ⟨by decide,?_⟩
     conv=>whnf
     refine ⟨(D++[(2 ^ 32+s' - t%2 ^ 32-bo)%2 ^ 32],t/2 ^ 32,if s' < t%2 ^ 32+bo then 1 else 0),⟨by simp; omega,by show t/2 ^ 32<2 ^ 32; omega,?_,?_,?_⟩,by simp; omega,?_⟩
     · show (if s' < t%2 ^ 32+bo then 1 else 0)≤1
       split <;> omega
     · intro z hz
       rcases List.mem_append.1 hz with hz | hz
       · exact hDb z hz
       · rw [List.mem_singleton.1 hz]; exact Nat.mod_lt _ (by decide)
     · rw [List.length_append,ht]
       exact zyI (by decide) rfl hbo hsb hinv hsg hv
     · refine SLe.id ⟨rfl,rfl,rfl,rfl,rfl,?_,rfl,rfl,rfl,?_,trivial⟩ ⟨⟨_,rfl,?_⟩,trivial⟩ (fun R hR=>hR)
       · show some (SV.o (.v (.int _ (Int.fdiv (IntKind.u64.wrap ((cy : Int)+IntKind.u64.wrap ((g : Int)*IntKind.u64.wrap (v : Int)))) (2 ^ min (32 : Int).toNat IntKind.u64.bits)))))=some (SV.o (.v (.int _ ((t/2 ^ 32 : Nat) : Int))))
         rw [hsum,show min (32 : Int).toNat IntKind.u64.bits=32 from rfl,Int.fdiv_eq_ediv_of_nonneg _ (by decide)]; rfl
       · show some (SV.o (.v (.int _ (IntKind.i64.wrap ((D.length : Int)+1)))))=some (SV.o (.v (.int _ (((D++[_]).length : Nat) : Int))))
         rw [wrap_i64 (by omega) (by omega),List.length_append]; rfl
       · show MEle (ME.sym (putN (0+(IntKind.i64.wrap ((P0.length : Int)+(D.length : Int))).toNat*1) [Value.int .u32 _] (rowV u32c (P0++(D++(S.drop D.length++R)))++junk)) _)
           (ME.sym (rowV u32c (P0++((D++[(2 ^ 32+s' - t%2 ^ 32-bo)%2 ^ 32])++(S.drop (D++[_]).length++R)))++junk) _)
         rw [hij,hdrop,List.length_append,←List.append_assoc P0 D,List.cons_append,zll (P0++D) _ _ _ _ (by simp; omega)]
         simp only [List.append_assoc]
         exact .refl _
   · intro h
     have hi : D.length=k:=by have : ¬(D.length : Int)<k:=by simpa using h
                              omega
     have hvt : lv (2 ^ 32) (V.take D.length)=lv (2 ^ 32) V:=by rw [List.take_of_length_le (by omega)]
     rw [hvt] at hinv
     conv=>whnf
     refine WPS.cut zab mixed (ι:=Nat×Nat) (fun ⟨d,b'⟩=>⟨[(0,.o (.s 194 0 U.length cap)),(1,.o (.v (.slice A k c))),(2,.o (.v (.int .i64 P0.length))),(7,.o (.v (.int .i64 k))),(9,.o (.v (.int .u64 g))),(12,.o (.v (u32 b')))],[(194,.sym (u32V (P0++((D++[d])++R))++junk) zat)],[zaf A (u32V V)]⟩)
       (fun ⟨d,b'⟩=>d<2 ^ 32∧b'≤1∧lv (2 ^ 32) S+(2 ^ 32) ^ (k+1)*b'=lv (2 ^ 32) (D++[d])+g*lv (2 ^ 32) V) ?_ ?_
     · have hsk : S[k]?=some x:=by rw [hu0]; exact zer (by omega)
       have hdrop : S.drop D.length=[x]:=by
         rw [hi,List.drop_eq_getElem_cons (show k<S.length by omega),List.drop_of_length_le (by omega)]
         congr 1
         rw [List.getElem?_eq_getElem (show k<S.length by omega)] at hsk
         exact Option.some.inj hsk
       conv=>whnf
       refine ⟨by rw [hik]; omega,?_⟩
       conv=>whnf
       refine zbU.elemJ u32c zau (k:=P0.length+k) (by rw [hik]; show 0+(P0.length+k)*1=_; omega) (by rw [hdrop]; simp; omega) (by decide) (fun _=>rfl) ?_
       intro s' hs'
       obtain rfl : s'=x:=by
         rw [List.getElem?_append_right (by omega),Nat.add_sub_cancel_left,List.getElem?_append_right (by omega),hdrop,hi,Nat.sub_self] at hs'
         exact (Option.some.inj hs').symm
       conv=>whnf
       have hlo : IntKind.u32.wrap (cy : Int)=((cy : Nat) : Int):=by rw [IntKind.wrap_u32]; omega
       refine zac.fn (zqt s' cy bo hu0b hcy hbo) (congrArg (fun z=>[SV.o (.v (u32 s')),.o (.v (.int .u32 z)),.o (.v (u32 bo))]) hlo) ?_
       conv=>whnf
       refine ⟨by rw [hik]; omega,?_⟩
       conv=>whnf
       refine ⟨by rw [hik,List.length_append,zar,hdrop]; show 0+(P0.length+k)*1+1≤_; simp; omega,?_⟩
       conv=>whnf
       refine ⟨((2 ^ 32+s' - cy-bo)%2 ^ 32,if s' < cy+bo then 1 else 0),⟨Nat.mod_lt _ (by decide),by show (if s' < cy+bo then 1 else 0)≤1; split <;> omega,?_⟩,?_⟩
       · have h1:=zu1 (B:=2 ^ 32) (x:=s') (c:=cy) (b:=bo) (D:=D) (S:=S) (k:=k) hi hcy hu0b hbo hS hsk hinv
         exact h1
       · refine SLe.id ⟨rfl,rfl,rfl,rfl,rfl,rfl,trivial⟩ ⟨⟨_,rfl,?_⟩,trivial⟩ (fun R hR=>hR)
         show MEle (ME.sym (putN (0+(IntKind.i64.wrap ((P0.length : Int)+(k : Int))).toNat*1) [Value.int .u32 _] (rowV u32c (P0++(D++(S.drop D.length++R)))++junk)) _)
           (ME.sym (rowV u32c (P0++((D++[(2 ^ 32+s' - cy-bo)%2 ^ 32])++R))++junk) _)
         rw [hik,hdrop,←List.append_assoc P0 D,List.cons_append,zll (P0++D) _ _ _ _ (by simp; omega)]
         simp only [List.append_assoc,List.nil_append]
         exact .refl _
     · rintro ⟨d,b'⟩ ⟨hdB,hb',hfin⟩
       obtain ⟨D',hD'⟩ : ∃ D',D'=D++[d]:=⟨_,rfl⟩
       have hDl : D'.length=k+1:=by rw [hD',List.length_append,hi]; rfl
       have hDB : ∀ x∈D',x<2 ^ 32:=by
         rw [hD']; intro z hz
         rcases List.mem_append.1 hz with hz | hz
         · exact hDb z hz
         · rw [List.mem_singleton.1 hz]; exact hdB
       have hDlt:=zkT (B:=2 ^ 32) (by decide) D' hDB
       rw [hDl] at hDlt
       have hVlt:=zkT (B:=2 ^ 32) (by decide) V hV
       rw [←hkk] at hVlt
       have hSmod:=Nat.div_add_mod (lv (2 ^ 32) S) (lv (2 ^ 32) V)
       have hSr:=Nat.mod_lt (lv (2 ^ 32) S) hVpos
       rw [←hQ] at hSmod
       rw [←hD'] at hfin
       refine WPS.peel zab mixed ?_
       conv=>whnf
       refine zah ?_ ?_
       · intro hc
         have hb0 : b'=0:=by have : (b' : Int)=0:=eq_of_beq hc
                             omega
         subst hb0
         have hg : g=Q:=by rw [hQ]; exact (zrA (by rw [←hQ]; exact hQg) (by rw [←hQ]; exact hgQ) hVpos).1 (by omega)
         have hval : lv (2 ^ 32) D'=lv (2 ^ 32) S%lv (2 ^ 32) V:=by
           rw [hg] at hfin; rw [Nat.mul_comm] at hSmod; omega
         conv=>whnf
         refine ⟨?_,?_⟩
         · show [SV.o (.v (.int .u32 (IntKind.u32.wrap (g : Int))))]=_
           rw [IntKind.wrap_u32,show (g : Int)%4294967296=(g : Int) by omega,hg,hQ]
         · show some (ME.sym (u32V (P0++((D++[d])++R))++junk) zat)=_
           rw [←hD',←hval,←hDl,zsU (by decide) D' hDB]
       · intro hc
         have hb1 : b'=1:=by have : ¬(b' : Int)=0:=ne_of_beq_false hc
                             omega
         subst hb1
         have hg : g=Q+1:=by rw [hQ]; exact (zrA (by rw [←hQ]; exact hQg) (by rw [←hQ]; exact hgQ) hVpos).2 (by omega)
         conv=>whnf
         refine WPS.of zab mixed ?_
         conv=>whnf
         refine zak (ι:=List Nat×Nat) (fun ⟨E,t⟩=>⟨[(0,.o (.s 194 0 U.length cap)),(1,.o (.v (.slice A k c))),(2,.o (.v (.int .i64 P0.length))),(7,.o (.v (.int .i64 k))),(9,.o (.v (.int .u64 g))),(15,.o (.v (u32 t))),(157,.o (.v (.slice A k c))),(158,.o (.v (.int .i64 k))),(159,.o (.v (.int .i64 E.length)))],[(194,.sym (u32V (P0++(E++(D'.drop E.length++R)))++junk) zat)],[zaf A (u32V V)]⟩)
           (fun ⟨E,t⟩=>E.length≤k∧t≤1∧(∀ x∈E,x<2 ^ 32)∧lv (2 ^ 32) E+(2 ^ 32) ^ E.length*t=lv (2 ^ 32) (D'.take E.length)+lv (2 ^ 32) (V.take E.length)) (fun ⟨E,t⟩=>k-E.length) ([],0)
           ⟨Nat.zero_le _,by decide,(fun x h=>by cases h),by simp [lv]⟩ (SLe.id ⟨rfl,rfl,rfl,rfl,rfl,rfl,rfl,rfl,rfl,trivial⟩ ⟨⟨_,rfl,by rw [hD']; exact .refl _⟩,trivial⟩ (fun R hR=>hR)) ?_
         rintro ⟨E,t⟩ ⟨hE,ht,hEb,hinv2⟩
         conv=>whnf
         refine zah ?_ ?_
         · intro h
           have hi2 : E.length<k:=by have : (E.length : Int)<k:=by simpa using h
                                     omega
           conv=>whnf
           refine ⟨⟨by omega,by omega,hA⟩,?_⟩
           conv=>whnf
           refine zao.elem u32c zau (List.mem_singleton.2 rfl) rfl (by rw [Int.toNat_natCast]; omega) (by decide) (fun _=>rfl) ?_
           rw [Int.toNat_natCast]
           intro v hv
           have hvb : v<2 ^ 32:=hV v (List.mem_of_getElem? hv)
           conv=>whnf
           have hij : IntKind.i64.wrap ((P0.length : Int)+(E.length : Int))=((P0.length+E.length : Nat) : Int):=by rw [wrap_i64 (by omega) (by omega)]; omega
           obtain ⟨sj,hsj⟩ : ∃ sj,sj=D'.getD E.length 0:=⟨_,rfl⟩
           have hsg : D'[E.length]?=some sj:=by rw [hsj]; exact zer (by omega)
           have hsb : sj<2 ^ 32:=hDB sj (List.mem_of_getElem? hsg)
           have hdrop : D'.drop E.length=sj::D'.drop (E.length+1):=by
             rw [List.drop_eq_getElem_cons (show E.length<D'.length by omega)]
             congr 1
             rw [List.getElem?_eq_getElem (show E.length<D'.length by omega)] at hsg
             exact Option.some.inj hsg
           refine ⟨by rw [hij]; omega,?_⟩
           conv=>whnf
           refine zbU.elemJ u32c zau (k:=P0.length+E.length) (by rw [hij]; show 0+(P0.length+E.length)*1=_; omega) (by rw [hdrop]; simp) (by decide) (fun _=>rfl) ?_
           intro s' hs'
           obtain rfl : s'=sj:=by
             rw [List.getElem?_append_right (by omega),Nat.add_sub_cancel_left,List.getElem?_append_right (by omega),Nat.sub_self,hdrop] at hs'
             exact (Option.some.inj hs').symm
           conv=>whnf
           refine zac.fn (zzI s' v t hsb hvb ht) rfl ?_
           conv=>whnf
           refine ⟨by rw [hij]; omega,?_⟩
           conv=>whnf
           refine ⟨by rw [hij,List.length_append,zar,hdrop]; show 0+(P0.length+E.length)*1+1≤_; simp; omega,?_⟩
           conv=>whnf
           refine ⟨(E++[(s'+v+t)%2 ^ 32],(s'+v+t)/2 ^ 32),⟨by simp; omega,by show (s'+v+t)/2 ^ 32≤1; omega,?_,?_⟩,by simp; omega,?_⟩
           · intro z hz
             rcases List.mem_append.1 hz with hz | hz
             · exact hEb z hz
             · rw [List.mem_singleton.1 hz]; exact Nat.mod_lt _ (by decide)
           · rw [List.length_append]
             exact zvR (by decide) rfl hinv2 hsg hv
           · refine SLe.id ⟨rfl,rfl,rfl,rfl,rfl,rfl,rfl,rfl,?_,trivial⟩ ⟨⟨_,rfl,?_⟩,trivial⟩ (fun R hR=>hR)
             · show some (SV.o (.v (.int _ (IntKind.i64.wrap ((E.length : Int)+1)))))=some (SV.o (.v (.int _ (((E++[_]).length : Nat) : Int))))
               rw [wrap_i64 (by omega) (by omega),List.length_append]; rfl
             · show MEle (ME.sym (putN (0+(IntKind.i64.wrap ((P0.length : Int)+(E.length : Int))).toNat*1) [Value.int .u32 _] (rowV u32c (P0++(E++(D'.drop E.length++R)))++junk)) _)
                 (ME.sym (rowV u32c (P0++((E++[(s'+v+t)%2 ^ 32])++(D'.drop (E++[_]).length++R)))++junk) _)
               rw [hij,hdrop,List.length_append,←List.append_assoc P0 E,List.cons_append,zll (P0++E) _ _ _ _ (by simp; omega)]
               simp only [List.append_assoc]
               exact .refl _
         · intro h
           have hi2 : E.length=k:=by have : ¬(E.length : Int)<k:=by simpa using h
                                     omega
           have hdrop : D'.drop E.length=[d]:=by rw [hD',hi2,←hi]; simp
           have htk : D'.take E.length=D:=by rw [hD',hi2,←hi]; simp
           rw [htk,List.take_of_length_le (show V.length≤E.length by omega)] at hinv2
           conv=>whnf
           refine ⟨by rw [hik]; omega,?_⟩
           conv=>whnf
           refine zbU.elemJ u32c zau (k:=P0.length+k) (by rw [hik]; show 0+(P0.length+k)*1=_; omega) (by rw [hdrop]; simp; omega) (by decide) (fun _=>rfl) ?_
           intro s' hs'
           obtain rfl : s'=d:=by
             rw [List.getElem?_append_right (by omega),Nat.add_sub_cancel_left,List.getElem?_append_right (by omega),hdrop,hi2,Nat.sub_self] at hs'
             exact (Option.some.inj hs').symm
           conv=>whnf
           refine ⟨by rw [hik]; omega,?_⟩
           conv=>whnf
           refine ⟨by rw [hik,List.length_append,zar,hdrop]; show 0+(P0.length+k)*1+1≤_; simp; omega,?_⟩
           conv=>whnf
           refine ⟨?_,?_⟩
           · show [SV.o (.v (.int .u32 (IntKind.u32.wrap (IntKind.u64.wrap ((g : Int)-1)))))]=_
             have e1 : IntKind.u64.wrap ((g : Int)-1)=(Q : Int):=by rw [IntKind.wrap_u64]; omega
             rw [e1,IntKind.wrap_u32,show (Q : Int)%4294967296=(Q : Int) by omega,hQ]
           · show some (ME.sym (putN (0+(IntKind.i64.wrap ((P0.length : Int)+(k : Int))).toNat*1) [Value.int .u32 (IntKind.u32.wrap ((s' : Int)+(t : Int)))] (rowV u32c (P0++(E++(D'.drop E.length++R)))++junk)) zat)=_
             have e2 : IntKind.u32.wrap ((s' : Int)+(t : Int))=(((s'+t)%2 ^ 32 : Nat) : Int):=by rw [IntKind.wrap_u32]; omega
             have hres : lv (2 ^ 32) (E++[(s'+t)%2 ^ 32])=lv (2 ^ 32) S%lv (2 ^ 32) V:=by
               refine zwd (D:=D') (d:=s') (D':=lv (2 ^ 32) D) (by decide) hi2 hEb (by rw [←hi2]; exact hinv2) (by rw [hD',zcM,hi]) ?_ hQ hVlt hVpos
               rw [←hg]; rw [Nat.mul_one] at hfin; exact hfin
             rw [e2,hik,hdrop,←List.append_assoc P0 E,List.cons_append,zll (P0++E) _ _ _ _ (by simp; omega),←hres]
             have hl3 : (E++[(s'+t)%2 ^ 32]).length=k+1:=by rw [List.length_append,hi2]; rfl
             rw [←hl3,zsU (by decide) _ (by
               intro z hz
               rcases List.mem_append.1 hz with hz | hz
               · exact hEb z hz
               · rw [List.mem_singleton.1 hz]; exact Nat.mod_lt _ (by decide))]
             simp only [List.append_assoc,List.nil_append]
end Go.Sx
end
section
set_option maxRecDepth 10000
set_option maxHeartbeats 2000000
namespace Go.Sx
open Go Go.Proofs
theorem zAD {B m i k r : Nat} (hB : 0<B) (hm : i+k≤m) (hr : r<B ^ (i+k)) :
  ∃ P S R,pad B m r=P++(S++R)∧P.length=i∧S.length=k∧(∀ x∈P,x<B)∧(∀ x∈S,x<B)∧lv B S=r/B ^ i ∧
   ∀ s,s<B ^ k→P++(pad B k s++R)=pad B m (r%B ^ i+B ^ i*s):=by
 have hBm : B ^ (i+k)≤B ^ m:=Nat.pow_le_pow_right hB hm
 have hval : lv B (pad B m r)=r:=by rw [zmo hB,Nat.mod_eq_of_lt (by omega)]
 have hlt:=znQ hB m r
 obtain ⟨l,hl⟩ : ∃ l,l=pad B m r:=⟨_,rfl⟩
 have hll : l.length=m:=by rw [hl,zay]
 rw [←hl] at hval hlt ⊢
 refine ⟨l.take i,(l.drop i).take k,(l.drop i).drop k,by rw [List.take_append_drop,List.take_append_drop],by rw [List.length_take]; omega,by rw [List.length_take,List.length_drop]; omega,fun x hx=>hlt x (List.mem_of_mem_take hx),fun x hx=>hlt x (List.mem_of_mem_drop (List.mem_of_mem_take hx)),?_,?_⟩
 all_goals
  have hR : lv B ((l.drop i).drop k)=0:=by
   rw [List.drop_drop,←zl1 hB hlt _ (by omega),hval,Nat.div_eq_of_lt hr]
  have hP : lv B (l.take i)<B ^ i:=by
   have:=zkT hB (l.take i) (fun x hx=>hlt x (List.mem_of_mem_take hx))
   rwa [List.length_take,Nat.min_eq_left (by omega)] at this
  have h1 : lv B (l.drop i)=r/B ^ i:=by rw [←zl1 hB hlt _ (by omega),hval]
  have h2 : lv B (l.drop i)=lv B ((l.drop i).take k):=by
   conv=>lhs; rw [←List.take_append_drop k (l.drop i),zbE,hR]
   omega
  have h3 : lv B (l.take i)=r%B ^ i:=by
   have h4 : r=lv B (l.take i)+B ^ i*lv B (l.drop i):=by
    conv=>lhs; rw [←hval,←List.take_append_drop i l,zbE,List.length_take,Nat.min_eq_left (by omega)]
   rw [h4,Nat.add_mul_mod_self_left,Nat.mod_eq_of_lt hP]
 ·rw [←h2,h1]
 ·intro s hs
  have h5 : ∀ x∈l.take i++(pad B k s++(l.drop i).drop k),x<B:=by
   intro x hx
   rcases List.mem_append.1 hx with hx | hx
   ·exact hlt x (List.mem_of_mem_take hx)
   ·rcases List.mem_append.1 hx with hx | hx
    ·exact znQ hB _ _ x hx
    ·exact hlt x (List.mem_of_mem_drop (List.mem_of_mem_drop hx))
  have h6:=zsU hB _ h5
  rw [zbE,zbE,hR,List.length_take,Nat.min_eq_left (by omega),zmo hB,Nat.mod_eq_of_lt hs,h3,Nat.mul_zero,Nat.add_zero] at h6
  rw [←h6]
  congr 1
  simp only [List.length_append,List.length_take,List.length_drop,zay]
  omega
theorem zyR {B v N i : Nat} (hB : 0<B) (hv : 0<v) :
  N%(B ^ (i+1)*v)/(B ^ i*v)=N/(B ^ i*v)%B∧N%(B ^ (i+1)*v)%(B ^ i*v)=N%(B ^ i*v)∧N/(B ^ (i+1)*v)=N/(B ^ i*v)/B:=by
 have e : B ^ (i+1)*v=(B ^ i*v)*B:=by rw [Nat.pow_succ]; exact Nat.mul_right_comm _ _ _
 rw [e]
 refine ⟨?_,?_,(Nat.div_div_eq_div_mul _ _ _).symm⟩
 ·rw [Nat.mod_mul_right_div_self]
 ·exact Nat.mod_mul_right_mod _ _ _
theorem zwM {B v r i : Nat} : r%B ^ i+B ^ i*(r/B ^ i%v)=r%(B ^ i*v):=by rw [Nat.mod_mul]
theorem zxe {B v r i : Nat} : r/B ^ i/v=r/(B ^ i*v):=Nat.div_div_eq_div_mul _ _ _
theorem zwB {k q t n : Nat} {B : Nat} (hB : B=2 ^ 32) (hk : 0<k) (ht : t=(digs B q).getD (k-1) 0) (hkl : k=(digs B q).length) (hn : t*2 ^ n<2 ^ 32) (hn2 : 2 ^ 31≤t*2 ^ n) :
  q*2 ^ n<B ^ k∧2 ^ 31*B ^ (k-1)≤q*2 ^ n:=by
 have hB2 : 2≤B:=by rw [hB]; decide
 have hq:=zbD hB2 q
 have hlt:=zbZ hB2 q
 obtain ⟨l,hl⟩ : ∃ l,l=digs B q:=⟨_,rfl⟩
 rw [←hl] at hq hlt ht hkl
 obtain ⟨j,rfl⟩ : ∃ j,k=j+1:=⟨k-1,by omega⟩
 rw [Nat.add_sub_cancel] at ht ⊢
 have h1 : l=l.take j++[t]:=by
  conv=>lhs; rw [←List.take_append_drop j l]
  congr 1
  rw [List.drop_eq_getElem_cons (by omega),List.drop_of_length_le (by omega),ht,List.getD_eq_getElem?_getD,List.getElem?_eq_getElem (by omega)]
  rfl
 have h2 : lv B l=lv B (l.take j)+B ^ j*t:=by
  conv=>lhs; rw [h1,zbE,List.length_take,Nat.min_eq_left (by omega)]
  simp [lv]
 have h3 : lv B (l.take j)<B ^ j:=by
  have:=zkT (show 0<B by omega) (l.take j) (fun x hx=>hlt x (List.mem_of_mem_take hx))
  rwa [List.length_take,Nat.min_eq_left (by omega)] at this
 have hqe : q=lv B (l.take j)+B ^ j*t:=by rw [←hq,h2]
 have hpn : 0<2 ^ n:=Nat.pow_pos (by decide)
 constructor
 ·have h4 : q<B ^ j*(t+1):=by rw [Nat.mul_add]; omega
  have h5 : q*2 ^ n<B ^ j*(t+1)*2 ^ n:=Nat.mul_lt_mul_of_pos_right h4 hpn
  have h6 : (t+1)*2 ^ n≤B:=by
   rw [hB]
   have hd : (2:Nat) ^ 32=2 ^ (32-n)*2 ^ n:=by
    rw [←Nat.pow_add]; congr 1
    by_cases hn3 : n≤32
    ·omega
    ·exfalso
     have h7 : 2 ^ 32≤2 ^ n:=Nat.pow_le_pow_right (by decide) (by omega)
     have h8 : 0<t:=by
      rcases Nat.eq_zero_or_pos t with h9 | h9
      ·rw [h9] at hn2; omega
      ·exact h9
     have : 1*2 ^ n≤t*2 ^ n:=Nat.mul_le_mul_right _ h8
     omega
   rw [hd] at hn ⊢
   have : t<2 ^ (32-n):=Nat.lt_of_mul_lt_mul_right hn
   exact Nat.mul_le_mul_right _ this
  have h7 : B ^ j*(t+1)*2 ^ n≤B ^ (j+1):=by
   rw [Nat.mul_assoc,Nat.pow_succ]; exact Nat.mul_le_mul_left _ h6
  omega
 ·have h4 : B ^ j*t≤q:=by omega
  have h5 : B ^ j*t*2 ^ n≤q*2 ^ n:=Nat.mul_le_mul_right _ h4
  have h6 : B ^ j*2 ^ 31≤B ^ j*(t*2 ^ n):=Nat.mul_le_mul_left _ hn2
  rw [←Nat.mul_assoc] at h6
  rw [Nat.mul_comm]; omega

theorem ztX (A D : Option Addr) (c d : Nat) (p q : Nat) (hq : 0<q) (hlp : (digs (2 ^ 32) p).length≤100000000000) (hlq : (digs (2 ^ 32) q).length≤100000000000) :
   FnM PP zdJ [.slice A (digs (2 ^ 32) p).length c,.slice D (digs (2 ^ 32) q).length d] (facts [zaf A (u32V (digs (2 ^ 32) p)),zaf D (u32V (digs (2 ^ 32) q))])
     (zyu (.slice A (digs (2 ^ 32) p).length c) (u32V (digs (2 ^ 32) p)) (digs (2 ^ 32) p).length zat 1 (digs (2 ^ 32) (p/q)).length (u32V (digs (2 ^ 32) (p/q))) (digs (2 ^ 32) (p%q)).length (u32V (digs (2 ^ 32) (p%q)))):=by
 refine FnD.of zab mixed zhG rfl rfl (Nat.le_of_ble_eq_true rfl) (by simp [zaf.ok]) ?_
 intro w hw
 conv=>whnf
 have hcs:=zol p q A D c d (by omega) (by omega)
 refine zac.v hcs.enters (zaB.facts hcs rfl (fun R hR=>hR)) ?_
 conv=>whnf
 refine zah ?_ ?_
 · intro h
   have hlt : p<q:=by
     have : cmpN p q<0:=of_decide_eq_true h
     unfold cmpN at this; split at this
     · assumption
     · split at this <;> omega
   conv=>whnf
   refine .inr ⟨rfl,?_⟩
   rw [Nat.div_eq_of_lt hlt,Nat.mod_eq_of_lt hlt,zbb]
   exact ⟨rfl,rfl,rfl,rfl⟩
 · intro h
   have hle : q≤p:=by
     have : ¬cmpN p q<0:=of_decide_eq_false h
     unfold cmpN at this; split at this
     · omega
     · omega
   conv=>whnf
   refine zah ?_ ?_
   · intro h1
     have hl1 : (digs (2 ^ 32) q).length=1:=by
       have : ((digs (2 ^ 32) q).length : Int)=1:=eq_of_beq h1
       omega
     have hq1 : digs (2 ^ 32) q=[q]:=by
       have e1:=zbD (B:=2 ^ 32) (by decide) q
       match hd : digs (2 ^ 32) q,hl1 with
       | [x],_=>rw [hd] at e1; simp [lv] at e1; rw [e1]
     have hqb : q<2 ^ 32:=zbZ (by decide) q q (by rw [hq1]; simp)
     have hD : D.isSome=true:=zap (zbN hw).2 (by rw [zar]; omega)
     conv=>whnf
     refine ⟨⟨by decide,by omega,hD⟩,?_⟩
     conv=>whnf
     refine zao.elem u32c zau (List.mem_cons_of_mem _ (List.mem_singleton.2 rfl)) rfl (by rw [hl1]; decide) (by decide) (fun _=>rfl) ?_
     intro x hx
     obtain rfl : x=q:=by rw [hq1] at hx; exact (Option.some.inj hx).symm
     conv=>whnf
     have hsh:=zAc A c (digs (2 ^ 32) p) x (zbZ (by decide) p) hq hqb hlp
     rw [zbD (by decide)] at hsh
     refine zac.t 26 hsh.enters (zaB.facts hsh rfl (fun R hR=>List.mem_cons.2 (.inl (List.mem_singleton.1 hR)))) rfl rfl ?_
     conv=>whnf
     have hr:=Nat.mod_lt p hq
     have htr : tr [p%x]=digs (2 ^ 32) (p%x):=by
       rw [zna (B:=2 ^ 32) (by decide) (by intro y hy; rw [List.mem_singleton.1 hy]; omega)]; simp [lv]
     have hn1:=zcB [p%x]
     rw [htr] at hn1
     refine zac.cutB 32 (t:=zat) (es:=1) (n:=1) (n':=(digs (2 ^ 32) (p%x)).length) (cp:=1) (xs:=u32V [p%x]) (fun A c hc=>?_) rfl rfl hn1 (by decide) (by decide) rfl rfl rfl ?_ rfl
     · have:=zhy A c [p%x] hc (by simp)
       rw [htr] at this; exact this
     · conv=>whnf
       refine .inl ⟨26,32,rfl,by decide,rfl,?_⟩
       show some (ME.own zat 1 _ ((rowV u32c [p%x]).take ((digs (2 ^ 32) (p%x)).length*1)))=_
       rw [zbm zau,←htr,zeB]
   · intro h1
     obtain ⟨k,hk⟩ : ∃ k,k=(digs (2 ^ 32) q).length:=⟨_,rfl⟩
     obtain ⟨m,hm⟩ : ∃ m,m=(digs (2 ^ 32) p).length:=⟨_,rfl⟩
     have hk2 : 2≤k:=by
       have h2 : ¬((digs (2 ^ 32) q).length : Int)=1:=ne_of_beq_false h1
       have h3 : digs (2 ^ 32) q≠[]:=fun e=>by have:=(znm (by decide)).1 e; omega
       have:=List.length_pos_iff.2 h3
       omega
     have hmk : k≤m:=by
       rw [hk,hm]
       exact za6 (by decide) (Nat.lt_of_le_of_lt hle (zbG (by decide)))
     have hD : D.isSome=true:=zap (zbN hw).2 (by rw [zar]; omega)
     have hqlt:=zbZ (B:=2 ^ 32) (by decide) q
     have hplt:=zbZ (B:=2 ^ 32) (by decide) p
     obtain ⟨t,ht⟩ : ∃ t,t=(digs (2 ^ 32) q).getD (k-1) 0:=⟨_,rfl⟩
     have htg : (digs (2 ^ 32) q)[k-1]?=some t:=by rw [ht]; exact zer (by omega)
     have htb : t<2 ^ 32:=hqlt t (List.mem_of_getElem? htg)
     have ht0 : 0<t:=by
       have:=zsj (B:=2 ^ 32) (by decide) q
       rw [List.getLast?_eq_getElem?,←hk,htg] at this
       rcases Nat.eq_zero_or_pos t with h0 | h0
       · rw [h0] at this; exact absurd rfl this
       · exact h0
     obtain ⟨n,hn⟩ : ∃ n,n=32-blen t:=⟨_,rfl⟩
     have hb1:=zth t
     have hb2:=zqH ht0
     have hb3:=ztw htb
     have hn32 : n<32:=by omega
     have hlead : t*2 ^ n<2 ^ 32∧2 ^ 31≤t*2 ^ n:=by
       have e1 : (2 : Nat) ^ 32=2 ^ blen t*2 ^ n:=by rw [←Nat.pow_add]; congr 1; omega
       have e2 : (2 : Nat) ^ 31=2 ^ (blen t-1)*2 ^ n:=by rw [←Nat.pow_add]; congr 1; omega
       rw [e1,e2]
       exact ⟨Nat.mul_lt_mul_of_pos_right hb1 (Nat.pow_pos (by decide)),Nat.mul_le_mul_right _ hb2.1⟩
     have hnorm:=zwB (k:=k) (q:=q) (t:=t) (n:=n) rfl (by omega) ht hk hlead.1 hlead.2
     have hk1 : IntKind.i64.wrap ((k : Int)-1)=((k-1 : Nat) : Int):=by rw [wrap_i64 (by omega) (by omega)]; omega
     conv=>whnf
     refine ⟨⟨by rw [←hk,hk1]; omega,by rw [←hk,hk1]; omega,hD⟩,?_⟩
     conv=>whnf
     refine zao.elem u32c zau (List.mem_cons_of_mem _ (List.mem_singleton.2 rfl)) rfl (by rw [←hk,hk1,Int.toNat_natCast]; omega) (by decide) (fun _=>rfl) ?_
     rw [←hk,hk1,Int.toNat_natCast]
     intro x hx
     obtain rfl : x=t:=by rw [htg] at hx; exact (Option.some.inj hx).symm
     conv=>whnf
     have hlz:=zm6 x htb
     rw [←hn] at hlz
     refine zac.fn hlz rfl ?_
     conv=>whnf
     have hs1:=zwQ A c (digs (2 ^ 32) p) n hplt hn32 hlp
     rw [zbD (by decide)] at hs1
     refine zac.o 42 hs1.enters (zaB.facts hs1 rfl (fun R hR=>List.mem_cons.2 (.inl (List.mem_singleton.1 hR)))) rfl rfl ?_
     conv=>whnf
     have hs2:=zwQ D d (digs (2 ^ 32) q) n hqlt hn32 hlq
     rw [zbD (by decide),←hk] at hs2
     refine zac.o 45 hs2.enters (zaB.facts hs2 rfl (fun R hR=>List.mem_cons.2 (.inr hR))) rfl rfl ?_
     conv=>whnf
     obtain ⟨v,hv⟩ : ∃ v,v=q*2 ^ n:=⟨_,rfl⟩
     rw [←hv] at hnorm
     have hvpos : 0<v:=Nat.lt_of_lt_of_le (Nat.mul_pos (by decide) (Nat.pow_pos (by decide))) hnorm.2
     have hpk : (2 ^ 32) ^ (k-1)≤v:=by
       have : 1*(2 ^ 32) ^ (k-1)≤2 ^ 31*(2 ^ 32) ^ (k-1):=Nat.mul_le_mul_right _ (by decide)
       omega
     have hVp : pad (2 ^ 32) k v=digs (2 ^ 32) v:=zt6 (by decide) hnorm.1 (.inr hpk)
     have hVl : (digs (2 ^ 32) v).length=k:=by rw [←hVp,zay]
     have hVlt:=zbZ (B:=2 ^ 32) (by decide) v
     have hVlv:=zbD (B:=2 ^ 32) (by decide) v
     have htrV : tr (pad (2 ^ 32) (k+1) v)=digs (2 ^ 32) v:=by
       rw [zna (B:=2 ^ 32) (by decide) (znQ (by decide) _ _),zmo (by decide),Nat.mod_eq_of_lt (Nat.lt_of_lt_of_le hnorm.1 (Nat.pow_le_pow_right (by decide) (by omega)))]
     refine zac.cutO (n:=k+1) (xs:=u32V (pad (2 ^ 32) (k+1) (q*2 ^ n))) (n':=k) 46 (fun A c hc=>?_) rfl (by omega) rfl rfl ?_ rfl
     · have:=zhy A c (pad (2 ^ 32) (k+1) v) (by rw [zay]; exact hc) (by rw [zay]; omega)
       rw [htrV,hVl,zay] at this
       rw [←hv]; exact this
     have hVtake : (u32V (pad (2 ^ 32) (k+1) (q*2 ^ n))).take (k*1)=u32V (digs (2 ^ 32) v):=by
       have:=zeB (pad (2 ^ 32) (k+1) v)
       rw [htrV,hVl] at this
       rw [←hv,zbm zau,this]
     have hml : IntKind.i64.wrap (((m+1 : Nat) : Int)-(k : Int))=((m+1-k : Nat) : Int):=by rw [wrap_i64 (by omega) (by omega)]; omega
     rw [hVtake]
     rw [←hm]
     conv=>whnf
     rw [hml]
     refine ⟨⟨by omega,by omega,by show (4 : Int)*_≤_; omega,by omega⟩,?_⟩
     conv=>whnf
     obtain ⟨N,hN⟩ : ∃ N,N=p*2 ^ n:=⟨_,rfl⟩
     rw [←hN]
     have hp1 : p<(2 ^ 32) ^ m:=by rw [hm]; exact zbG (by decide)
     have hNlt : N<(2 ^ 32) ^ (m+1-k)*v:=by
       have e1 : N<(2 ^ 32) ^ m*2 ^ 31:=by
         have h1 : p*2 ^ n<(2 ^ 32) ^ m*2 ^ n:=Nat.mul_lt_mul_of_pos_right hp1 (Nat.pow_pos (by decide))
         have h2 : (2 ^ 32) ^ m*2 ^ n≤(2 ^ 32) ^ m*2 ^ 31:=Nat.mul_le_mul_left _ (Nat.pow_le_pow_right (by decide) (by omega))
         rw [hN]; omega
       have e2 : (2 ^ 32) ^ (m+1-k)*(2 ^ 31*(2 ^ 32) ^ (k-1))≤(2 ^ 32) ^ (m+1-k)*v:=Nat.mul_le_mul_left _ hnorm.2
       have e3 : ((2 ^ 32) ^ (m+1-k)*(2 ^ 31*(2 ^ 32) ^ (k-1)) : Nat)=(2 ^ 32) ^ m*2 ^ 31:=by
         have : m=(m+1-k)+(k-1):=by omega
         conv=>rhs; rw [this]
         rw [Nat.pow_add,Nat.mul_assoc,Nat.mul_comm (2 ^ 31)]
       omega
     refine zak (ι:=Nat) (fun j=>⟨[(8,.o (.v (.int .i64 n))),(9,.o (.w 42)),(10,.o (.w 46)),(11,.o (.w 52)),(12,.o (.v (.int .i64 ((j : Int)-1))))],[(42,.own zat 1 (m+1) (u32V (pad (2 ^ 32) (m+1) (N%((2 ^ 32) ^ j*v))))),(46,.own zat 1 k (u32V (digs (2 ^ 32) v))),(52,.own zat 1 (m+1-k) (u32V (List.replicate j 0++pad (2 ^ 32) (m+1-k-j) (N/((2 ^ 32) ^ j*v)))))],[zaf A (u32V (digs (2 ^ 32) p)),zaf D (u32V (digs (2 ^ 32) q))]⟩)
       (fun j=>j≤m+1-k) (fun j=>j) (m+1-k) (Nat.le_refl _) (SLe.id ⟨rfl,rfl,rfl,rfl,?_,trivial⟩ ⟨⟨_,rfl,?_⟩,⟨_,rfl,.refl _⟩,⟨_,rfl,?_⟩,trivial⟩ (fun R hR=>hR)) ?_
     · show some (SV.o (.v (.int _ (IntKind.i64.wrap (((m+1-k : Nat) : Int)-1)))))=some (SV.o (.v (.int _ (((m+1-k : Nat) : Int)-1))))
       rw [wrap_i64 (by omega) (by omega)]
     · rw [Nat.mod_eq_of_lt hNlt]; exact .refl _
     · rw [Nat.sub_self,Int.toNat_natCast]
       simp only [ME.ren,u32V,pad,List.range_zero,List.map_nil,List.append_nil,zb7]
       exact .refl _
     intro j hj
     conv=>whnf
     refine zah ?_ ?_
     · intro h
       have hj0 : 0<j:=by have : (0 : Int)≤(j : Int)-1:=of_decide_eq_true h
                          omega
       conv=>whnf
       obtain ⟨i,rfl⟩ : ∃ i,j=i+1:=⟨j-1,by omega⟩
       have hvk : v<(2 ^ 32) ^ k:=hnorm.1
       obtain ⟨r,hr⟩ : ∃ r,r=N%((2 ^ 32) ^ (i+1)*v):=⟨_,rfl⟩
       have hvp2 : 0<(2 ^ 32) ^ (i+1)*v:=Nat.mul_pos (Nat.pow_pos (by decide)) hvpos
       have hrlt : r<(2 ^ 32) ^ (i+1)*v:=by rw [hr]; exact Nat.mod_lt _ hvp2
       have hrk : r<(2 ^ 32) ^ (i+(k+1)):=by
         have h1 : (2 ^ 32) ^ (i+1)*v<(2 ^ 32) ^ (i+1)*(2 ^ 32) ^ k:=Nat.mul_lt_mul_of_pos_left hvk (Nat.pow_pos (by decide))
         rw [←Nat.pow_add] at h1
         rw [show i+(k+1)=i+1+k by omega]; omega
       obtain ⟨P,S,R,hcut,hPl,hSl,hPb,hSb,hSv,hback⟩:=zAD (B:=2 ^ 32) (m:=m+1) (i:=i) (k:=k+1) (r:=r) (by decide) (by omega) hrk
       have hfit : lv (2 ^ 32) S<2 ^ 32*v:=by
         rw [hSv,Nat.div_lt_iff_lt_mul (Nat.pow_pos (by decide))]
         rw [Nat.pow_succ] at hrlt
         have : (2 ^ 32) ^ i*2 ^ 32*v=2 ^ 32*v*(2 ^ 32) ^ i:=by rw [Nat.mul_assoc]; exact Nat.mul_comm _ _
         omega
       obtain ⟨hs1,hs2,hs3⟩:=zyR (B:=2 ^ 32) (v:=v) (N:=N) (i:=i) (by decide) hvpos
       rw [←hr] at hs1 hs2
       have hdig : ∀ A c,k≤c→FnW PP zcx (.slice A k c::[.int .i64 ((((i+1 : Nat) : Int))-1)]) [zaf A (u32V (digs (2 ^ 32) v))] zat (m+1) (u32V (pad (2 ^ 32) (m+1) r)) (u32V (pad (2 ^ 32) (m+1) (N%((2 ^ 32) ^ i*v)))) (u32 (N/((2 ^ 32) ^ i*v)%2 ^ 32)):=by
         intro A c hc
         have hl : (P++(S++R)).length=m+1:=by rw [←hcut,zay]
         have:=zAS A c (digs (2 ^ 32) v) P S R (by omega) (by omega) hVlt hPb hSb (by
           have h0:=zsj (B:=2 ^ 32) (by decide) v
           rw [List.getLast?_eq_getElem?] at h0
           rw [zer (show (digs (2 ^ 32) v).length-1<(digs (2 ^ 32) v).length by omega)] at h0
           rcases Nat.eq_zero_or_pos ((digs (2 ^ 32) v).getD ((digs (2 ^ 32) v).length-1) 0) with h2 | h2
           · rw [h2] at h0; exact absurd rfl h0
           · exact h2) (by rw [hVlv]; exact hfit) (by omega)
         rw [hl,hVl,hVlv,hSv,zxe,hs1,←hcut,hback _ (Nat.lt_trans (Nat.mod_lt _ hvpos) (Nat.lt_of_lt_of_le hvk (Nat.pow_le_pow_right (by decide) (by omega)))),zwM,hs2,hPl] at this
         rw [show (((i+1 : Nat) : Int))-1=(i : Int) by omega]
         exact this
       refine zac.w1 (k:=42) (j:=46) (tl:=[.int .i64 ((((i+1 : Nat) : Int))-1)]) (by decide) rfl rfl (by omega) (fun A c hc=>by rw [←hr]; exact hdig A c hc) (by rw [zar,zar,zay,zay]) ?_
       conv=>whnf
       refine ⟨⟨by omega,by omega⟩,?_⟩
       conv=>whnf
       refine ⟨⟨by rw [zar,List.length_append,List.length_replicate,zay]; show ((((i+1 : Nat) : Int))-1).toNat*1+1≤_; omega,by decide⟩,?_⟩
       conv=>whnf
       refine ⟨i,by omega,by omega,SLe.id ⟨rfl,rfl,rfl,rfl,?_,trivial⟩ ⟨⟨_,rfl,.refl _⟩,⟨_,rfl,.refl _⟩,⟨_,rfl,?_⟩,trivial⟩ (fun R hR=>hR)⟩
       · show some (SV.o (.v (.int _ (IntKind.i64.wrap ((((i+1 : Nat) : Int))-1-1)))))=some (SV.o (.v (.int _ ((i : Int)-1))))
         rw [wrap_i64 (by omega) (by omega)]; congr 4; omega
       · show MEle (ME.own _ _ _ (putN (((((i+1 : Nat) : Int))-1).toNat*1) [Value.int .u32 ((N/((2 ^ 32) ^ i*v)%2 ^ 32 : Nat) : Int)] (rowV u32c (List.replicate (i+1) 0++pad (2 ^ 32) (m+1-k-(i+1)) (N/((2 ^ 32) ^ (i+1)*v))))))
           (ME.own _ _ _ (rowV u32c (List.replicate i 0++pad (2 ^ 32) (m+1-k-i) (N/((2 ^ 32) ^ i*v)))))
         rw [show m+1-k-i=(m+1-k-(i+1))+1 by omega,zqK,←hs3]
         have hrep : List.replicate (i+1) 0++pad (2 ^ 32) (m+1-k-(i+1)) (N/((2 ^ 32) ^ (i+1)*v))=List.replicate i 0++0::pad (2 ^ 32) (m+1-k-(i+1)) (N/((2 ^ 32) ^ (i+1)*v)):=by
           rw [List.replicate_succ']; simp
         rw [hrep,zfd (List.replicate i 0) _ 0 _ (by rw [List.length_replicate]; omega)]
         simp only [List.append_assoc,List.singleton_append]
         exact .refl _
     · intro h
       have hj0 : j=0:=by have : ¬(0 : Int)≤(j : Int)-1:=of_decide_eq_false h
                          omega
       subst hj0
       rw [Nat.pow_zero,Nat.one_mul,Nat.sub_zero,List.replicate_zero,List.nil_append]
       have hpq : N/v=p/q:=by rw [hN,hv,Nat.mul_div_mul_right _ _ (Nat.pow_pos (by decide))]
       have hpr : N%v=p%q*2 ^ n:=by rw [hN,hv,Nat.mul_mod_mul_right]
       have hq1 : tr (pad (2 ^ 32) (m+1-k) (N/v))=digs (2 ^ 32) (p/q):=by
         rw [zna (B:=2 ^ 32) (by decide) (znQ (by decide) _ _),zmo (by decide),Nat.mod_eq_of_lt (Nat.div_lt_of_lt_mul (by rw [Nat.mul_comm]; exact hNlt)),hpq]
       have hr1 : tr (pad (2 ^ 32) (m+1) (N%v))=digs (2 ^ 32) (N%v):=by
         rw [zna (B:=2 ^ 32) (by decide) (znQ (by decide) _ _),zmo (by decide),Nat.mod_eq_of_lt (Nat.lt_trans (Nat.mod_lt _ hvpos) (Nat.lt_of_lt_of_le hnorm.1 (Nat.pow_le_pow_right (by decide) (by omega))))]
       have hql:=zcB (pad (2 ^ 32) (m+1-k) (N/v))
       have hrl:=zcB (pad (2 ^ 32) (m+1) (N%v))
       rw [hq1,zay] at hql
       rw [hr1,zay] at hrl
       conv=>whnf
       refine zac.cutO (n:=m+1-k) (xs:=u32V (pad (2 ^ 32) (m+1-k) (N/v))) (n':=(digs (2 ^ 32) (p/q)).length) 68 (fun A c hc=>?_) rfl hql rfl rfl ?_ rfl
       · have:=zhy A c (pad (2 ^ 32) (m+1-k) (N/v)) (by rw [zay]; exact hc) (by rw [zay]; omega)
         rw [hq1,zay] at this; exact this
       conv=>whnf
       refine zac.cutO (n:=m+1) (xs:=u32V (pad (2 ^ 32) (m+1) (N%v))) (n':=(digs (2 ^ 32) (N%v)).length) 70 (fun A c hc=>?_) rfl hrl rfl rfl ?_ rfl
       · have:=zhy A c (pad (2 ^ 32) (m+1) (N%v)) (by rw [zay]; exact hc) (by rw [zay]; omega)
         rw [hr1,zay] at this; exact this
       have ht1 : (u32V (pad (2 ^ 32) (m+1-k) (N/v))).take ((digs (2 ^ 32) (p/q)).length*1)=u32V (digs (2 ^ 32) (p/q)):=by
         have:=zeB (pad (2 ^ 32) (m+1-k) (N/v))
         rw [hq1] at this
         rw [zbm zau,this]
       have ht2 : (u32V (pad (2 ^ 32) (m+1) (N%v))).take ((digs (2 ^ 32) (N%v)).length*1)=u32V (digs (2 ^ 32) (N%v)):=by
         have:=zeB (pad (2 ^ 32) (m+1) (N%v))
         rw [hr1] at this
         rw [zbm zau,this]
       rw [ht1,ht2]
       conv=>whnf
       have hu : ∀ A c,(digs (2 ^ 32) (N%v)).length≤c→FnM PP zbW [.slice A (digs (2 ^ 32) (N%v)).length c,.int .i64 n] (facts [zaf A (u32V (digs (2 ^ 32) (N%v)))]) (zdn zat 1 (digs (2 ^ 32) (p%q)).length (u32V (digs (2 ^ 32) (p%q)))):=by
         intro A c hc
         have:=zvX A c (digs (2 ^ 32) (N%v)) n (zbZ (by decide) _) hn32 (by
           have : (digs (2 ^ 32) (N%v)).length≤k:=za6 (by decide) (Nat.lt_trans (Nat.mod_lt _ hvpos) hnorm.1)
           omega)
         rw [zbD (by decide),hpr,Nat.mul_div_cancel _ (Nat.pow_pos (by decide))] at this
         rw [hpr]; exact this
       refine zac.o 72 (hu none _ (Nat.le_refl _)).enters (zaB.sl1 (fun z=>[z,.int .i64 n]) (RdA.own (k:=70) rfl) (List.mem_cons_self ..) (fun _=>rfl) hu) rfl rfl ?_
       conv=>whnf
       exact .inl ⟨68,72,rfl,by decide,rfl,rfl⟩
end Go.Sx
end
section
set_option maxRecDepth 10000
set_option maxHeartbeats 2000000
namespace Go.Sx
open Go Go.Proofs
theorem zad.o {P : Program} {st : SS} {g : FuncId} {args : List SV} {d : Option Tmp} {t es n : Nat} {xs : List Value} {K : SV→Option ME→Prop} (hE : Enters P g) (h : zaB P g args st (zdn t es n xs)) (hk : K (.o (.w (d.getD 0))) (some (.own t es n xs))) : zad P g args d st K :=
 ⟨hE,.inr ⟨t,es,n,xs,h,hk⟩⟩
theorem zad.v {P : Program} {st : SS} {g : FuncId} {args : List SV} {d : Option Tmp} {r : Value} {K : SV→Option ME→Prop} (hE : Enters P g) (h : zaB P g args st (zbu r)) (hk : K (.o (.v r)) none) : zad P g args d st K :=
 ⟨hE,.inl ⟨r,h,hk⟩⟩
abbrev dg (l : List UInt8) : List Nat:=digs (2 ^ 32) (nat l)
theorem zha {l : List UInt8} : (dg l).length≤l.length:=by
 refine za6 (by decide) (Nat.lt_of_lt_of_le (zdx l) ?_)
 exact Nat.pow_le_pow_left (by decide) _
theorem zBG (l : List UInt8) : ∀ x∈dg l,x<2 ^ 32:=zbZ (by decide) _
theorem zbq {st : SS} (l : List UInt8) (hl : l.length≤1000000000000) : zaB PP zeq [.o (.v (.string (bs l)))] st (zdn zat 1 (dg l).length (u32V (dg l))) :=
 zaB.facts (zzq l hl) rfl (fun R hR=>by cases hR)
theorem zaW : Enters PP zeq:=(zzq [] (by decide)).enters
theorem zgW {st : SS} {k : Nat} (neg : Bool) (n : Nat) (hl : (digs (2 ^ 32) n).length≤1000000000000) (hk : lk k st.me=some (.own zat 1 (digs (2 ^ 32) n).length (u32V (digs (2 ^ 32) n)))) :
  zaB PP zc7 [.o (.v (.bool neg)),.o (.w k)] st (zbu (zV (sg neg n))):=by
 refine zaB.sl1 (fun z=>[.bool neg,z]) (RdA.own hk) (List.mem_cons_of_mem _ (List.mem_cons_self ..)) (fun _=>rfl) (fun A c hc=>?_)
 have:=zvV neg A c (digs (2 ^ 32) n) (zbZ (by decide) _) hc hl
 rw [zbD (by decide)] at this
 exact this
theorem zb9 : Enters PP zc7:=(zvV false none 0 [] (by simp) (by simp) (by simp)).enters
theorem zCR (b : Bool) (l : List UInt8) (hl : l.length≤10000000000) : Fn PP zhq [intV b (bs l)] (zV (-(sg b (nat l)))):=by
 refine Fn.of zab mixed zre rfl rfl (Nat.le_of_ble_eq_true rfl) ?_
 intro w
 have hd : (digs (2 ^ 32) (nat l)).length≤l.length:=zha
 conv=>whnf
 refine zaj.quiet (by kernel_rfl) ?_
 conv=>whnf
 refine zad.o zaW (zbq l (by omega)) ?_
 conv=>whnf
 refine zad.v zb9 (zgW (k:=8) (!b) (nat l) (by omega) rfl) ?_
 conv=>whnf
 refine zaa ?_
 have : sg (!b) (nat l)=-(sg b (nat l)):=by cases b <;> simp [sg]
 rw [this]
theorem zzy (a b : Bool) (m n : Nat) : sg (a != b) (m*n)=sg a m*sg b n:=by cases a <;> cases b <;> simp [sg,Int.natCast_mul,Int.neg_mul,Int.mul_neg]
theorem zrt : Enters PP zcy:=(zvH none none 0 0 [] [] (by simp) (by simp) (by simp) (by simp)).enters
theorem zyb (a b : Bool) (l m : List UInt8) (hl : l.length≤10000000000) (hm : m.length≤10000000000) : Fn PP zcS [intV a (bs l),intV b (bs m)] (zV (sg a (nat l)*sg b (nat m))):=by
 refine Fn.of zab mixed zsh rfl rfl (Nat.le_of_ble_eq_true rfl) ?_
 intro w
 have hd:=zha (l:=l)
 have hd2:=zha (l:=m)
 have hd3 : (digs (2 ^ 32) (nat l*nat m)).length≤l.length+m.length:=by
  refine za6 (by decide) (Nat.lt_of_lt_of_le (zbT (zdx l) (zdx m)) ?_)
  exact Nat.pow_le_pow_left (by decide) _
 conv=>whnf
 refine zaj.quiet (by kernel_rfl) ?_
 conv=>whnf
 refine zad.o zaW (zbq l (by omega)) ?_
 conv=>whnf
 refine zad.o zaW (zbq m (by omega)) ?_
 conv=>whnf
 refine zad.o zrt (zaB.sl2 (fun y z=>[y,z]) (RdA.own (k:=12) rfl) (RdA.own (k:=15) rfl) (List.mem_cons_self ..) (List.mem_cons_of_mem _ (List.mem_cons_self ..)) (fun _=>rfl) (fun A c B d hc hd=>zvH A B c d (dg l) (dg m) (zBG l) (zBG m) (by omega) (by omega))) ?_
 rw [zbD (by decide),zbD (by decide)]
 conv=>whnf
 refine zad.v zb9 (zgW (k:=16) (a != b) (nat l*nat m) (by omega) rfl) ?_
 conv=>whnf
 refine zaa ?_
 rw [zzy]
end Go.Sx
end
section
set_option maxRecDepth 10000
set_option maxHeartbeats 2000000
namespace Go.Sx
open Go Go.Proofs

def zg9 (b : Bool) (l : List UInt8) : Value:=if l.length≤7 then .tuple #[.int .i64 (sg b (nat l)),.bool true] else .tuple #[.int .i64 0,.bool false]
theorem ztz (b : Bool) (l : List UInt8) (hl : l.length≤10000000000) : Fn PP zhC [intV b (bs l)] (zg9 b l):=by
 refine Fn.of zab mixed zoo rfl rfl (Nat.le_of_ble_eq_true rfl) ?_
 intro w
 conv=>whnf
 refine zah ?_ ?_
 ·intro h
  have h1 : ¬l.length≤7:=by
   have : ((l.length : Nat) : Int)>7:=of_decide_eq_true h
   omega
  conv=>whnf
  refine zas ?_
  rw [zg9,if_neg h1]
 ·intro h
  have h1 : l.length≤7:=by
   have : ¬((l.length : Nat) : Int)>7:=of_decide_eq_false h
   omega
  conv=>whnf
  refine zak (ι:=Nat) (fun i=>⟨[(1,.o (.p 1 0)),(4,.o (.v (.int .i64 (nat (l.take i))))),(12,.o (.v (.int .i64 l.length))),(13,.o (.v (.int .i64 i)))],[(1,.box [.v (.bool b),.v (.string (bs l))] zbF)],[]⟩)
   (fun i=>i≤l.length) (fun i=>l.length-i) 0 (Nat.zero_le _) (SLe.id ⟨rfl,rfl,rfl,rfl,trivial⟩ ⟨⟨_,rfl,.refl _⟩,trivial⟩ (fun R hR=>hR)) ?_
  intro i hi
  conv=>whnf
  refine zah ?_ ?_
  ·intro h2
   have hi2 : i<l.length:=by
    have : (i : Int)<(l.length : Int):=of_decide_eq_true h2
    omega
   conv=>whnf
   refine ⟨by decide,?_⟩
   conv=>whnf
   refine ⟨⟨by omega,by show (i : Int)<(l.length : Int); omega⟩,?_⟩
   conv=>whnf
   obtain ⟨x,hx⟩ : ∃ x,x=l[i]:=⟨_,rfl⟩
   have hg : l.getD i 0=x:=by rw [hx,List.getD_eq_getElem?_getD,List.getElem?_eq_getElem hi2]; rfl
   have htk : l.take (i+1)=l.take i++[x]:=by rw [List.take_succ_eq_append_getElem hi2,hx]
   have hnat : nat (l.take (i+1))=x.toNat+256*nat (l.take i):=by rw [htk,zgg]
   have hnb : nat (l.take i)<256 ^ 6:=za2 (by rw [List.length_take]; omega)
   have hxb : x.toNat<256:=x.toBitVec.isLt
   have hor : IntKind.i64.wrap (BitVec.toNat (w:=64) (BitVec.ofInt 64 (IntKind.i64.wrap ((nat (l.take i) : Int)*2 ^ min (8 : Int).toNat IntKind.i64.bits)) ||| BitVec.ofInt 64 (IntKind.i64.wrap (sb (bs l) (i : Int)))) : Int)=(nat (l.take (i+1)) : Int):=by
    have e1 : IntKind.i64.wrap ((nat (l.take i) : Int)*2 ^ min (8 : Int).toNat IntKind.i64.bits)=((nat (l.take i)*2 ^ 8 : Nat) : Int):=by
     rw [show min (8 : Int).toNat IntKind.i64.bits=8 from rfl,wrap_i64 (by omega) (by omega)]; omega
    have e2 : IntKind.i64.wrap (sb (bs l) (i : Int))=(x.toNat : Int):=by
     rw [zm9,Int.toNat_natCast,hg,wrap_i64 (by omega) (by omega)]
    rw [e1,e2,BitVec.toNat_or,zaM (by omega),zaM (by omega),Nat.mul_comm,←Nat.two_pow_add_eq_or_of_lt (show x.toNat<2 ^ 8 by omega),hnat]
    rw [wrap_i64 (by omega) (by omega)]; omega
   refine ⟨i+1,by omega,by omega,SLe.id ⟨rfl,?_,rfl,?_,trivial⟩ ⟨⟨_,rfl,.refl _⟩,trivial⟩ (fun R hR=>hR)⟩
   ·show some (SV.o (.v (.int .i64 (IntKind.i64.wrap (BitVec.toNat (w:=64) (BitVec.ofInt 64 _ ||| BitVec.ofInt 64 _) : Int)))))=some (SV.o (.v (.int .i64 (nat (l.take (i+1)) : Int))))
    rw [hor]
   ·show some (SV.o (.v (.int _ (IntKind.i64.wrap ((i : Int)+1)))))=some (SV.o (.v (.int _ ((i+1 : Nat) : Int))))
    rw [wrap_i64 (by omega) (by omega)]; rfl
  ·intro h2
   have hi2 : i=l.length:=by
    have : ¬(i : Int)<(l.length : Int):=of_decide_eq_false h2
    omega
   subst hi2
   have hnb : nat l<256 ^ 7:=za2 h1
   rw [List.take_length]
   cases b with
   | false =>
    conv=>whnf
    refine zas ?_
    rw [zg9,if_pos h1]; rfl
   | true =>
    conv=>whnf
    refine zas ?_
    rw [zg9,if_pos h1]
    show Value.tuple #[.int .i64 (IntKind.i64.wrap (0-(nat l : Int))),.bool true]=_
    rw [wrap_i64 (by omega) (by omega),Int.zero_sub]; rfl
theorem zvU (a : Bool) (n : Nat) : sg (!a) n=-(sg a n):=by cases a <;> simp [sg]
theorem zpD {l : List UInt8} (h : l.length≤7) : nat l<72057594037927936:=za2 h
theorem ztx : Enters PP zbH:=(zzo none none 0 0 [] [] (by simp) (by simp) (by simp) (by simp)).enters
theorem Fn.ofW {P : Program} {T : TT} (hT : zaQ P T) (hmix : P.follows .mixedOrders=true) {f : FuncId} {fn : Func} {c : Code} {vs : List Value} {r : Value}
  (hf : P.funcs[f]? = some fn) (hb : fn.body = some c) (hnm : (fn.name == "runtime.NumGoroutine") = false) (hn : vs.length ≤ fn.ntmps)
  (hs : ∀ w,WPS P ⟨w,[],fn.ntmps⟩ c ⟨zeS 0 (vsv vs),[],[]⟩ (retQ T fn (zwi r))) : Fn P f vs r:=by
 have:=FnM.ofS (re:=[]) hT hmix hf hb hnm hn (by simp) (fun w l st E w' hp hm=>zh0 hp hm) (fun w _=>hs w)
 exact ⟨this.enters,fun w _=>this.calls w (by simp [facts])⟩
theorem zuv {x y : Nat} : cmpN x y<0↔x<y:=by
 unfold cmpN; split
 ·constructor
  ·intro; assumption
  ·intro; decide
 ·split <;> constructor <;> intro h <;> omega
theorem zxI {l m : List UInt8} {k : Nat} (hl : l.length≤k) (hm : m.length≤k) : (digs (2 ^ 32) (nat l+nat m)).length≤k+1:=by
 refine za6 (by decide) ?_
 have h1:=za2 hl
 have h2:=za2 hm
 have h3 : (256 : Nat) ^ k≤(2 ^ 32) ^ k:=Nat.pow_le_pow_left (by decide) _
 rw [Nat.pow_succ]
 omega
theorem zho {m n : Nat} (h : m≤n) : (digs (2 ^ 32) m).length≤(digs (2 ^ 32) n).length:=za6 (by decide) (Nat.lt_of_le_of_lt h (zbG (by decide)))
theorem zet {st : SS} {i j : Nat} (x y : Nat) (hx : (digs (2 ^ 32) x).length≤100000000000) (hy : (digs (2 ^ 32) y).length≤100000000000)
  (hi : lk i st.me=some (.own zat 1 (digs (2 ^ 32) x).length (u32V (digs (2 ^ 32) x)))) (hj : lk j st.me=some (.own zat 1 (digs (2 ^ 32) y).length (u32V (digs (2 ^ 32) y)))) :
  zaB PP zbo [.o (.w i),.o (.w j)] st (zbu (.int .i64 (cmpN x y))) :=
 zaB.sl2 (fun y z=>[y,z]) (RdA.own hi) (RdA.own hj) (List.mem_cons_self ..) (List.mem_cons_of_mem _ (List.mem_cons_self ..)) (fun _=>rfl) (fun A c B d _ _=>zol x y A B c d (by omega) (by omega))
theorem zbS : Enters PP zbo:=(zol 0 0 none none 0 0 (by simp [zbb]) (by simp [zbb])).enters
theorem zz9 {st : SS} {i j : Nat} (x y : Nat) (hx : (digs (2 ^ 32) x).length≤100000000000) (hy : (digs (2 ^ 32) y).length≤100000000000)
  (hi : lk i st.me=some (.own zat 1 (digs (2 ^ 32) x).length (u32V (digs (2 ^ 32) x)))) (hj : lk j st.me=some (.own zat 1 (digs (2 ^ 32) y).length (u32V (digs (2 ^ 32) y)))) :
  zaB PP zbH [.o (.w i),.o (.w j)] st (zdn zat 1 (digs (2 ^ 32) (x+y)).length (u32V (digs (2 ^ 32) (x+y)))) :=
 zaB.sl2 (fun y z=>[y,z]) (RdA.own hi) (RdA.own hj) (List.mem_cons_self ..) (List.mem_cons_of_mem _ (List.mem_cons_self ..)) (fun _=>rfl) (fun A c B d _ _=>by
  have:=zzo A B c d (digs (2 ^ 32) x) (digs (2 ^ 32) y) (zbZ (by decide) _) (zbZ (by decide) _) (by omega) (by omega)
  rw [zbD (by decide),zbD (by decide)] at this
  exact this)
theorem zul {st : SS} {i j : Nat} (x y : Nat) (hyx : y≤x) (hx : (digs (2 ^ 32) x).length≤100000000000)
  (hi : lk i st.me=some (.own zat 1 (digs (2 ^ 32) x).length (u32V (digs (2 ^ 32) x)))) (hj : lk j st.me=some (.own zat 1 (digs (2 ^ 32) y).length (u32V (digs (2 ^ 32) y)))) :
  zaB PP zby [.o (.w i),.o (.w j)] st (zdn zat 1 (digs (2 ^ 32) (x-y)).length (u32V (digs (2 ^ 32) (x-y)))) :=
 zaB.sl2 (fun y z=>[y,z]) (RdA.own hi) (RdA.own hj) (List.mem_cons_self ..) (List.mem_cons_of_mem _ (List.mem_cons_self ..)) (fun _=>rfl) (fun A c B d _ _=>zvT A B c d x y hyx (by omega))
theorem zmy : Enters PP zby:=(zvT none none 0 0 0 0 (by simp) (by simp [zbb])).enters
theorem zAp (a b : Bool) (l m : List UInt8) (hl : l.length≤10000000000) (hm : m.length≤10000000000) : Fn PP zhl [intV a (bs l),intV b (bs m)] (zV (sg a (nat l)+sg b (nat m))):=by
 refine Fn.ofW zab mixed zsi rfl rfl (Nat.le_of_ble_eq_true rfl) ?_
 intro w
 have hd : (digs (2 ^ 32) (nat l)).length≤l.length:=zha
 have hd2 : (digs (2 ^ 32) (nat m)).length≤m.length:=zha
 have hd3:=zxI hl hm
 have hd4:=zho (Nat.sub_le (nat l) (nat m))
 have hd5:=zho (Nat.sub_le (nat m) (nat l))
 refine WPS.peel zab mixed ?_
 conv=>whnf
 refine WPS.cut zab mixed (ι:=Unit) (fun _=>⟨[(2,.o (.p 2 0)),(3,.o (.p 3 0)),(4,.o (.p 4 0))],[(2,.box [.v (.bool a),.v (.string (bs l))] zbF),(3,.box [.v (.bool b),.v (.string (bs m))] zbF),(4,.box [.v (.bool false),.v (.string ⟨#[]⟩)] zbF)],[]⟩) (fun _=>True) ?_ ?_
 ·have done : ∀ s,(SLe (⟨w,[],zhK.ntmps⟩ : Cx) s ⟨[(2,.o (.p 2 0)),(3,.o (.p 3 0)),(4,.o (.p 4 0))],[(2,.box [.v (.bool a),.v (.string (bs l))] zbF),(3,.box [.v (.bool b),.v (.string (bs m))] zbF),(4,.box [.v (.bool false),.v (.string ⟨#[]⟩)] zbF)],[]⟩)→∃ j : Unit,True∧SLe (⟨w,[],zhK.ntmps⟩ : Cx) s ⟨[(2,.o (.p 2 0)),(3,.o (.p 3 0)),(4,.o (.p 4 0))],[(2,.box [.v (.bool a),.v (.string (bs l))] zbF),(3,.box [.v (.bool b),.v (.string (bs m))] zbF),(4,.box [.v (.bool false),.v (.string ⟨#[]⟩)] zbF)],[]⟩:=fun s h=>⟨(),trivial,h⟩
  conv=>whnf
  refine zac.fn (ztz a l hl) rfl ?_
  by_cases h1 : l.length≤7
  ·rw [zg9,if_pos h1]
   conv=>whnf
   refine zac.fn (ztz b m hm) rfl ?_
   by_cases h2 : m.length≤7
   ·rw [zg9,if_pos h2]
    conv=>whnf
    have hn1:=zpD h1
    have hn2:=zpD h2
    have hz1:=za4 a (nat l)
    have hz2:=za4 b (nat m)
    have hw : IntKind.i64.wrap (sg a (nat l)+sg b (nat m))=sg a (nat l)+sg b (nat m):=wrap_i64 (by omega) (by omega)
    refine zac.fn (r:=zV (sg a (nat l)+sg b (nat m))) (c_Of (sg a (nat l)+sg b (nat m)) (by omega) (by omega)) (congrArg (fun z=>[SV.o (.v (.int .i64 z))]) hw) ?_
    conv=>whnf
    exact zaa rfl
   ·rw [zg9,if_neg h2]
    conv=>whnf
    exact done _ (SLe.id ⟨rfl,rfl,rfl,trivial⟩ ⟨⟨_,rfl,.refl _⟩,⟨_,rfl,.refl _⟩,⟨_,rfl,.refl _⟩,trivial⟩ (fun R hR=>hR))
  ·rw [zg9,if_neg h1]
   conv=>whnf
   exact done _ (SLe.id ⟨rfl,rfl,rfl,trivial⟩ ⟨⟨_,rfl,.refl _⟩,⟨_,rfl,.refl _⟩,⟨_,rfl,.refl _⟩,trivial⟩ (fun R hR=>hR))
 ·intro _ _
  refine WPS.of zab mixed ?_
  conv=>whnf
  refine zaj.quiet (by kernel_rfl) ?_
  conv=>whnf
  refine zad.o zaW (zbq l (by omega)) ?_
  conv=>whnf
  refine zad.o zaW (zbq m (by omega)) ?_
  conv=>whnf
  refine zah ?_ ?_
  ·intro hab
   have hab : a=b:=eq_of_beq hab
   subst hab
   conv=>whnf
   refine zaj.quiet (by kernel_rfl) ?_
   conv=>whnf
   refine zad.o ztx (zz9 (i:=29) (j:=32) (nat l) (nat m) (by omega) (by omega) rfl rfl) ?_
   conv=>whnf
   refine zad.v zb9 (zgW (k:=43) a (nat l+nat m) (by omega) rfl) ?_
   conv=>whnf
   refine zaa ?_
   have : sg a (nat l+nat m)=sg a (nat l)+sg a (nat m):=by cases a <;> simp [sg] <;> omega
   rw [this]
  ·intro hab
   have hab : ¬a=b:=ne_of_beq_false hab
   conv=>whnf
   refine zac.v zbS (zet (i:=29) (j:=32) (nat l) (nat m) (by omega) (by omega) rfl rfl) ?_
   conv=>whnf
   refine zah ?_ ?_
   ·intro hc
    have hlt : nat l<nat m:=zuv.1 (of_decide_eq_true hc)
    conv=>whnf
    refine zaj.quiet (by kernel_rfl) ?_
    conv=>whnf
    refine zad.o zmy (zul (i:=32) (j:=29) (nat m) (nat l) (by omega) (by omega) rfl rfl) ?_
    conv=>whnf
    refine zad.v zb9 (zgW (k:=54) b (nat m-nat l) (by omega) rfl) ?_
    conv=>whnf
    refine zaa ?_
    have : sg b (nat m-nat l)=sg a (nat l)+sg b (nat m):=by cases a <;> cases b <;> simp [sg] at hab ⊢ <;> omega
    rw [this]
   ·intro hc
    have hlt : ¬nat l<nat m:=fun h=>of_decide_eq_false hc (zuv.2 h)
    conv=>whnf
    refine zaj.quiet (by kernel_rfl) ?_
    conv=>whnf
    refine zad.o zmy (zul (i:=29) (j:=32) (nat l) (nat m) (by omega) (by omega) rfl rfl) ?_
    conv=>whnf
    refine zad.v zb9 (zgW (k:=60) a (nat l-nat m) (by omega) rfl) ?_
    conv=>whnf
    refine zaa ?_
    have : sg a (nat l-nat m)=sg a (nat l)+sg b (nat m):=by cases a <;> cases b <;> simp [sg] at hab ⊢ <;> omega
    rw [this]
end Go.Sx
end
section
set_option maxRecDepth 10000
set_option maxHeartbeats 2000000
namespace Go.Sx
open Go Go.Proofs

theorem zCx (a b : Bool) (l m : List UInt8) (hl : l.length≤10000000000) (hm : m.length≤10000000000) : Fn PP zhF [intV a (bs l),intV b (bs m)] (zV (sg a (nat l)-sg b (nat m))):=by
 refine Fn.of zab mixed zrU rfl rfl (Nat.le_of_ble_eq_true rfl) ?_
 intro w
 conv=>whnf
 refine zac.fn (zAp a (!b) l m hl hm) rfl ?_
 conv=>whnf
 refine zaa ?_
 rw [zvU,Int.sub_eq_add_neg]
def cmpZ (x y : Int) : Int:=if x<y then -1 else if y<x then 1 else 0
theorem zj4 (x y : Nat) : cmpZ x y=cmpN x y:=by simp only [cmpZ,cmpN,Int.ofNat_lt]
theorem zty (x y : Nat) : cmpZ (-(x : Int)) (-(y : Int))=cmpN y x:=by
 unfold cmpZ cmpN
 by_cases h1 : y<x
 ·rw [if_pos (by omega),if_pos h1]
 ·rw [if_neg (by omega),if_neg h1]
  by_cases h2 : x<y
  ·rw [if_pos (by omega),if_pos h2]
  ·rw [if_neg (by omega),if_neg h2]
theorem zma {x y : Int} (h : x<y) : cmpZ x y=-1:=by rw [cmpZ,if_pos h]
theorem zlv {x y : Int} (h : y<x) : cmpZ x y=1:=by rw [cmpZ,if_neg (by omega),if_pos h]
theorem zi2 {l : List UInt8} : ((digs (2 ^ 32) (nat l)).length : Int)>0↔0<nat l:=by
 have:=znm (B:=2 ^ 32) (n:=nat l) (by decide)
 rcases Nat.eq_zero_or_pos (nat l) with h | h
 ·rw [this.2 h]; simp [h]
 ·have h2 : digs (2 ^ 32) (nat l)≠[]:=fun e=>by have:=this.1 e; omega
  have:=List.length_pos_iff.2 h2
  omega
theorem zkm (a b : Bool) (l m : List UInt8) (hl : l.length≤10000000000) (hm : m.length≤10000000000) : Fn PP zdU [intV a (bs l),intV b (bs m)] (.int .i64 (cmpZ (sg a (nat l)) (sg b (nat m)))):=by
 refine Fn.of zab mixed zmQ rfl rfl (Nat.le_of_ble_eq_true rfl) ?_
 intro w
 have hd : (digs (2 ^ 32) (nat l)).length≤l.length:=zha
 have hd2 : (digs (2 ^ 32) (nat m)).length≤m.length:=zha
 cases a <;> cases b
 ·conv=>whnf
  refine zaj.quiet (by kernel_rfl) ?_
  conv=>whnf
  refine zad.o zaW (zbq l (by omega)) ?_
  conv=>whnf
  refine zad.o zaW (zbq m (by omega)) ?_
  conv=>whnf
  refine zac.v zbS (zet (i:=9) (j:=12) (nat l) (nat m) (by omega) (by omega) rfl rfl) ?_
  conv=>whnf
  refine zaa ?_
  rw [←zj4]; rfl
 ·conv=>whnf
  refine zaj.quiet (by kernel_rfl) ?_
  conv=>whnf
  refine zad.o zaW (zbq l (by omega)) ?_
  conv=>whnf
  refine zad.o zaW (zbq m (by omega)) ?_
  conv=>whnf
  refine zah ?_ ?_
  ·intro h
   have hp : 0<nat m:=zi2.1 (of_decide_eq_true h)
   conv=>whnf
   refine zaa ?_
   rw [zlv (by simp [sg]; omega)]
  ·intro h
   have hp : ¬0<nat m:=fun h2=>of_decide_eq_false h (zi2.2 h2)
   conv=>whnf
   refine zac.v zbS (zet (i:=9) (j:=12) (nat l) (nat m) (by omega) (by omega) rfl rfl) ?_
   conv=>whnf
   refine zaa ?_
   rw [←zj4,show nat m=0 by omega]; rfl
 ·conv=>whnf
  refine zaj.quiet (by kernel_rfl) ?_
  conv=>whnf
  refine zad.o zaW (zbq l (by omega)) ?_
  conv=>whnf
  refine zad.o zaW (zbq m (by omega)) ?_
  conv=>whnf
  refine zah ?_ ?_
  ·intro h
   have hp : 0<nat l:=zi2.1 (of_decide_eq_true h)
   conv=>whnf
   refine zah ?_ ?_
   ·intro h2
    conv=>whnf
    refine zaa ?_
    rw [zma (by simp [sg]; omega)]
   ·intro h2
    exact absurd (h.symm.trans h2) (by decide)
  ·intro h
   have hp : ¬0<nat l:=fun h2=>of_decide_eq_false h (zi2.2 h2)
   conv=>whnf
   refine zah ?_ ?_
   ·intro h2
    exact absurd (h.symm.trans h2) (by decide)
   ·intro h2
    conv=>whnf
    refine zac.v zbS (zet (i:=9) (j:=12) (nat l) (nat m) (by omega) (by omega) rfl rfl) ?_
    conv=>whnf
    refine zaa ?_
    rw [←zj4,show nat l=0 by omega]; rfl
 ·conv=>whnf
  refine zaj.quiet (by kernel_rfl) ?_
  conv=>whnf
  refine zad.o zaW (zbq l (by omega)) ?_
  conv=>whnf
  refine zad.o zaW (zbq m (by omega)) ?_
  conv=>whnf
  refine zah ?_ ?_
  ·intro h
   have hp : 0<nat l:=zi2.1 (of_decide_eq_true h)
   conv=>whnf
   refine zah ?_ ?_
   ·intro h2
    have hp2 : 0<nat m:=zi2.1 (of_decide_eq_true h2)
    conv=>whnf
    refine zac.v zbS (zet (i:=12) (j:=9) (nat m) (nat l) (by omega) (by omega) rfl rfl) ?_
    conv=>whnf
    refine zaa ?_
    rw [←zty]; rfl
   ·intro h2
    have hp2 : ¬0<nat m:=fun h3=>of_decide_eq_false h2 (zi2.2 h3)
    conv=>whnf
    refine zah ?_ ?_
    ·intro h3
     conv=>whnf
     refine zaa ?_
     rw [zma (by simp [sg]; omega)]
    ·intro h3
     exact absurd (h.symm.trans h3) (by decide)
  ·intro h
   have hp : ¬0<nat l:=fun h2=>of_decide_eq_false h (zi2.2 h2)
   conv=>whnf
   refine zah ?_ ?_
   ·intro h2
    exact absurd (h.symm.trans h2) (by decide)
   ·intro h2
    conv=>whnf
    refine zah ?_ ?_
    ·intro h3
     have hp2 : 0<nat m:=zi2.1 (of_decide_eq_true h3)
     conv=>whnf
     refine zaa ?_
     rw [zlv (by simp [sg]; omega)]
     trace_state
    ·intro h3
     have hp2 : ¬0<nat m:=fun h4=>of_decide_eq_false h3 (zi2.2 h4)
     conv=>whnf
     refine zac.v zbS (zet (i:=9) (j:=12) (nat l) (nat m) (by omega) (by omega) rfl rfl) ?_
     conv=>whnf
     refine zaa ?_
     rw [←zj4,show nat l=0 by omega,show nat m=0 by omega]; rfl
end Go.Sx
end
section
set_option maxRecDepth 10000
set_option maxHeartbeats 2000000
namespace Go.Sx
open Go Go.Proofs

theorem zCC (a b : Bool) (l m : List UInt8) (hl : l.length≤10000000000) (hm : m.length≤10000000000) : Fn PP zmi [intV a (bs l),intV b (bs m)] (zV (Nat.gcd (nat l) (nat m))):=by
 refine Fn.of zab mixed zr1 rfl rfl (Nat.le_of_ble_eq_true rfl) ?_
 intro w
 have hd : (digs (2 ^ 32) (nat l)).length≤l.length:=zha
 have hd2 : (digs (2 ^ 32) (nat m)).length≤m.length:=zha
 conv=>whnf
 refine zaj.quiet (by kernel_rfl) ?_
 conv=>whnf
 refine zad.o zaW (zbq l (by omega)) ?_
 conv=>whnf
 refine zad.o zaW (zbq m (by omega)) ?_
 conv=>whnf
 refine zak (ι:=Nat×Nat) (fun ⟨x,y⟩=>⟨[(4,.o (.p 4 0)),(5,.o (.w 11)),(6,.o (.w 14))],[(4,.box [.v (.bool false),.v (.string ⟨#[]⟩)] zbF),(11,.own zat 1 (digs (2 ^ 32) x).length (u32V (digs (2 ^ 32) x))),(14,.own zat 1 (digs (2 ^ 32) y).length (u32V (digs (2 ^ 32) y)))],[]⟩)
  (fun ⟨x,y⟩=>Nat.gcd x y=Nat.gcd (nat l) (nat m)∧(digs (2 ^ 32) x).length≤10000000000∧(digs (2 ^ 32) y).length≤10000000000) (fun ⟨x,y⟩=>y) (nat l,nat m) ⟨rfl,by omega,by omega⟩ (SLe.id ⟨rfl,rfl,rfl,trivial⟩ ⟨⟨_,rfl,.refl _⟩,⟨_,rfl,.refl _⟩,⟨_,rfl,.refl _⟩,trivial⟩ (fun R hR=>hR)) ?_
 rintro ⟨x,y⟩ ⟨hg,hx,hy⟩
 conv=>whnf
 refine zah ?_ ?_
 ·intro h
  have hy0 : 0<y:=by
   have : ((digs (2 ^ 32) y).length : Int)>0:=of_decide_eq_true h
   rcases Nat.eq_zero_or_pos y with h2 | h2
   ·rw [h2,zbb] at this; exact absurd this (by decide)
   ·exact h2
  conv=>whnf
  refine zac.d 26 27 (k:=11) (j:=14) (fun A c A' c' h1 h2=>ztX A A' c c' x y hy0 (by omega) (by omega)) rfl rfl rfl rfl rfl rfl rfl ?_
  conv=>whnf
  refine ⟨(y,x%y),⟨by rw [←hg,Nat.gcd_comm x y,Nat.gcd_rec y x,Nat.gcd_comm],hy,Nat.le_trans (zho (Nat.mod_le x y)) hx⟩,Nat.mod_lt _ hy0,?_⟩
  exact SLe.mk (fun k=>bif Nat.beq k 11 then 14 else bif Nat.beq k 14 then 27 else k) ⟨rfl,rfl,rfl,trivial⟩ ⟨⟨_,rfl,.refl _⟩,⟨_,rfl,.refl _⟩,⟨_,rfl,.refl _⟩,trivial⟩ rfl (fun R hR=>hR)
 ·intro h
  have hy0 : y=0:=by
   have : ¬((digs (2 ^ 32) y).length : Int)>0:=of_decide_eq_false h
   exact (znm (B:=2 ^ 32) (by decide)).1 (List.length_eq_zero_iff.1 (by omega))
  subst hy0
  rw [Nat.gcd_zero_right] at hg
  conv=>whnf
  refine zac.v zb9 (zgW (k:=11) false x (by omega) rfl) ?_
  conv=>whnf
  refine zaa ?_
  rw [←hg]; rfl
theorem sg_z (z : Int) : sg (decide (z<0)) z.natAbs=z:=by
 unfold sg; by_cases h : z<0
 ·rw [decide_eq_true h,if_pos rfl]; omega
 ·rw [decide_eq_false h,if_neg (by decide)]; omega
theorem zkG (a b : Bool) (l m : Nat) (hm : 0<m) (h : a=b∨l%m=0) : (sg a l).fdiv (sg b m)=sg (a != b) (l/m)∧(sg a l).fmod (sg b m)=sg a (l%m):=by
 have h1:=Nat.mod_add_div l m
 have h2:=Nat.mod_lt l hm
 have h3 : ((l%m : Nat) : Int)+(m : Int)*((l/m : Nat) : Int)=l:=by rw [←Int.natCast_mul,←Int.natCast_add,h1]
 have hm0 : (0 : Int)<(m : Int):=by omega
 generalize l%m=r at *
 generalize l/m=q at *
 cases a <;> cases b <;> simp only [sg,if_true,if_false,Bool.false_eq_true,bne_self_eq_false,bne]
 ·exact (Int.fdiv_fmod_unique hm0).2 ⟨h3,by omega,by omega⟩
 ·have hr : r=0:=by rcases h with h | h; cases h; exact h
  subst hr
  refine (Int.fdiv_fmod_unique' (by omega)).2 ⟨?_,by omega,by omega⟩
  show ((0 : Nat) : Int)+-(m : Int)*-(q : Int)=l
  rw [Int.neg_mul_neg]; exact h3
 ·have hr : r=0:=by rcases h with h | h; cases h; exact h
  subst hr
  refine (Int.fdiv_fmod_unique hm0).2 ⟨?_,by omega,by omega⟩
  show -((0 : Nat) : Int)+(m : Int)*-(q : Int)=-(l : Int)
  rw [Int.mul_neg]; omega
 ·refine (Int.fdiv_fmod_unique' (by omega)).2 ⟨?_,by omega,by omega⟩
  show -(r : Int)+-(m : Int)*(q : Int)=-(l : Int)
  rw [Int.neg_mul]; omega
theorem zpS (a b : Bool) (l m : Nat) (hm : 0<m) (hab : a≠b) (hr : l%m≠0) : (sg a l).fdiv (sg b m)=sg (a != b) (l/m)-1∧(sg a l).fmod (sg b m)=sg a (l%m)+sg b m:=by
 have h1:=Nat.mod_add_div l m
 have h2:=Nat.mod_lt l hm
 have h3 : ((l%m : Nat) : Int)+(m : Int)*((l/m : Nat) : Int)=l:=by rw [←Int.natCast_mul,←Int.natCast_add,h1]
 have hm0 : (0 : Int)<(m : Int):=by omega
 generalize l%m=r at *
 generalize l/m=q at *
 cases a <;> cases b <;> simp only [sg,if_true,if_false,Bool.false_eq_true,bne]
 ·exact absurd rfl hab
 ·refine (Int.fdiv_fmod_unique' (by omega)).2 ⟨?_,by omega,by omega⟩
  show (r : Int)+-(m : Int)+-(m : Int)*(-(q : Int)-1)=l
  rw [Int.mul_sub,Int.neg_mul_neg]; omega
 ·refine (Int.fdiv_fmod_unique hm0).2 ⟨?_,by omega,by omega⟩
  show -(r : Int)+(m : Int)+(m : Int)*(-(q : Int)-1)=-(l : Int)
  rw [Int.mul_sub,Int.mul_neg]; omega
 ·exact absurd rfl hab
theorem zB0 (x y : Int) (hx : (bytes x.natAbs).length≤10000000000) (hy : (bytes y.natAbs).length≤10000000000) : Fn PP zhF [zV x,zV y] (zV (x-y)):=by
 have:=zCx (decide (x<0)) (decide (y<0)) (bytes x.natAbs) (bytes y.natAbs) hx hy
 rw [zal,zal,sg_z,sg_z] at this
 exact this
def divV (q r : Int) (e : Int) : Value:=.tuple #[zV q,zV r,.int .i64 e]
theorem zB5 (a b : Bool) (l m : List UInt8) (hl : l.length≤1000000000) (hm : m.length≤1000000000) :
  Fn PP zmq [intV a (bs l),intV b (bs m)] (if nat m=0 then divV 0 0 10 else divV ((sg a (nat l)).fdiv (sg b (nat m))) ((sg a (nat l)).fmod (sg b (nat m))) 0):=by
 refine Fn.of zab mixed zsx rfl rfl (Nat.le_of_ble_eq_true rfl) ?_
 intro w
 have hd : (digs (2 ^ 32) (nat l)).length≤l.length:=zha
 have hd2 : (digs (2 ^ 32) (nat m)).length≤m.length:=zha
 conv=>whnf
 refine zac.o 14 zaW (zbq m (by omega)) rfl rfl ?_
 conv=>whnf
 refine zah ?_ ?_
 ·intro h
  have h0 : nat m=0:=by
   have : ((digs (2 ^ 32) (nat m)).length : Int)=0:=eq_of_beq h
   exact (znm (B:=2 ^ 32) (by decide)).1 (List.length_eq_zero_iff.1 (by omega))
  rw [if_pos h0]
  conv=>whnf
  refine zam ?_
  simp only [divV,zV,zaL,Int.natAbs_zero]
  rfl
 ·intro h
  have h0 : 0<nat m:=by
   have : ¬((digs (2 ^ 32) (nat m)).length : Int)=0:=ne_of_beq_false h
   rcases Nat.eq_zero_or_pos (nat m) with h2 | h2
   ·rw [h2,zbb] at this; exact absurd rfl this
   ·exact h2
  rw [if_neg (by omega)]
  conv=>whnf
  refine zac.o 23 zaW (zbq l (by omega)) rfl rfl ?_
  conv=>whnf
  refine zac.d 55 56 (k:=23) (j:=14) (fun A c A' c' h1 h2=>ztX A A' c c' (nat l) (nat m) h0 (by omega) (by omega)) rfl rfl rfl rfl rfl rfl rfl ?_
  conv=>whnf
  refine zaj.late [(13,10,[7,8,9,10])] (by kernel_rfl) ?_
  conv=>whnf
  have hq1:=zho (Nat.div_le_self (nat l) (nat m))
  have hr1:=zho (Nat.mod_le (nat l) (nat m))
  refine zad.v zb9 (zgW (k:=55) (a != b) (nat l/nat m) (by omega) rfl) ?_
  conv=>whnf
  refine zad.v zb9 (zgW (k:=56) a (nat l%nat m) (by omega) rfl) ?_
  conv=>whnf
  have hnz : ∀ n : Nat,((!((bs (bytes (sg a n).natAbs)).toList==(⟨#[]⟩ : ByteArray).toList))=true↔n≠0):=by
   intro n
   rw [znM,za4]; simp
  have hbq : (bytes (sg (a != b) (nat l/nat m)).natAbs).length≤1000000000:=by
   rw [za4]; exact Nat.le_trans (za8 (Nat.lt_of_le_of_lt (Nat.div_le_self _ _) (zdx l))) hl
  have hbr : (bytes (sg a (nat l%nat m)).natAbs).length≤1000000000:=by
   rw [za4]; exact Nat.le_trans (za8 (Nat.lt_of_le_of_lt (Nat.mod_le _ _) (zdx l))) hl
  refine zah ?_ ?_
  ·intro h1
   have hr0:=(hnz _).1 h1
   conv=>whnf
   refine zah ?_ ?_
   ·intro h2
    have hab : a≠b:=by simpa using h2
    obtain ⟨e1,e2⟩:=zpS a b (nat l) (nat m) h0 hab hr0
    rw [e1,e2]
    conv=>whnf
    refine zaj.late [(6,10,[3,4,5])] (by kernel_rfl) ?_
    conv=>whnf
    refine zad.fn (c_Of 1 (by decide) (by decide)) rfl ?_
    conv=>whnf
    refine zad.fn (zB0 (sg (a != b) (nat l/nat m)) 1 (by omega) (Nat.le_trans (za8 (k:=1) (by decide)) (by decide))) rfl ?_
    conv=>whnf
    have hadd:=zAp (decide (sg a (nat l%nat m)<0)) b (bytes (sg a (nat l%nat m)).natAbs) m (by omega) (by omega)
    rw [zal,sg_z] at hadd
    refine zad.fn hadd rfl ?_
    conv=>whnf
    refine zaj.late [(2,4,[1])] (by kernel_rfl) ?_
    conv=>whnf
    exact zam rfl
   ·intro h2
    have hab : a=b:=by simpa using h2
    obtain ⟨e1,e2⟩:=zkG a b (nat l) (nat m) h0 (.inl hab)
    rw [e1,e2]
    conv=>whnf
    refine zaj.late [(2,4,[1])] (by kernel_rfl) ?_
    conv=>whnf
    exact zam rfl
  ·intro h1
   have hr0 : nat l%nat m=0:=by
    rcases Nat.eq_zero_or_pos (nat l%nat m) with h3 | h3
    ·exact h3
    ·exact absurd (h1.symm.trans ((hnz _).2 (by omega))) (by decide)
   obtain ⟨e1,e2⟩:=zkG a b (nat l) (nat m) h0 (.inr hr0)
   rw [e1,e2]
   conv=>whnf
   refine zaj.late [(2,4,[1])] (by kernel_rfl) ?_
   conv=>whnf
   exact zam rfl
end Go.Sx
end
section
set_option maxRecDepth 10000
set_option maxHeartbeats 2000000
namespace Go.Sx
open Go Go.Proofs
abbrev rawV (r : Raw) : Value:=.agg ⟨[.bool r.neg,.string (bs r.num),.string (bs r.den)]⟩
abbrev qV (x : Rat) : Value:=rawV (Q x)
abbrev zkh (a : Bool) (s : ByteArray) (b : Bool) (t : ByteArray) : Value:=.agg ⟨[.bool a,.string s,.bool b,.string t]⟩
theorem zrL (b : Bool) (s : ByteArray) : Fn PP ze0 [.bool b,.string s] (intV b s):=by
 refine Fn.of zab mixed zk0 rfl rfl (Nat.le_of_ble_eq_true rfl) ?_
 intro w
 conv=>whnf
 exact zaa rfl
theorem zoI {x y : Int} : cmpZ x y=0↔x=y:=by
 unfold cmpZ
 by_cases h : x<y
 ·rw [if_pos h]; constructor <;> intro h2 <;> omega
 ·rw [if_neg h]
  by_cases h3 : y<x
  ·rw [if_pos h3]; constructor <;> intro h2 <;> omega
  ·rw [if_neg h3]; constructor <;> intro h2 <;> omega
theorem c_is (b : Bool) (l : List UInt8) (n : Int) (hl : l.length≤10000000000) (h1 : -9223372036854775808≤n) (h2 : n≤9223372036854775807) : Fn PP zlr [intV b (bs l),.int .i64 n] (.bool (decide (sg b (nat l)=n))):=by
 refine Fn.of zab mixed zqO rfl rfl (Nat.le_of_ble_eq_true rfl) ?_
 intro w
 conv=>whnf
 refine zaj.quiet (by kernel_rfl) ?_
 conv=>whnf
 refine zad.fn (c_Of n h1 h2) rfl ?_
 conv=>whnf
 have hn : n.natAbs<256 ^ 8:=by omega
 have hc:=zkm b (decide (n<0)) l (bytes n.natAbs) hl (Nat.le_trans (za8 hn) (by decide))
 rw [zal,sg_z] at hc
 refine zad.fn hc rfl ?_
 conv=>whnf
 refine zaa ?_
 have : (cmpZ (sg b (nat l)) n==0)=decide (sg b (nat l)=n):=by
  by_cases h : sg b (nat l)=n
  ·rw [decide_eq_true h,(zoI).2 h]; rfl
  ·rw [decide_eq_false h]
   cases h3 : (cmpZ (sg b (nat l)) n==0) with
   | true=>exact absurd (zoI.1 (eq_of_beq h3)) h
   | false=>rfl
 rw [this]
def Raw.den1 (r : Raw) : List UInt8:=if nat r.den=0 then bytes 1 else r.den
theorem Raw.nat_den1 (r : Raw) : nat r.den1=r.d:=by
 unfold Raw.den1 Raw.d dnm
 split
 ·rw [zal]
 ·rfl
theorem Raw.den1_len {r : Raw} {k : Nat} (hk : 1≤k) (h : r.den.length≤k) : r.den1.length≤k:=by
 unfold Raw.den1
 split
 ·exact Nat.le_trans (za8 (k:=1) (by decide)) hk
 ·exact h
theorem c_of (r : Raw) (h : r.sm 10000000000) : Fn PP zln [rawV r] (zkh r.neg (bs r.num) false (bs r.den1)):=by
 refine Fn.of zab mixed zq4 rfl rfl (Nat.le_of_ble_eq_true rfl) ?_
 intro w
 conv=>whnf
 refine zaj.quiet (by kernel_rfl) ?_
 conv=>whnf
 refine zad.fn (zrL r.neg (bs r.num)) rfl ?_
 conv=>whnf
 refine zad.fn (zrL false (bs r.den)) rfl ?_
 conv=>whnf
 refine zac.fn (c_is false r.den 0 h.2 (by decide) (by decide)) rfl ?_
 by_cases hd : nat r.den=0
 ·rw [decide_eq_true (show sg false (nat r.den)=0 by rw [hd]; rfl)]
  conv=>whnf
  refine zac.fn (c_Of 1 (by decide) (by decide)) rfl ?_
  conv=>whnf
  refine zaa ?_
  rw [Raw.den1,if_pos hd]; rfl
 ·rw [decide_eq_false (show ¬sg false (nat r.den)=0 by simp [sg]; exact hd)]
  conv=>whnf
  refine zaa ?_
  rw [Raw.den1,if_neg hd]
end Go.Sx
end
section
set_option maxRecDepth 10000
set_option maxHeartbeats 2000000
namespace Go.Sx
open Go Go.Proofs
theorem zzj {N : Int} {M : Nat} (hM : 0<M) : (mkRat N M).num=N.fdiv ((Nat.gcd N.natAbs M : Nat) : Int):=by
 rw [Rat.num_mkRat,if_neg (by omega),Nat.gcd_comm M,Int.fdiv_eq_ediv_of_nonneg _ (by omega)]
theorem zzr {N : Int} {M : Nat} (hM : 0<M) : ((mkRat N M).den : Int)=((M : Nat) : Int).fdiv ((Nat.gcd N.natAbs M : Nat) : Int):=by
 rw [Rat.den_mkRat,if_neg (by omega),Nat.gcd_comm M,Int.fdiv_eq_ediv_of_nonneg _ (by omega)]; rfl
theorem zep (l : List UInt8) : (bytes (nat l)).length≤l.length:=za8 (zdx l)
theorem ztD (a : Bool) (l m : List UInt8) (hl : l.length≤1000000000) (hm : m.length≤1000000000) (h0 : 0<nat m) : Fn PP za3 [zkh a (bs l) false (bs m)] (qV (mkRat (sg a (nat l)) (nat m))):=by
 refine Fn.of zab mixed zeT rfl rfl (Nat.le_of_ble_eq_true rfl) ?_
 intro w
 obtain ⟨N,hN⟩ : ∃ N,N=sg a (nat l):=⟨_,rfl⟩
 have hNa : N.natAbs=nat l:=by rw [hN,za4]
 conv=>whnf
 refine zac.fn (c_is a l 0 (by omega) (by decide) (by decide)) rfl ?_
 rw [←hN]
 by_cases hz : N=0
 ·rw [decide_eq_true hz]
  conv=>whnf
  refine zaa ?_
  rw [hz,Rat.zero_mkRat,qV,zhg]; rfl
 ·rw [decide_eq_false hz]
  conv=>whnf
  refine zac.fn (zCC a false l m (by omega) (by omega)) rfl ?_
  conv=>whnf
  obtain ⟨G,hG⟩ : ∃ G,G=Nat.gcd (nat l) (nat m):=⟨_,rfl⟩
  rw [←hG]
  have hGp : 0<G:=by rw [hG]; exact Nat.gcd_pos_of_pos_right _ h0
  have hGl : (bytes ((G : Int)).natAbs).length≤1000000000:=by
   rw [Int.natAbs_natCast]
   refine Nat.le_trans (za8 (k:=m.length) ?_) hm
   exact Nat.lt_of_le_of_lt (by rw [hG]; exact Nat.gcd_le_right _ h0) (zdx m)
  have hd1:=zB5 a (decide ((G : Int)<0)) l (bytes ((G : Int)).natAbs) hl hGl
  rw [zal,sg_z,if_neg (by omega),←hN] at hd1
  refine zac.fn hd1 rfl ?_
  conv=>whnf
  have hd2:=zB5 false (decide ((G : Int)<0)) m (bytes ((G : Int)).natAbs) hm hGl
  rw [zal,sg_z,if_neg (by omega)] at hd2
  refine zac.fn hd2 rfl ?_
  conv=>whnf
  have hnum : (mkRat N (nat m)).num=N.fdiv (G : Int):=by rw [zzj h0,hNa,←hG]
  have hden : ((mkRat N (nat m)).den : Int)=(sg false (nat m)).fdiv (G : Int):=by rw [zzr h0,hNa,←hG]; rfl
  rw [←hden]
  have hdl : (bytes (((mkRat N (nat m)).den : Int)).natAbs).length≤1000000000:=by
   rw [Int.natAbs_natCast]
   refine Nat.le_trans (za8 (k:=m.length) ?_) hm
   rw [Rat.den_mkRat,if_neg (by omega)]
   exact Nat.lt_of_le_of_lt (Nat.div_le_self _ _) (zdx m)
  have hi:=c_is (decide (((mkRat N (nat m)).den : Int)<0)) (bytes (((mkRat N (nat m)).den : Int)).natAbs) 1 (by omega) (by decide) (by decide)
  rw [zal,sg_z] at hi
  refine zac.fn hi rfl ?_
  have hres : ∀ d : List UInt8,d=(if (mkRat N (nat m)).den=1 then [] else bytes (mkRat N (nat m)).den)→(Value.agg ⟨[.bool (decide (N.fdiv (G : Int)<0)),.string (bs (bytes (N.fdiv (G : Int)).natAbs)),.string (bs d)]⟩)=qV (mkRat N (nat m)):=by
   intro d hd
   rw [hd]
   simp only [qV,rawV,Q,hnum]
   have : decide (N.fdiv (G : Int)<0)=decide (mkRat N (nat m)<0):=by
    rw [←hnum]; simp only [zey]
   rw [this]
  by_cases h1 : (mkRat N (nat m)).den=1
  ·rw [decide_eq_true (show ((mkRat N (nat m)).den : Int)=1 by omega)]
   conv=>whnf
   refine zaa ?_
   exact hres [] (by rw [if_pos h1])
  ·rw [decide_eq_false (show ¬((mkRat N (nat m)).den : Int)=1 by omega)]
   conv=>whnf
   refine zaa ?_
   exact hres _ (by rw [if_neg h1,Int.natAbs_natCast])
end Go.Sx
end
section
set_option maxRecDepth 10000
set_option maxHeartbeats 2000000
namespace Go.Sx
open Go Go.Proofs
theorem zuC (l : List UInt8) (h1 : l.length≤7) : Fn PP zfU [.string (bs l)] (.int .i64 (nat l)):=by
 refine Fn.of zab mixed zlz rfl rfl (Nat.le_of_ble_eq_true rfl) ?_
 intro w
 conv=>whnf
 refine zak (ι:=Nat) (fun i=>⟨[(0,.o (.v (.string (bs l)))),(3,.o (.v (.int .i64 (nat (l.take i))))),(6,.o (.v (.int .i64 l.length))),(7,.o (.v (.int .i64 i)))],[],[]⟩)
  (fun i=>i≤l.length) (fun i=>l.length-i) 0 (Nat.zero_le _) (SLe.id ⟨rfl,rfl,rfl,rfl,trivial⟩ trivial (fun R hR=>hR)) ?_
 intro i hi
 conv=>whnf
 refine zah ?_ ?_
 ·intro h2
  have hi2 : i<l.length:=by
   have : (i : Int)<(l.length : Int):=of_decide_eq_true h2
   omega
  conv=>whnf
  refine ⟨by decide,?_⟩
  conv=>whnf
  refine ⟨⟨by omega,by show (i : Int)<(l.length : Int); omega⟩,?_⟩
  conv=>whnf
  obtain ⟨x,hx⟩ : ∃ x,x=l[i]:=⟨_,rfl⟩
  have hg : l.getD i 0=x:=by rw [hx,List.getD_eq_getElem?_getD,List.getElem?_eq_getElem hi2]; rfl
  have htk : l.take (i+1)=l.take i++[x]:=by rw [List.take_succ_eq_append_getElem hi2,hx]
  have hnat : nat (l.take (i+1))=x.toNat+256*nat (l.take i):=by rw [htk,zgg]
  have hnb : nat (l.take i)<256 ^ 6:=za2 (by rw [List.length_take]; omega)
  have hxb : x.toNat<256:=x.toBitVec.isLt
  have hor : IntKind.i64.wrap (BitVec.toNat (w:=64) (BitVec.ofInt 64 (IntKind.i64.wrap ((nat (l.take i) : Int)*2 ^ min (8 : Int).toNat IntKind.i64.bits)) ||| BitVec.ofInt 64 (IntKind.i64.wrap (sb (bs l) (i : Int)))) : Int)=(nat (l.take (i+1)) : Int):=by
   have e1 : IntKind.i64.wrap ((nat (l.take i) : Int)*2 ^ min (8 : Int).toNat IntKind.i64.bits)=((nat (l.take i)*2 ^ 8 : Nat) : Int):=by
    rw [show min (8 : Int).toNat IntKind.i64.bits=8 from rfl,wrap_i64 (by omega) (by omega)]; omega
   have e2 : IntKind.i64.wrap (sb (bs l) (i : Int))=(x.toNat : Int):=by
    rw [zm9,Int.toNat_natCast,hg,wrap_i64 (by omega) (by omega)]
   rw [e1,e2,BitVec.toNat_or,zaM (by omega),zaM (by omega),Nat.mul_comm,←Nat.two_pow_add_eq_or_of_lt (show x.toNat<2 ^ 8 by omega),hnat]
   rw [wrap_i64 (by omega) (by omega)]; omega
  refine ⟨i+1,by omega,by omega,SLe.id ⟨rfl,?_,rfl,?_,trivial⟩ trivial (fun R hR=>hR)⟩
  ·show some (SV.o (.v (.int .i64 (IntKind.i64.wrap (BitVec.toNat (w:=64) (BitVec.ofInt 64 _ ||| BitVec.ofInt 64 _) : Int)))))=some (SV.o (.v (.int .i64 (nat (l.take (i+1)) : Int))))
   rw [hor]
  ·show some (SV.o (.v (.int _ (IntKind.i64.wrap ((i : Int)+1)))))=some (SV.o (.v (.int _ ((i+1 : Nat) : Int))))
   rw [wrap_i64 (by omega) (by omega)]; rfl
 ·intro h2
  have hi2 : i=l.length:=by
   have : ¬(i : Int)<(l.length : Int):=of_decide_eq_false h2
   omega
  subst hi2
  rw [List.take_length]
  conv=>whnf
  exact zaa rfl
def mach (r : Raw) : Value:=if r.num.length≤3∧r.den.length≤3 then .tuple #[.int .i64 r.n,.int .i64 (r.d : Int),.bool true] else .tuple #[.int .i64 0,.int .i64 0,.bool false]
theorem zfD (r : Raw) : Fn PP zff [rawV r] (mach r):=by
 refine Fn.of zab mixed zke rfl rfl (Nat.le_of_ble_eq_true rfl) ?_
 intro w
 have fin : r.num.length≤3→r.den.length≤3→mach r=.tuple #[.int .i64 r.n,.int .i64 (r.d : Int),.bool true]:=fun h1 h2=>by rw [mach,if_pos ⟨h1,h2⟩]
 have hmax : (if (1 : Int)>((nat r.den : Nat) : Int) then (1 : Int) else ((nat r.den : Nat) : Int))=(r.d : Int):=by
  unfold Raw.d dnm
  by_cases h : nat r.den=0
  ·rw [if_pos h,if_pos (by omega)]; rfl
  ·rw [if_neg h,if_neg (by omega)]
 conv=>whnf
 refine zah ?_ ?_
 ·intro h
  have h1 : ¬r.num.length≤3:=by
   have : ((r.num.length : Nat) : Int)>3:=of_decide_eq_true h
   omega
  conv=>whnf
  refine zam ?_
  rw [mach,if_neg (fun h=>h1 h.1)]
 ·intro h
  have h1 : r.num.length≤3:=by
   have : ¬((r.num.length : Nat) : Int)>3:=of_decide_eq_false h
   omega
  conv=>whnf
  refine zah ?_ ?_
  ·intro h
   have h2 : ¬r.den.length≤3:=by
    have : ((r.den.length : Nat) : Int)>3:=of_decide_eq_true h
    omega
   conv=>whnf
   refine zam ?_
   rw [mach,if_neg (fun h=>h2 h.2)]
  ·intro h
   have h2 : r.den.length≤3:=by
    have : ¬((r.den.length : Nat) : Int)>3:=of_decide_eq_false h
    omega
   have hnb : nat r.num<16777216:=za2 h1
   rw [fin h1 h2]
   conv=>whnf
   refine zaj.quiet (by kernel_rfl) ?_
   conv=>whnf
   refine zad.fn (zuC r.num (by omega)) rfl ?_
   conv=>whnf
   refine zad.fn (zuC r.den (by omega)) rfl ?_
   obtain ⟨neg,num,den⟩:=r
   cases neg with
   | false =>
    conv=>whnf
    refine zam ?_
    show Value.tuple #[.int .i64 (nat num : Int),.int .i64 (if (1 : Int)>((nat den : Nat) : Int) then (1 : Int) else ((nat den : Nat) : Int)),.bool true]=_
    rw [hmax]; rfl
   | true =>
    conv=>whnf
    refine zam ?_
    show Value.tuple #[.int .i64 (IntKind.i64.wrap (0-(nat num : Int))),.int .i64 (if (1 : Int)>((nat den : Nat) : Int) then (1 : Int) else ((nat den : Nat) : Int)),.bool true]=_
    simp only at hnb
    rw [hmax,wrap_i64 (by omega) (by omega),Int.zero_sub]; rfl
theorem zh2 {n : Nat} (h : 0<n) : bytes n=bytes (n/256)++[UInt8.ofNat (n%256)]:=by
 unfold bytes
 rw [zgj (by decide) h]; simp
theorem zzB (n : Nat) (hn : n<9223372036854775808) : Fn PP zhQ [.int .i64 n] (.string (bs (bytes n))):=by
 refine Fn.of zab mixed znV rfl rfl (Nat.le_of_ble_eq_true rfl) ?_
 intro w
 conv=>whnf
 refine zak (ι:=Nat×Nat×List UInt8) (fun ⟨i,c,L⟩=>⟨[(0,.o (.v (.int .i64 c))),(3,.o (.p 3 0)),(4,.o (.v (.int .i64 i)))],[(3,.sym (rowV u8c (List.replicate i 0++L)) zoc)],[]⟩)
  (fun ⟨i,c,L⟩=>i+L.length=8∧c<256 ^ i∧bytes n=bytes c++L) (fun ⟨i,c,L⟩=>c) (8,n,[]) ⟨rfl,by omega,by simp⟩ (SLe.id ⟨rfl,rfl,rfl,trivial⟩ ⟨⟨_,rfl,.sym _ rfl⟩,trivial⟩ (fun R hR=>hR)) ?_
 rintro ⟨i,c,L⟩ ⟨hL,hc,hb⟩
 conv=>whnf
 refine zah ?_ ?_
 ·intro h
  have hc0 : 0<c:=by
   have : (c : Int)>0:=of_decide_eq_true h
   omega
  conv=>whnf
  have hi0 : 0<i:=by
   rcases Nat.eq_zero_or_pos i with h2 | h2
   ·rw [h2] at hc; omega
   ·exact h2
  obtain ⟨j,rfl⟩ : ∃ j,i=j+1:=⟨i-1,by omega⟩
  have hij : IntKind.i64.wrap (((j+1 : Nat) : Int)-1)=(j : Int):=by rw [wrap_i64 (by omega) (by omega)]; omega
  refine ⟨by rw [hij]; show 0≤(j : Int)∧(j : Int)<((8 : Nat) : Int); omega,?_⟩
  conv=>whnf
  refine ⟨by rw [hij,zag zbA]; show 0+j*1+1≤_; simp,?_⟩
  conv=>whnf
  refine ⟨by decide,?_⟩
  conv=>whnf
  have hcn : c≤n∨n<c:=by omega
  have hcb : c<9223372036854775808:=by
   have h8 : (256 : Nat) ^ (j+1)≤256 ^ 8:=Nat.pow_le_pow_right (by decide) (by omega)
   have hcm : nat (bytes c)≤nat (bytes n):=by
    rw [hb,zmc]
    have : nat (bytes c)*1≤nat (bytes c)*256 ^ L.length:=Nat.mul_le_mul_left _ (Nat.pow_pos (by decide))
    omega
   rw [zal,zal] at hcm
   omega
  refine ⟨(j,c/256,UInt8.ofNat (c%256)::L),⟨by simp; omega,?_,?_⟩,by show c/256<c; omega,SLe.id ⟨?_,rfl,?_,trivial⟩ ⟨⟨_,rfl,?_⟩,trivial⟩ (fun R hR=>hR)⟩
  ·show c/256<256 ^ j
   rw [Nat.pow_succ] at hc; omega
  ·rw [hb,zh2 hc0]; simp
  ·show some (SV.o (.v (.int .i64 (Int.fdiv (c : Int) (2 ^ min (8 : Int).toNat IntKind.i64.bits)))))=some (SV.o (.v (.int .i64 ((c/256 : Nat) : Int))))
   rw [show min (8 : Int).toNat IntKind.i64.bits=8 from rfl,Int.fdiv_eq_ediv_of_nonneg _ (by decide)]; rfl
  ·show some (SV.o (.v (.int .i64 (IntKind.i64.wrap (((j+1 : Nat) : Int)-1)))))=some (SV.o (.v (.int .i64 (j : Int))))
   rw [hij]
  ·show MEle (ME.sym (putN (0+(IntKind.i64.wrap (((j+1 : Nat) : Int)-1)).toNat*1) [Value.int .u8 (IntKind.u8.wrap (c : Int))] (rowV u8c (List.replicate (j+1) 0++L))) _) (ME.sym (rowV u8c (List.replicate j 0++(UInt8.ofNat (c%256)::L))) _)
   have hw : IntKind.u8.wrap (c : Int)=((UInt8.ofNat (c%256)).toNat : Int):=by
    rw [IntKind.wrap_u8]
    have : (UInt8.ofNat (c%256)).toNat=c%256:=by simp
    rw [this]; omega
   have hput:=zci (f:=u8c) zbA (k:=j) (l:=List.replicate (j+1) 0++L) (UInt8.ofNat (c%256)) (by simp; omega)
   have hset : (List.replicate (j+1) 0++L).set j (UInt8.ofNat (c%256))=List.replicate j 0++(UInt8.ofNat (c%256)::L):=by
    rw [List.replicate_succ',List.append_assoc,List.set_append_right _ _ (by simp)]
    simp
   rw [hset] at hput
   rw [hij,hw,Int.toNat_natCast,Nat.zero_add,←hput]
   exact .refl _
 ·intro h
  have hc0 : c=0:=by
   have : ¬(c : Int)>0:=of_decide_eq_false h
   omega
  subst hc0
  rw [zaL,List.nil_append] at hb
  conv=>whnf
  refine ⟨by show 0≤(i : Int)∧(i : Int)≤((8 : Nat) : Int)∧((8 : Nat) : Int)≤((8 : Nat) : Int); omega,?_⟩
  conv=>whnf
  have hdrop : ((rowV u8c (List.replicate i 0++L)).drop (bif Nat.beq 8 ((i : Int).toNat) then 0 else 0+(i : Int).toNat*1)).take (((8 : Nat) : Int).toNat-(i : Int).toNat)=bytV L:=by
   rw [Int.toNat_natCast,Int.toNat_natCast]
   cases hb8 : Nat.beq 8 i with
   | true =>
    have h8:=Nat.eq_of_beq_eq_true hb8
    have hL0 : L=[]:=List.length_eq_zero_iff.1 (by omega)
    rw [hL0,←h8]; rfl
   | false =>
    rw [cond_false,Nat.zero_add,zfR zbA]
    have : (List.replicate i 0++L).drop i=L:=by
     have:=List.drop_left (l₁:=List.replicate i (0 : UInt8)) (l₂:=L)
     rwa [List.length_replicate] at this
    rw [this,zf5,show 8-i=L.length by omega]
    have : (bytV L).length=L.length:=by simp [bytV]
    rw [←this,List.take_length]
  refine ⟨L,by rw [Int.toNat_natCast,Int.toNat_natCast]; omega,hdrop,?_⟩
  conv=>whnf
  refine zaa ?_
  rw [hb]; rfl
theorem ztS {n : Int} (h : n.natAbs<4611686018427387904) : (if IntKind.i64.wrap (0-n)>n then IntKind.i64.wrap (0-n) else n)=(n.natAbs : Int):=by
 rw [wrap_i64 (by omega) (by omega)]
 by_cases h : 0-n>n
 ·rw [if_pos h]; omega
 ·rw [if_neg h]; omega
theorem zwN (n d : Int) (hn : n.natAbs<4611686018427387904) (hd0 : 0<d) (hd : d<4611686018427387904) : Fn PP zgx [.int .i64 n,.int .i64 d] (qV (mkRat n d.natAbs)):=by
 refine Fn.of zab mixed zm1 rfl rfl (Nat.le_of_ble_eq_true rfl) ?_
 intro w
 conv=>whnf
 refine zak (ι:=Int×Int) (fun ⟨a,b⟩=>⟨[(0,.o (.v (.int .i64 n))),(1,.o (.v (.int .i64 d))),(4,.o (.p 4 0)),(5,.o (.v (.int .i64 a))),(6,.o (.v (.int .i64 b)))],[(4,.box [.v (.bool false),.v (.string ⟨#[]⟩),.v (.string ⟨#[]⟩)] zaq)],[]⟩)
  (fun ⟨a,b⟩=>Nat.gcd a.natAbs b.natAbs=Nat.gcd n.natAbs d.natAbs∧a.natAbs<4611686018427387904∧b.natAbs<4611686018427387904) (fun ⟨a,b⟩=>b.natAbs) (n,d) ⟨rfl,hn,by omega⟩ (SLe.id ⟨rfl,rfl,rfl,rfl,rfl,trivial⟩ ⟨⟨_,rfl,.refl _⟩,trivial⟩ (fun R hR=>hR)) ?_
 rintro ⟨a,b⟩ ⟨hg,ha,hb⟩
 conv=>whnf
 refine zah ?_ ?_
 ·intro h
  have hb0 : b≠0:=by intro h0; rw [h0] at h; exact absurd h (by decide)
  conv=>whnf
  refine zaj.quiet (by kernel_rfl) ?_
  conv=>whnf
  refine ⟨hb0,?_⟩
  conv=>whnf
  have hm : (a.tmod b).natAbs=a.natAbs%b.natAbs:=Int.natAbs_tmod a b
  have hlt : a.natAbs%b.natAbs<b.natAbs:=Nat.mod_lt _ (by omega)
  refine ⟨(b,a.tmod b),⟨by rw [hm,←hg,Nat.gcd_comm a.natAbs,Nat.gcd_rec b.natAbs a.natAbs,Nat.gcd_comm],hb,by omega⟩,by show (a.tmod b).natAbs<b.natAbs; omega,SLe.id ⟨rfl,rfl,rfl,rfl,?_,trivial⟩ ⟨⟨_,rfl,.refl _⟩,trivial⟩ (fun R hR=>hR)⟩
  show some (SV.o (.v (.int .i64 (Int.tmod a b))))=some (SV.o (.v (.int .i64 (a.tmod b))))
  rfl
 ·intro h
  have hb0 : b=0:=by
   by_cases h0 : b=0
   ·exact h0
   ·simp at h; exact absurd h h0
  subst hb0
  rw [Int.natAbs_zero,Nat.gcd_zero_right] at hg
  have hd1 : d.natAbs≠0:=by omega
  have hG : a.natAbs=Nat.gcd d.natAbs n.natAbs:=by rw [hg,Nat.gcd_comm]
  have hGp : 0<a.natAbs:=by rw [hG]; exact Nat.gcd_pos_of_pos_left _ (by omega)
  have hwa:=ztS ha
  have hwn:=ztS hn
  conv=>whnf
  refine zah ?_ ?_
  ·intro h0
   have hn0 : n=0:=eq_of_beq h0
   conv=>whnf
   refine zaa ?_
   rw [hn0,Rat.zero_mkRat,qV,zhg]; rfl
  ·intro h0
   have hn0 : n≠0:=ne_of_beq_false h0
   conv=>whnf
   rw [hwa]
   refine ⟨by omega,?_⟩
   conv=>whnf
   have hnum : (mkRat n d.natAbs).num.natAbs=n.natAbs/a.natAbs:=by
    rw [Rat.num_mkRat,if_neg hd1,hG,Int.natAbs_ediv_of_dvd (Int.ofNat_dvd_left.2 (Nat.gcd_dvd_right _ _)),Int.natAbs_natCast]
   have hden : (mkRat n d.natAbs).den=d.natAbs/a.natAbs:=by rw [Rat.den_mkRat,if_neg hd1,hG]
   have hneg : decide (n<0)=decide (mkRat n d.natAbs<0):=by
    have : (mkRat n d.natAbs).num<0↔n<0:=by
     rw [Rat.num_mkRat,if_neg hd1,←hG]
     obtain ⟨c,hc⟩ : ((a.natAbs : Nat) : Int) ∣ n:=by rw [hG]; exact Int.ofNat_dvd_left.2 (Nat.gcd_dvd_right _ _)
     rw [hc,Int.mul_ediv_cancel_left _ (by omega)]
     constructor
     ·intro h; exact Int.mul_neg_of_pos_of_neg (by omega) h
     ·intro h
      rcases Int.lt_or_le c 0 with h2 | h2
      ·exact h2
      ·have:=Int.mul_nonneg (show 0≤((a.natAbs : Nat) : Int) by omega) h2
       omega
    exact decide_eq_decide.2 (this.symm.trans zey)
   have hq1 : Int.tdiv (n.natAbs : Int) (a.natAbs : Int)=((n.natAbs/a.natAbs : Nat) : Int):=by rw [Int.tdiv_eq_ediv_of_nonneg (by omega)]; rfl
   have hq2 : Int.tdiv d (a.natAbs : Int)=((d.natAbs/a.natAbs : Nat) : Int):=by
    rw [Int.tdiv_eq_ediv_of_nonneg (by omega)]
    conv=>lhs; rw [show d=((d.natAbs : Nat) : Int) by omega]
    rfl
   have hle1 : n.natAbs/a.natAbs≤n.natAbs:=Nat.div_le_self _ _
   have hle2 : d.natAbs/a.natAbs≤d.natAbs:=Nat.div_le_self _ _
   have hv1 : IntKind.i64.wrap (Int.tdiv (if IntKind.i64.wrap (0-n)>n then IntKind.i64.wrap (0-n) else n) (a.natAbs : Int))=((n.natAbs/a.natAbs : Nat) : Int):=by
    rw [hwn,hq1,wrap_i64 (by omega) (by omega)]
   have hv2 : IntKind.i64.wrap (Int.tdiv d (a.natAbs : Int))=((d.natAbs/a.natAbs : Nat) : Int):=by
    rw [hq2,wrap_i64 (by omega) (by omega)]
   refine zac.fn (zzB (n.natAbs/a.natAbs) (by omega)) (congrArg (fun z=>[SV.o (.v (.int .i64 z))]) hv1) ?_
   have hres : ∀ D : List UInt8,D=(if (mkRat n d.natAbs).den=1 then [] else bytes (mkRat n d.natAbs).den)→(Value.agg ⟨[.bool (decide (n<0)),.string (bs (bytes (n.natAbs/a.natAbs))),.string (bs D)]⟩)=qV (mkRat n d.natAbs):=by
    intro D hD
    rw [hD]
    simp only [qV,rawV,Q,hnum,hneg]
   have hone : (mkRat n d.natAbs).den=1↔d=(a.natAbs : Int):=by
    rw [hden]
    obtain ⟨c,hc⟩ : a.natAbs ∣ d.natAbs:=by rw [hG]; exact Nat.gcd_dvd_left _ _
    rw [hc,Nat.mul_div_cancel_left _ hGp]
    constructor
    ·intro h; rw [h,Nat.mul_one] at hc; omega
    ·intro h
     have h3 : d.natAbs=a.natAbs:=by omega
     rw [h3] at hc
     have : a.natAbs*1=a.natAbs*c:=by omega
     exact (Nat.eq_of_mul_eq_mul_left hGp this).symm
   conv=>whnf
   refine zah ?_ ?_
   ·intro h3
    have h4 : ¬(mkRat n d.natAbs).den=1:=by
     rw [hone]; intro h5; rw [←h5] at h3; simp at h3
    conv=>whnf
    refine ⟨by omega,?_⟩
    conv=>whnf
    refine zac.fn (zzB (d.natAbs/a.natAbs) (by omega)) (congrArg (fun z=>[SV.o (.v (.int .i64 z))]) hv2) ?_
    conv=>whnf
    refine zaa ?_
    exact hres _ (by rw [if_neg h4,hden])
   ·intro h3
    have h4 : (mkRat n d.natAbs).den=1:=by
     rw [hone]
     by_cases h5 : d=(a.natAbs : Int)
     ·exact h5
     ·simp [h5] at h3
    conv=>whnf
    refine zaa ?_
    exact hres [] (by rw [if_pos h4])
end Go.Sx
end
section
namespace Go.Sx
def cmpQ (x y : Rat) : Int:=if x<y then -1 else if y<x then 1 else 0
structure V where
 x : Rat
 y : Rat
deriving DecidableEq
instance : Add V:=⟨fun a b=>⟨a.x+b.x,a.y+b.y⟩⟩
instance : Sub V:=⟨fun a b=>⟨a.x-b.x,a.y-b.y⟩⟩
def V.scale (a : V) (t : Rat) : V:=⟨a.x*t,a.y*t⟩
def V.cross (a b : V) : Rat:=a.x*b.y-a.y*b.x
def V.at (a b : V) (t : Rat) : V:=a+(b-a).scale t
def cmpV (a b : V) : Int:=if cmpQ a.x b.x≠0 then cmpQ a.x b.x else cmpQ a.y b.y
@[simp] theorem V.add_x (a b : V) : (a+b).x=a.x+b.x:=rfl
@[simp] theorem V.add_y (a b : V) : (a+b).y=a.y+b.y:=rfl
@[simp] theorem V.sub_x (a b : V) : (a-b).x=a.x-b.x:=rfl
@[simp] theorem V.sub_y (a b : V) : (a-b).y=a.y-b.y:=rfl
def zAP (a b p : V) : Bool:=decide (cmpQ ((b-a).cross (p-a)) 0=0)&&(decide (0≤cmpV a p*cmpV p b)&&(decide (cmpV a b≠0)||decide (cmpV a p=0)))
def zgb (t : Rat) : Bool:=decide (0≤cmpQ t 0)&&decide (cmpQ t 1≤0)
def ordV (a b : V) : V×V:=if cmpV a b>0 then (b,a) else (a,b)
def gtV (p q : V) : V:=if cmpV p q<0 then q else p
def ltV (p q : V) : V:=if cmpV p q<0 then p else q
def zbX (a b c d : V) : Option (V×V) :=
 if cmpQ ((b-a).cross (d-c)) 0≠0 then
  if !zgb ((c-a).cross (d-c)/(b-a).cross (d-c))||!zgb ((c-a).cross (b-a)/(b-a).cross (d-c)) then none
  else some (a.at b ((c-a).cross (d-c)/(b-a).cross (d-c)),a.at b ((c-a).cross (d-c)/(b-a).cross (d-c)))
 else if cmpQ ((b-a).cross (c-a)) 0≠0 then none
 else if cmpV (gtV (ordV a b).1 (ordV c d).1) (ltV (ordV a b).2 (ordV c d).2)>0 then none
 else some (gtV (ordV a b).1 (ordV c d).1,ltV (ordV a b).2 (ordV c d).2)
end Go.Sx
end
section
set_option maxRecDepth 10000
set_option maxHeartbeats 2000000
namespace Go.Sx
open Go Go.Proofs
abbrev KK : Nat:=100000000
theorem zy8 {n : Int} {d : Nat} (hd : 0<d) : mkRat n d<0↔n<0:=by
 rw [←zey,Rat.num_mkRat,if_neg (by omega)]
 have hg : 0<d.gcd n.natAbs:=Nat.gcd_pos_of_pos_left _ hd
 obtain ⟨c,hc⟩ : ((d.gcd n.natAbs : Nat) : Int) ∣ n:=Int.ofNat_dvd_left.2 (Nat.gcd_dvd_right _ _)
 generalize d.gcd n.natAbs=g at *
 rw [hc,Int.mul_ediv_cancel_left _ (by omega)]
 constructor
 ·intro h; exact Int.mul_neg_of_pos_of_neg (by omega) h
 ·intro h
  rcases Int.lt_or_le c 0 with h2 | h2
  ·exact h2
  ·have:=Int.mul_nonneg (show 0≤(g : Int) by omega) h2
   omega
theorem zBQ {a b : Int} {c d : Nat} (hc : 0<c) (hd : 0<d) : mkRat a c<mkRat b d↔a*d<b*c:=by
 have h1 : mkRat a c<mkRat b d↔mkRat a c-mkRat b d<0:=by
  rw [Rat.lt_iff_sub_pos,Rat.lt_iff_sub_pos (mkRat a c-mkRat b d)]
  have : 0-(mkRat a c-mkRat b d)=mkRat b d-mkRat a c:=by grind
  rw [this]
 rw [h1,Rat.sub_eq_add_neg,Rat.neg_mkRat,Rat.mkRat_add_mkRat _ _ (by omega) (by omega),zy8 (Nat.mul_pos hc hd),Int.neg_mul]
 omega
theorem zkZ (r s : Raw) : cmpQ r.v s.v=cmpZ (r.n*s.d) (s.n*r.d):=by
 unfold cmpQ cmpZ Raw.v
 simp only [zBQ r.d_pos s.d_pos,zBQ s.d_pos r.d_pos]
theorem zhv (N M : Int) (hN : (bytes N.natAbs).length≤1000000000) (hM : (bytes M.natAbs).length≤1000000000) (h0 : 0<M) : Fn PP za3 [zkh (decide (N<0)) (bs (bytes N.natAbs)) (decide (M<0)) (bs (bytes M.natAbs))] (qV (mkRat N M.natAbs)):=by
 rw [decide_eq_false (show ¬M<0 by omega)]
 have:=ztD (decide (N<0)) (bytes N.natAbs) (bytes M.natAbs) hN hM (by rw [zal]; omega)
 rw [zal,zal,sg_z] at this
 exact this
theorem zBL (x y : Int) (hx : (bytes x.natAbs).length≤10000000000) (hy : (bytes y.natAbs).length≤10000000000) : Fn PP zhl [zV x,zV y] (zV (x+y)):=by
 have:=zAp (decide (x<0)) (decide (y<0)) (bytes x.natAbs) (bytes y.natAbs) hx hy
 rw [zal,zal,sg_z,sg_z] at this
 exact this
theorem zu7 (x y : Int) (hx : (bytes x.natAbs).length≤10000000000) (hy : (bytes y.natAbs).length≤10000000000) : Fn PP zdU [zV x,zV y] (.int .i64 (cmpZ x y)):=by
 have:=zkm (decide (x<0)) (decide (y<0)) (bytes x.natAbs) (bytes y.natAbs) hx hy
 rw [zal,zal,sg_z,sg_z] at this
 exact this
def zl (x : Int) : Nat:=(bytes x.natAbs).length
theorem zit {x : Int} {k : Nat} (h : x.natAbs<256 ^ k) : zl x≤k:=za8 h
theorem zc8 {x y : Int} {k m : Nat} (hx : x.natAbs<256 ^ k) (hy : y.natAbs<256 ^ m) : (x*y).natAbs<256 ^ (k+m):=by
 rw [Int.natAbs_mul]; exact zbT hx hy
theorem ztM {x y : Int} {k : Nat} (hx : x.natAbs<256 ^ k) (hy : y.natAbs<256 ^ k) : (x+y).natAbs<256 ^ (k+1):=by
 have:=Int.natAbs_add_le x y
 rw [Nat.pow_succ]; omega
theorem Raw.dz {r : Raw} : sg false (nat r.den1)=(r.d : Int):=by rw [Raw.nat_den1]; rfl
section
variable {r s : Raw} (hr : r.sm KK) (hs : s.sm KK)
include hr
theorem zda : r.n.natAbs<256 ^ KK:=by rw [Raw.n,za4]; exact za2 hr.1
theorem zdK : ((r.d : Int)).natAbs<256 ^ KK:=by
 rw [Int.natAbs_natCast,←Raw.nat_den1]; exact za2 (Raw.den1_len (by decide) hr.2)
theorem zxv (hs : s.sm KK) : Fn PP zcS [intV r.neg (bs r.num),intV false (bs s.den1)] (zV (r.n*s.d)):=by
 have:=zyb r.neg false r.num s.den1 (Nat.le_trans hr.1 (by decide)) (Nat.le_trans (Raw.den1_len (by decide) hs.2) (by decide))
 rw [Raw.dz] at this; exact this
theorem zBt (hs : s.sm KK) : Fn PP zcS [intV false (bs r.den1),intV false (bs s.den1)] (zV ((r.d : Int)*s.d)):=by
 have:=zyb false false r.den1 s.den1 (Nat.le_trans (Raw.den1_len (by decide) hr.2) (by decide)) (Nat.le_trans (Raw.den1_len (by decide) hs.2) (by decide))
 rw [Raw.dz,Raw.dz] at this; exact this
theorem zCN (hs : s.sm KK) : Fn PP zcS [intV r.neg (bs r.num),intV s.neg (bs s.num)] (zV (r.n*s.n)) :=
 zyb r.neg s.neg r.num s.num (Nat.le_trans hr.1 (by decide)) (Nat.le_trans hs.1 (by decide))
theorem zCz (hs : s.sm KK) : Fn PP zcS [intV false (bs r.den1),intV s.neg (bs s.num)] (zV ((r.d : Int)*s.n)):=by
 have:=zyb false s.neg r.den1 s.num (Nat.le_trans (Raw.den1_len (by decide) hr.2) (by decide)) (Nat.le_trans hs.1 (by decide))
 rw [Raw.dz] at this; exact this
end
abbrev fnV (f : FuncId) : Value:=.func (.func f) #[] #[]
theorem dpos (r s : Raw) : 0<(r.d : Int)*(s.d : Int):=Int.mul_pos (by have:=r.d_pos; omega) (by have:=s.d_pos; omega)
theorem dnat (r s : Raw) : ((r.d : Int)*(s.d : Int)).natAbs=r.d*s.d:=by rw [Int.natAbs_mul,Int.natAbs_natCast,Int.natAbs_natCast]
theorem zBz (r s : Raw) (hr : r.sm KK) (hs : s.sm KK) : Fn PP zdS [zkh r.neg (bs r.num) false (bs r.den1),zkh s.neg (bs s.num) false (bs s.den1)] (qV (r.v+s.v)):=by
 refine Fn.of zab mixed zmL rfl rfl (Nat.le_of_ble_eq_true rfl) ?_
 intro w
 have b1:=zc8 (zda hr) (zdK hs)
 have b2:=zc8 (zda hs) (zdK hr)
 have b3:=ztM b1 b2
 have b4:=zc8 (zdK hr) (zdK hs)
 conv=>whnf
 refine zaj.quiet (by kernel_rfl) ?_
 conv=>whnf
 refine zad.fn (zxv hr hs) rfl ?_
 conv=>whnf
 refine zad.fn (zxv hs hr) rfl ?_
 conv=>whnf
 refine zad.fn (zBL (r.n*s.d) (s.n*r.d) (Nat.le_trans (zit b1) (by decide)) (Nat.le_trans (zit b2) (by decide))) rfl ?_
 conv=>whnf
 refine zad.fn (zBt hr hs) rfl ?_
 conv=>whnf
 refine zad.fn (zhv (r.n*s.d+s.n*r.d) ((r.d : Int)*s.d) (Nat.le_trans (zit b3) (by decide)) (Nat.le_trans (zit b4) (by decide)) (dpos r s)) rfl ?_
 conv=>whnf
 refine zaa ?_
 rw [dnat,Raw.v,Raw.v,Rat.mkRat_add_mkRat _ _ r.d_ne s.d_ne]
theorem zB9 (r s : Raw) (hr : r.sm KK) (hs : s.sm KK) : Fn PP zdR [zkh r.neg (bs r.num) false (bs r.den1),zkh s.neg (bs s.num) false (bs s.den1)] (qV (r.v*s.v)):=by
 refine Fn.of zab mixed zmN rfl rfl (Nat.le_of_ble_eq_true rfl) ?_
 intro w
 have b1:=zc8 (zda hr) (zda hs)
 have b4:=zc8 (zdK hr) (zdK hs)
 conv=>whnf
 refine zaj.quiet (by kernel_rfl) ?_
 conv=>whnf
 refine zad.fn (zCN hr hs) rfl ?_
 conv=>whnf
 refine zad.fn (zBt hr hs) rfl ?_
 conv=>whnf
 refine zad.fn (zhv (r.n*s.n) ((r.d : Int)*s.d) (Nat.le_trans (zit b1) (by decide)) (Nat.le_trans (zit b4) (by decide)) (dpos r s)) rfl ?_
 conv=>whnf
 refine zaa ?_
 rw [dnat,Raw.v,Raw.v,Rat.mkRat_mul_mkRat]
theorem zu6 (r s : Raw) (hr : r.sm KK) (hs : s.sm KK) : Fn PP zct [zkh r.neg (bs r.num) false (bs r.den1),zkh s.neg (bs s.num) false (bs s.den1)] (.int .i64 (cmpQ r.v s.v)):=by
 refine Fn.of zab mixed zij rfl rfl (Nat.le_of_ble_eq_true rfl) ?_
 intro w
 have b1:=zc8 (zda hr) (zdK hs)
 have b2:=zc8 (zda hs) (zdK hr)
 conv=>whnf
 refine zaj.quiet (by kernel_rfl) ?_
 conv=>whnf
 refine zad.fn (zxv hr hs) rfl ?_
 conv=>whnf
 refine zad.fn (zxv hs hr) rfl ?_
 conv=>whnf
 refine zad.fn (zu7 (r.n*s.d) (s.n*r.d) (Nat.le_trans (zit b1) (by decide)) (Nat.le_trans (zit b2) (by decide))) rfl ?_
 conv=>whnf
 refine zaa ?_
 rw [zkZ]
end Go.Sx
end
