/- A part of the proof of a law: the symbolic executor, contracts of functions of the program, plain laws. No conditions. -/
import Derived.Test.YtcmekchbdbakgaaGreatM4
set_option linter.unusedVariables false
set_option linter.unusedSimpArgs false
set_option linter.unusedSectionVars false
section
set_option maxRecDepth 10000
namespace Go.Sx
open Go Go.Proofs
def blen (x : Nat) : Nat := if x = 0 then 0 else Nat.log2 x + 1
theorem blen_lt (x : Nat) : x < 2 ^ blen x := by
 unfold blen
 split
 · rename_i h; subst h; decide
 · exact Nat.lt_log2_self
theorem blen_ge {x : Nat} (hx : 0 < x) : 2 ^ (blen x - 1) ≤ x ∧ 0 < blen x := by
 unfold blen
 rw [if_neg (by omega)]
 exact ⟨Nat.log2_self_le (by omega), by omega⟩
theorem blen_eq {x L : Nat} (h1 : 2 ^ L ≤ x) (h2 : x < 2 ^ (L + 1)) : blen x = L + 1 := by
 have hx : 0 < x := Nat.lt_of_lt_of_le (Nat.pow_pos (by decide)) h1
 obtain ⟨h3, h4⟩ := blen_ge hx
 have h5 := blen_lt x
 have h6 : blen x - 1 < L + 1 := (Nat.pow_lt_pow_iff_right (a := 2) (by decide)).1 (Nat.lt_of_le_of_lt h3 h2)
 have h7 : L < blen x := (Nat.pow_lt_pow_iff_right (a := 2) (by decide)).1 (Nat.lt_of_le_of_lt h1 h5)
 omega
theorem blen_shift {x k : Nat} (h : 2 ^ k ≤ x) : blen x = k + blen (x / 2 ^ k) := by
 have hp : 0 < (2 : Nat) ^ k := Nat.pow_pos (by decide)
 have hq : 0 < x / 2 ^ k := Nat.div_pos h hp
 obtain ⟨h1, h2⟩ := blen_ge hq
 have h3 := blen_lt (x / 2 ^ k)
 obtain ⟨L, hL⟩ : ∃ L, blen (x / 2 ^ k) = L + 1 := ⟨blen (x / 2 ^ k) - 1, by omega⟩
 rw [hL] at h1 h3 ⊢
 simp only [Nat.add_sub_cancel] at h1
 rw [show k + (L + 1) = (k + L) + 1 by omega]
 refine blen_eq ?_ ?_
 · rw [Nat.pow_add, Nat.mul_comm]
   exact (Nat.le_div_iff_mul_le hp).1 h1
 · rw [show k + L + 1 = (L + 1) + k by omega, Nat.pow_add]
   exact (Nat.div_lt_iff_lt_mul hp).1 h3
theorem blen_le {x : Nat} (h : x < 2 ^ 32) : blen x ≤ 32 := by
 rcases Nat.eq_zero_or_pos x with rfl | hx
 · decide
 · obtain ⟨h1, h2⟩ := blen_ge hx
   have := (Nat.pow_lt_pow_iff_right (a := 2) (by decide)).1 (Nat.lt_of_le_of_lt h1 h)
   omega
theorem fdiv_pow (x k m : Nat) (hk : k ≤ m) : (x : Int).fdiv (2 ^ min (k : Int).toNat m) = ((x / 2 ^ k : Nat) : Int) := by
 have e2 : ((2 : Int) ^ k) = ((2 ^ k : Nat) : Int) := by rw [Int.natCast_pow]; rfl
 rw [Int.toNat_natCast, Nat.min_eq_left hk, e2, Int.fdiv_eq_ediv_of_nonneg _ (Int.natCast_nonneg _)]; rfl
theorem len8_fin {s : ByteArray} {v N : Int} {j x n : Nat} (h : ∀ j : Fin 256, sb s (j.val : Int) = (blen j.val : Int)) (hj : j < 256) (hv : v = (j : Int)) (hN : N = (n : Int)) (hx : n + blen j = blen x) (hb : blen x ≤ 32) :
   Value.int .i64 (IntKind.i64.wrap (N + IntKind.i64.wrap (sb s v))) = .int .i64 (blen x) := by
 have := h ⟨j, hj⟩
 rw [hv, hN, this, wrap_i64 (n := (blen j : Int)) (by omega) (by omega), wrap_i64 (by omega) (by omega)]
 congr 1; omega
theorem idx_ok {v : Int} {j : Nat} (hv : v = (j : Int)) (hj : j < 256) : 0 ≤ v ∧ v < 256 := by omega
theorem u8_nat {j : Nat} (hj : j < 256) : IntKind.u8.wrap (j : Int) = (j : Int) := by rw [IntKind.wrap_u8]; omega
theorem c_Len32 (x : Nat) (hx : x < 2 ^ 32) : Fn PP f_math_bits_Len32 [u32 x] (.int .i64 (blen x)) := by
 refine Fn.of TBgood mixed h_math_bits_Len32 rfl rfl (Nat.le_of_ble_eq_true rfl) ?_
 intro w
 have hb := blen_le hx
 conv => whnf
 refine br_split ?_ ?_
 · intro h
   have hge : 65536 ≤ x := by have : (65536 : Int) ≤ x := by simpa using h
                              omega
   have h16 := fdiv_pow x 16 32 (by decide)
   have hs16 := blen_shift (x := x) (k := 16) (by omega)
   conv => whnf
   refine ⟨by decide, ?_⟩
   conv => whnf
   refine br_split ?_ ?_
   · intro h2
     have hge2 : 256 ≤ x / 2 ^ 16 := by
       have : ((x : Int).fdiv (2 ^ min ((16 : Nat) : Int).toNat 32)) ≥ 256 := of_decide_eq_true h2
       rw [h16] at this; omega
     have hs8 := blen_shift (x := x / 2 ^ 16) (k := 8) (by omega)
     have h8 := fdiv_pow (x / 2 ^ 16) 8 32 (by decide)
     have hv : IntKind.u8.wrap (((x : Int).fdiv (2 ^ min ((16 : Nat) : Int).toNat 32)).fdiv (2 ^ min ((8 : Nat) : Int).toNat 32)) = ((x / 2 ^ 16 / 2 ^ 8 : Nat) : Int) := by rw [h16, h8, u8_nat (by omega)]
     conv => whnf
     refine ⟨by decide, ?_⟩
     conv => whnf
     refine ⟨⟨(idx_ok hv (by omega)).1, show _ < (256 : Int) from (idx_ok hv (by omega)).2⟩, ?_⟩
     conv => whnf
     refine postV_one ?_
     refine len8_fin (j := x / 2 ^ 16 / 2 ^ 8) (n := 24) ?_ (by omega) hv (by decide) (by omega) hb
     decide +kernel
   · intro h2
     have hge2 : x / 2 ^ 16 < 256 := by
       have : ¬ ((x : Int).fdiv (2 ^ min ((16 : Nat) : Int).toNat 32)) ≥ 256 := of_decide_eq_false h2
       rw [h16] at this; omega
     have hv : IntKind.u8.wrap ((x : Int).fdiv (2 ^ min ((16 : Nat) : Int).toNat 32)) = ((x / 2 ^ 16 : Nat) : Int) := by rw [h16, u8_nat (by omega)]
     conv => whnf
     refine ⟨⟨(idx_ok hv (by omega)).1, show _ < (256 : Int) from (idx_ok hv (by omega)).2⟩, ?_⟩
     conv => whnf
     refine postV_one ?_
     refine len8_fin (j := x / 2 ^ 16) (n := 16) ?_ (by omega) hv (by decide) (by omega) hb
     decide +kernel
 · intro h
   have hge : x < 65536 := by have : ¬ (65536 : Int) ≤ x := by simpa using h
                              omega
   conv => whnf
   refine br_split ?_ ?_
   · intro h2
     have hge2 : 256 ≤ x := by have : (256 : Int) ≤ x := by simpa using h2
                               omega
     have hs8 := blen_shift (x := x) (k := 8) (by omega)
     have h8 := fdiv_pow x 8 32 (by decide)
     have hv : IntKind.u8.wrap ((x : Int).fdiv (2 ^ min ((8 : Nat) : Int).toNat 32)) = ((x / 2 ^ 8 : Nat) : Int) := by rw [h8, u8_nat (by omega)]
     conv => whnf
     refine ⟨by decide, ?_⟩
     conv => whnf
     refine ⟨⟨(idx_ok hv (by omega)).1, show _ < (256 : Int) from (idx_ok hv (by omega)).2⟩, ?_⟩
     conv => whnf
     refine postV_one ?_
     refine len8_fin (j := x / 2 ^ 8) (n := 8) ?_ (by omega) hv (by decide) (by omega) hb
     decide +kernel
   · intro h2
     have hge2 : x < 256 := by have : ¬ (256 : Int) ≤ x := by simpa using h2
                               omega
     have hv : IntKind.u8.wrap (x : Int) = (x : Int) := u8_nat (by omega)
     conv => whnf
     refine ⟨⟨by rw [hv]; omega, by rw [hv]; show _ < (256 : Int); omega⟩, ?_⟩
     conv => whnf
     refine postV_one ?_
     refine len8_fin (j := x) (n := 0) ?_ (by omega) hv (by decide) (by omega) hb
     decide +kernel
theorem c_LeadingZeros32 (x : Nat) (hx : x < 2 ^ 32) : Fn PP f_math_bits_LeadingZeros32 [u32 x] (.int .i64 ((32 - blen x : Nat) : Int)) := by
 refine Fn.of TBgood mixed h_math_bits_LeadingZeros32 rfl rfl (Nat.le_of_ble_eq_true rfl) ?_
 intro w
 have hb := blen_le hx
 conv => whnf
 refine CallVC.fn (c_Len32 x hx) rfl ?_
 conv => whnf
 refine postV_one ?_
 rw [wrap_i64 (by omega) (by omega)]
 congr 1; omega
end Go.Sx
end
section
set_option maxRecDepth 10000
namespace Go.Sx
open Go Go.Proofs
theorem RowVC.elemJ {α : Type} {xs : List α} {k n : Nat} {agg : Bool} {K : SV → Prop} {junk : List Value} (f : α → List Value) (hf : ∀ x, (f x).length = n) {off : Nat} (ho : off = k * n) (hj : k < xs.length) (h0 : 0 < n) (h1 : agg = false → n = 1) (hk : ∀ x, xs[k]? = some x → K (mkV agg (f x))) :
   RowVC (rowV f xs ++ junk) off n agg K := by
 obtain ⟨h2, l, h3, h4, h5, h6⟩ := RowVC.elem f hf ho hj h0 h1 hk
 refine ⟨h2, l, h3, h4, fun j x hx => ?_, h6⟩
 have := h5 j x hx
 rw [List.getElem?_append_left (List.getElem?_eq_some_iff.1 this).1]; exact this
theorem u32V_midJ (P R : List Nat) (z d : Nat) (junk : List Value) {i : Nat} (hi : i = P.length) : putN i [Value.int .u32 (d : Int)] (rowV u32c (P ++ z :: R) ++ junk) = rowV u32c ((P ++ [d]) ++ R) ++ junk := by
 rw [← u32V_mid P R z d hi]
 have hl : i + 1 ≤ (rowV u32c (P ++ z :: R)).length := by rw [rowV_length u32c_len, List.length_append, hi]; simp
 rw [putN_eq _ _ _ (by rw [List.length_append]; simp; omega), putN_eq _ _ _ (by simpa using hl)]
 rw [List.take_append_of_le_length (by omega), List.drop_append_of_le_length (by simpa using hl)]
 simp

theorem getD_get {l : List Nat} {k : Nat} (h : k < l.length) : l[k]? = some (l.getD k 0) := by rw [List.getD_eq_getElem?_getD, List.getElem?_eq_getElem h]; rfl
theorem getD_lt {l : List Nat} {B : Nat} (hB : 0 < B) (h : ∀ x ∈ l, x < B) (k : Nat) : l.getD k 0 < B := by
 rw [List.getD_eq_getElem?_getD]
 cases hk : l[k]? with
 | none => exact hB
 | some x => exact h x (List.mem_of_getElem? hk)
theorem lv_two {B : Nat} {l : List Nat} {k : Nat} (hk : 2 ≤ k) (hl : l.length = k) : lv B l = (l.getD (k - 1) 0 * B + l.getD (k - 2) 0) * B ^ (k - 2) + lv B (l.take (k - 2)) := by
 have h1 : l = l.take (k - 2) ++ [l.getD (k - 2) 0, l.getD (k - 1) 0] := by
   conv => lhs; rw [← List.take_append_drop (k - 2) l]
   congr 1
   rw [List.drop_eq_getElem_cons (by omega), List.drop_eq_getElem_cons (by omega), List.drop_of_length_le (by omega)]
   simp only [List.getD_eq_getElem?_getD]
   rw [List.getElem?_eq_getElem (show k - 2 < l.length by omega), List.getElem?_eq_getElem (show k - 1 < l.length by omega)]
   simp only [Option.getD_some]
   congr 2
   congr 1
   omega
 conv => lhs; rw [h1]
 rw [lv_append, List.length_take, Nat.min_eq_left (by omega)]
 simp only [lv]
 rw [Nat.mul_zero, Nat.add_zero, Nat.mul_comm B, Nat.mul_comm (B ^ (k - 2))]
 rw [Nat.add_comm (l.getD (k - 2) 0)]; omega
theorem lv_three {B : Nat} {l : List Nat} {k : Nat} (hk : 2 ≤ k) (hl : l.length = k + 1) : lv B l = ((l.getD k 0 * B + l.getD (k - 1) 0) * B + l.getD (k - 2) 0) * B ^ (k - 2) + lv B (l.take (k - 2)) := by
 have h1 := lv_two (B := B) (l := l) (k := k + 1) (by omega) hl
 rw [show k + 1 - 1 = k by omega, show k + 1 - 2 = k - 1 by omega] at h1
 have h2 : l.take (k - 1) = l.take (k - 2) ++ [l.getD (k - 2) 0] := by
   have := List.take_add_one (l := l) (i := k - 2)
   rw [show k - 2 + 1 = k - 1 by omega, getD_get (show k - 2 < l.length by omega)] at this
   exact this
 rw [h1, h2, lv_snoc, List.length_take, Nat.min_eq_left (by omega)]
 obtain ⟨m, rfl⟩ : ∃ m, k = m + 2 := ⟨k - 2, by omega⟩
 simp only [Nat.add_sub_cancel, show m + 2 - 1 = m + 1 by omega, Nat.pow_succ]
 generalize l.getD (m + 2) 0 * B + l.getD (m + 1) 0 = t
 generalize l.getD m 0 = u
 rw [Nat.add_mul, Nat.mul_comm (B ^ m) u, Nat.mul_comm (B ^ m) B, ← Nat.mul_assoc]
 omega
end Go.Sx
end
section
set_option maxRecDepth 10000
set_option maxHeartbeats 2000000
namespace Go.Sx
open Go Go.Proofs
theorem dig_step {B j c b x s g : Nat} {S V D : List Nat} (hB : 0 < B) (hD : D.length = j) (hb : b ≤ 1) (hsB : s < B) (hv : lv B (S.take j) + B ^ j * (c + b) = lv B D + g * lv B (V.take j)) (hs : S[j]? = some s) (hx : V[j]? = some x) :
   lv B (S.take (j + 1)) + B ^ (j + 1) * ((c + g * x) / B + (if s < (c + g * x) % B + b then 1 else 0)) = lv B (D ++ [(B + s - (c + g * x) % B - b) % B]) + g * lv B (V.take (j + 1)) := by
 rw [lv_take_succ hs, lv_take_succ hx, lv_snoc, hD, Nat.pow_succ, Nat.mul_assoc, Nat.mul_add g, show g * (B ^ j * x) = B ^ j * (g * x) from Nat.mul_left_comm _ _ _]
 generalize g * x = gx
 obtain ⟨lo, hlo⟩ : ∃ lo, lo = (c + gx) % B := ⟨_, rfl⟩
 have hloB : lo < B := by rw [hlo]; exact Nat.mod_lt _ hB
 have hdm := Nat.div_add_mod (c + gx) B
 rw [← hlo] at hdm ⊢
 have h3 : s + B * (if s < lo + b then 1 else 0) = (B + s - lo - b) % B + lo + b := by
   split
   · by_cases h0 : B + s - lo - b < B
     · rw [Nat.mul_one, Nat.mod_eq_of_lt h0]; omega
     · omega
   · rw [Nat.mul_zero, show B + s - lo - b = (s - lo - b) + B by omega, Nat.add_mod_right, Nat.mod_eq_of_lt (by omega)]; omega
 generalize (if s < lo + b then 1 else 0) = b' at h3 ⊢
 generalize (B + s - lo - b) % B = d at h3 ⊢
 generalize (c + gx) / B = c' at hdm ⊢
 have h5 : B ^ j * (s + B * (c' + b')) = B ^ j * (d + gx + (c + b)) := by congr 1; rw [Nat.mul_add]; omega
 have a1 : B ^ j * (s + B * (c' + b')) = B ^ j * s + B ^ j * (B * (c' + b')) := Nat.mul_add ..
 have a2 : B ^ j * (d + gx + (c + b)) = B ^ j * d + B ^ j * gx + B ^ j * (c + b) := by rw [Nat.mul_add, Nat.mul_add]
 omega
theorem back_step {B j t x s : Nat} {D V E : List Nat} (hB : 0 < B) (hE : E.length = j) (hv : lv B E + B ^ j * t = lv B (D.take j) + lv B (V.take j)) (hs : D[j]? = some s) (hx : V[j]? = some x) :
   lv B (E ++ [(s + x + t) % B]) + B ^ (j + 1) * ((s + x + t) / B) = lv B (D.take (j + 1)) + lv B (V.take (j + 1)) := by
 rw [lv_take_succ hs, lv_take_succ hx, lv_snoc, hE, Nat.pow_succ, Nat.mul_assoc]
 have h3 : B ^ j * ((s + x + t) % B) + B ^ j * (B * ((s + x + t) / B)) = B ^ j * (s + x + t) := by rw [← Nat.mul_add, Nat.mod_add_div]
 rw [Nat.mul_add, Nat.mul_add] at h3
 omega
theorem back_last {B k t d D' W q : Nat} {E D V : List Nat} (hB : 0 < B) (hE : E.length = k) (hEB : ∀ x ∈ E, x < B) (hv : lv B E + B ^ k * t = D' + lv B V) (hd : lv B D = D' + B ^ k * d) (hW : W + B ^ (k + 1) = lv B D + (q + 1) * lv B V) (hq : q = W / lv B V) (hV : lv B V < B ^ k) (hV0 : 0 < lv B V) :
   lv B (E ++ [(d + t) % B]) = W % lv B V := by
 rw [lv_snoc, hE]
 have h1 := Nat.div_add_mod W (lv B V)
 have h2 := Nat.mod_lt W hV0
 rw [← hq, Nat.mul_comm] at h1
 have hp1 : B ^ (k + 1) = B ^ k * B := Nat.pow_succ ..
 rw [Nat.add_mul, Nat.one_mul, hp1] at hW
 have h3 : lv B E + B ^ k * t + B ^ k * d = W % lv B V + B ^ k * B := by omega
 have h4 : B ^ k * (t + d) + lv B E = W % lv B V + B ^ k * B := by rw [Nat.mul_add]; omega
 have hEl := lv_lt hB E hEB
 rw [hE] at hEl
 generalize W % lv B V = r at *
 have h5 : t + d = r / B ^ k + B := by
   have hp : 0 < B ^ k := Nat.pow_pos hB
   have := congrArg (fun z => z / B ^ k) h4
   rw [Nat.add_comm, Nat.add_mul_div_left _ _ hp, Nat.div_eq_of_lt hEl, Nat.add_mul_div_left _ _ hp] at this
   omega
 have h6 : r / B ^ k = 0 := Nat.div_eq_of_lt (by omega)
 have h7 : t + d = B := by omega
 rw [Nat.add_comm d t, h7, Nat.mod_self]
 rw [h7] at h4
 omega
theorem minus_last {B k x c b N : Nat} {S D : List Nat} (hD : D.length = k) (hcB : c < B) (hxB : x < B) (hb : b ≤ 1) (hS : S.length = k + 1) (hx : S[k]? = some x) (hv : lv B (S.take D.length) + B ^ D.length * (c + b) = lv B D + N) :
   lv B S + B ^ (k + 1) * (if x < c + b then 1 else 0) = lv B (D ++ [(B + x - c - b) % B]) + N := by
 have h0 : lv B S = lv B (S.take k) + B ^ k * x := by
   have := lv_take_succ (B := B) hx
   rwa [List.take_of_length_le (by omega)] at this
 have h3 : x + B * (if x < c + b then 1 else 0) = (B + x - c - b) % B + c + b := by
   split
   · by_cases h0 : B + x - c - b < B
     · rw [Nat.mul_one, Nat.mod_eq_of_lt h0]; omega
     · omega
   · rw [Nat.mul_zero, show B + x - c - b = (x - c - b) + B by omega, Nat.add_mod_right, Nat.mod_eq_of_lt (by omega)]; omega
 rw [hD] at hv
 rw [h0, lv_snoc, hD, Nat.pow_succ, Nat.mul_assoc]
 generalize (if x < c + b then 1 else 0) = b' at h3 ⊢
 generalize (B + x - c - b) % B = d at h3 ⊢
 have h5 : B ^ k * (x + B * b') = B ^ k * (d + c + b) := by rw [h3]
 have a1 : B ^ k * (x + B * b') = B ^ k * x + B ^ k * (B * b') := Nat.mul_add ..
 have a2 : B ^ k * (d + c + b) = B ^ k * d + B ^ k * (c + b) := by rw [Nat.add_assoc, Nat.mul_add]
 omega
theorem c_digit (A : Option Addr) (c : Nat) (V P0 S R : List Nat) (hk : 2 ≤ V.length) (hS : S.length = V.length + 1) (hV : ∀ x ∈ V, x < 2 ^ 32) (hP0 : ∀ x ∈ P0, x < 2 ^ 32) (hSb : ∀ x ∈ S, x < 2 ^ 32)
   (hVt : 0 < V.getD (V.length - 1) 0) (hfit : lv (2 ^ 32) S < 2 ^ 32 * lv (2 ^ 32) V) (hlen : (P0 ++ (S ++ R)).length ≤ 1000000000000) :
   FnW PP f_bigint_limbs_digit [.slice A V.length c, .int .i64 P0.length] [SlRes A (u32V V)] t_uint32 (P0 ++ (S ++ R)).length (u32V (P0 ++ (S ++ R)))
     (u32V (P0 ++ (pad (2 ^ 32) (V.length + 1) (lv (2 ^ 32) S % lv (2 ^ 32) V) ++ R))) (u32 (lv (2 ^ 32) S / lv (2 ^ 32) V)) := by
 refine FnW.ofS TBgood mixed h_bigint_limbs_digit rfl rfl (Nat.le_of_ble_eq_true rfl) (by simp [SlRes.ok]) ?_
 intro w b cap junk hcap hw
 obtain ⟨U, hU⟩ : ∃ U, U = P0 ++ (S ++ R) := ⟨_, rfl⟩
 rw [← hU] at hlen hcap ⊢
 obtain ⟨k, hkk⟩ : ∃ k, k = V.length := ⟨_, rfl⟩
 have hUl : U.length = P0.length + (k + 1) + R.length := by rw [hU]; simp [hS]; omega
 have hUS : ∀ j, j < k + 1 → U[P0.length + j]? = some (S.getD j 0) := by
   intro j hj
   rw [hU, List.getElem?_append_right (by omega), List.getElem?_append_left (by omega), Nat.add_sub_cancel_left]
   exact getD_get (by omega)
 have hA : A.isSome = true := slres_some (facts_one hw) (by rw [u32V_length]; omega)
 rw [← hkk] at hk hS hVt ⊢
 have hik : IntKind.i64.wrap ((P0.length : Int) + (k : Int)) = ((P0.length + k : Nat) : Int) := by rw [wrap_i64 (by omega) (by omega)]; omega
 have hik1 : IntKind.i64.wrap (IntKind.i64.wrap ((P0.length : Int) + (k : Int)) - 1) = ((P0.length + (k - 1) : Nat) : Int) := by rw [hik, wrap_i64 (by omega) (by omega)]; omega
 have hk1 : IntKind.i64.wrap ((k : Int) - 1) = ((k - 1 : Nat) : Int) := by rw [wrap_i64 (by omega) (by omega)]; omega
 obtain ⟨u0, hu0⟩ : ∃ u0, u0 = S.getD k 0 := ⟨_, rfl⟩
 obtain ⟨u1, hu1⟩ : ∃ u1, u1 = S.getD (k - 1) 0 := ⟨_, rfl⟩
 obtain ⟨v1, hv1⟩ : ∃ v1, v1 = V.getD (k - 1) 0 := ⟨_, rfl⟩
 have hu0b : u0 < 2 ^ 32 := by rw [hu0]; exact getD_lt (by decide) hSb _
 have hu1b : u1 < 2 ^ 32 := by rw [hu1]; exact getD_lt (by decide) hSb _
 have hv1b : v1 < 2 ^ 32 := by rw [hv1]; exact getD_lt (by decide) hV _
 have hUlen : (u32V U ++ junk).length = U.length + junk.length := by rw [List.length_append, u32V_length]
 refine WPS.peel TBgood mixed ?_
 conv => whnf
 refine WPS.peel TBgood mixed ?_
 conv => whnf
 refine WPS.peel TBgood mixed ?_
 conv => whnf
 refine DrawVC.quiet (by kernel_rfl) ?_
 conv => whnf
 refine ⟨by rw [hik]; omega, ?_⟩
 conv => whnf
 refine RowVC.elemJ u32c u32c_len (k := P0.length + k) (by rw [hik]; show 0 + (P0.length + k) * 1 = _; omega) (by omega) (by decide) (fun _ => rfl) ?_
 intro x hx
 obtain rfl : x = u0 := by rw [hUS k (by omega)] at hx; rw [hu0]; exact (Option.some.inj hx).symm
 conv => whnf
 refine ⟨by decide, ?_⟩
 conv => whnf
 refine ⟨by rw [hik1]; omega, ?_⟩
 conv => whnf
 refine RowVC.elemJ u32c u32c_len (k := P0.length + (k - 1)) (by rw [hik1]; show 0 + (P0.length + (k - 1)) * 1 = _; omega) (by omega) (by decide) (fun _ => rfl) ?_
 intro y hy
 obtain rfl : y = u1 := by rw [hUS (k - 1) (by omega)] at hy; rw [hu1]; exact (Option.some.inj hy).symm
 conv => whnf
 obtain ⟨top, htop⟩ : ∃ top, top = x * 2 ^ 32 + y := ⟨_, rfl⟩
 have htb : top < 2 ^ 64 := by omega
 have hor : IntKind.u64.wrap (BitVec.toNat (w := 64) (BitVec.ofInt 64 (IntKind.u64.wrap (IntKind.u64.wrap (x : Int) * 2 ^ min (32 : Int).toNat IntKind.u64.bits)) ||| BitVec.ofInt 64 (IntKind.u64.wrap (y : Int))) : Int) = (top : Int) := by
   have e1 : IntKind.u64.wrap (IntKind.u64.wrap (x : Int) * 2 ^ min (32 : Int).toNat IntKind.u64.bits) = ((x * 2 ^ 32 : Nat) : Int) := by
     rw [show min (32 : Int).toNat IntKind.u64.bits = 32 from rfl, IntKind.wrap_u64, IntKind.wrap_u64]; omega
   have e2 : IntKind.u64.wrap (y : Int) = (y : Int) := by rw [IntKind.wrap_u64]; omega
   rw [e1, e2, u64_bv, BitVec.toNat_or, ofInt64_toNat (by omega), ofInt64_toNat (by omega), Nat.mul_comm, ← Nat.two_pow_add_eq_or_of_lt hu1b, htop]
   omega
 refine WPS.peel TBgood mixed ?_
 conv => whnf
 refine DrawVC.quiet (by kernel_rfl) ?_
 conv => whnf
 have hz1 : V[k - 1]? = some v1 := by rw [hv1]; exact getD_get (by omega)
 refine ⟨⟨by rw [hk1]; omega, by rw [hk1]; omega, hA⟩, ?_⟩
 conv => whnf
 refine LoadVC.elem u32c u32c_len (List.mem_singleton.2 rfl) rfl (by rw [hk1]; omega) (by decide) (fun _ => rfl) ?_
 rw [hk1, Int.toNat_natCast]
 intro z hz
 obtain rfl : z = v1 := by rw [hz1] at hz; exact (Option.some.inj hz).symm
 have hv1p : 0 < z := by rw [hv1]; exact hVt
 have hz64 : IntKind.u64.wrap (z : Int) = (z : Int) := by rw [IntKind.wrap_u64]; omega
 conv => whnf
 refine ⟨by rw [hz64]; omega, ?_⟩
 conv => whnf
 refine ⟨⟨by rw [hk1]; omega, by rw [hk1]; omega, hA⟩, ?_⟩
 conv => whnf
 refine LoadVC.elem u32c u32c_len (List.mem_singleton.2 rfl) rfl (by rw [hk1]; omega) (by decide) (fun _ => rfl) ?_
 rw [hk1, Int.toNat_natCast]
 intro z' hz'
 obtain rfl : z' = z := by rw [hz1] at hz'; exact (Option.some.inj hz').symm
 conv => whnf
 refine ⟨by rw [hz64]; omega, ?_⟩
 conv => whnf
 obtain ⟨Q, hQ⟩ : ∃ Q, Q = lv (2 ^ 32) S / lv (2 ^ 32) V := ⟨_, rfl⟩
 obtain ⟨v2, hv2⟩ : ∃ v2, v2 = V.getD (k - 2) 0 := ⟨_, rfl⟩
 obtain ⟨u2, hu2⟩ : ∃ u2, u2 = S.getD (k - 2) 0 := ⟨_, rfl⟩
 have hv2b : v2 < 2 ^ 32 := by rw [hv2]; exact getD_lt (by decide) hV _
 have hu2b : u2 < 2 ^ 32 := by rw [hu2]; exact getD_lt (by decide) hSb _
 have hVd : lv (2 ^ 32) V = (z' * 2 ^ 32 + v2) * (2 ^ 32) ^ (k - 2) + lv (2 ^ 32) (V.take (k - 2)) := by rw [hv1, hv2]; exact lv_two hk hkk.symm
 have hVl : lv (2 ^ 32) (V.take (k - 2)) < (2 ^ 32) ^ (k - 2) := by
   have := lv_lt (B := 2 ^ 32) (by decide) (V.take (k - 2)) (fun x hx => hV x (List.mem_of_mem_take hx))
   rwa [List.length_take, Nat.min_eq_left (by omega)] at this
 have hVpos : 0 < lv (2 ^ 32) V := by
   have h1 : 0 < z' * 2 ^ 32 + v2 := by omega
   rw [hVd]
   exact Nat.lt_of_lt_of_le (Nat.mul_pos h1 (Nat.pow_pos (by decide))) (Nat.le_add_right _ _)
 have hSd : ∃ wl, lv (2 ^ 32) S = (top * 2 ^ 32 + u2) * (2 ^ 32) ^ (k - 2) + wl ∧ wl < (2 ^ 32) ^ (k - 2) := by
   refine ⟨lv (2 ^ 32) (S.take (k - 2)), ?_, ?_⟩
   · have h1 := lv_three (B := 2 ^ 32) hk hS
     rw [← hu0, ← hu1, ← htop, ← hu2] at h1
     exact h1
   · have := lv_lt (B := 2 ^ 32) (by decide) (S.take (k - 2)) (fun x hx => hSb x (List.mem_of_mem_take hx))
     rwa [List.length_take, Nat.min_eq_left (by omega)] at this
 obtain ⟨wl, hSd, hwl⟩ := hSd
 have hinit : Q ≤ top / z' := by rw [hQ]; exact guess_init hv1p hVd hSd hu2b hwl hVpos
 refine WPS.cutW (ι := Nat × Nat) (fun ⟨g, r⟩ => ⟨[(0, .o (.s 194 0 U.length cap)), (1, .o (.v (.slice A k c))), (2, .o (.v (.int .i64 P0.length))), (7, .o (.v (.int .i64 k))), (9, .o (.v (.int .u64 g)))], [(194, .sym (u32V U ++ junk) t_uint32)], [SlRes A (u32V V)]⟩)
   (fun ⟨g, r⟩ => g < 2 ^ 32 ∧ Q ≤ g ∧ g ≤ Q + 1) ?_ ?_
 · have hsh : ∀ m : Nat, (m : Int).fdiv (2 ^ min (32 : Int).toNat IntKind.u64.bits) = ((m / 2 ^ 32 : Nat) : Int) := fun m => by
     rw [show min (32 : Int).toNat IntKind.u64.bits = 32 from rfl, Int.fdiv_eq_ediv_of_nonneg _ (by decide)]; rfl
   have hk2 : IntKind.i64.wrap ((k : Int) - 2) = ((k - 2 : Nat) : Int) := by rw [wrap_i64 (by omega) (by omega)]; omega
   have hik2 : IntKind.i64.wrap (IntKind.i64.wrap ((P0.length : Int) + (k : Int)) - 2) = ((P0.length + (k - 2) : Nat) : Int) := by rw [hik, wrap_i64 (by omega) (by omega)]; omega
   refine WPS.block ?_
   refine WPS.loop (ι := Nat × Nat) (fun ⟨g, r⟩ => ⟨[(0, .o (.s 194 0 U.length cap)), (1, .o (.v (.slice A k c))), (2, .o (.v (.int .i64 P0.length))), (7, .o (.v (.int .i64 k))), (9, .o (.v (.int .u64 g))), (10, .o (.v (.int .u64 r)))], [(194, .sym (u32V U ++ junk) t_uint32)], [SlRes A (u32V V)]⟩)
     (fun ⟨g, r⟩ => g * z' + r = top ∧ Q ≤ g) (fun ⟨g, r⟩ => g) (top / z', top % z') ⟨by rw [Nat.mul_comm]; exact Nat.div_add_mod top z', hinit⟩ (SLe.id ⟨rfl, rfl, rfl, rfl, ?_, ?_, trivial⟩ ⟨⟨_, rfl, .refl _⟩, trivial⟩ (fun R hR => hR)) ?_
   · show some (SV.o (.v (.int .u64 (IntKind.u64.wrap (Int.tdiv (IntKind.u64.wrap (BitVec.toNat (w := 64) (BitVec.ofInt 64 _ ||| BitVec.ofInt 64 _) : Int)) (IntKind.u64.wrap (z' : Int))))))) = some (SV.o (.v (.int .u64 ((top / z' : Nat) : Int))))
     rw [hor, hz64, Int.tdiv_eq_ediv_of_nonneg (by omega)]
     have e3 : (top : Int) / (z' : Int) = ((top / z' : Nat) : Int) := rfl
     have e4 : top / z' ≤ top := Nat.div_le_self _ _
     rw [e3]
     generalize top / z' = q at e4 ⊢
     rw [IntKind.wrap_u64]; congr 4; omega
   · show some (SV.o (.v (.int .u64 (Int.tmod (IntKind.u64.wrap (BitVec.toNat (w := 64) (BitVec.ofInt 64 _ ||| BitVec.ofInt 64 _) : Int)) (IntKind.u64.wrap (z' : Int)))))) = some (SV.o (.v (.int .u64 ((top % z' : Nat) : Int))))
     rw [hor, hz64, Int.tmod_eq_emod_of_nonneg (by omega)]; rfl
   rintro ⟨g, r⟩ ⟨hgr, hQg⟩
   have hgb : g ≤ top := by have : g * 1 ≤ g * z' := Nat.mul_le_mul_left _ hv1p; omega
   have hrb : r ≤ top := by omega
   have hdec : Q < g → (g - 1) * z' + (r + z') = top ∧ Q ≤ g - 1 ∧ g - 1 < g ∧ IntKind.u64.wrap ((g : Int) - 1) = ((g - 1 : Nat) : Int) ∧ IntKind.u64.wrap ((r : Int) + IntKind.u64.wrap (z' : Int)) = ((r + z' : Nat) : Int) := by
     intro h
     obtain ⟨m, rfl⟩ : ∃ m, g = m + 1 := ⟨g - 1, by omega⟩
     rw [Nat.add_mul, Nat.one_mul] at hgr
     refine ⟨by rw [Nat.add_sub_cancel]; omega, by omega, by omega, by rw [IntKind.wrap_u64]; omega, by rw [hz64, IntKind.wrap_u64]; omega⟩
   have hfin : g < 2 ^ 32 → g * v2 ≤ r * 2 ^ 32 + u2 → g < 2 ^ 32 ∧ Q ≤ g ∧ g ≤ Q + 1 := fun h1 h2 => ⟨h1, hQg, by rw [hQ]; exact guess_end (by decide) hv1p hVd hVl hSd hgr h2 h1 hVpos⟩
   have hQb : Q < 2 ^ 32 := by rw [hQ]; exact Nat.div_lt_of_lt_mul (by rw [Nat.mul_comm]; exact hfit)
   refine WPS.seq ?_
   refine WPS.cut TBgood mixed (ι := Bool) (fun bb => ⟨[(0, .o (.s 194 0 U.length cap)), (1, .o (.v (.slice A k c))), (2, .o (.v (.int .i64 P0.length))), (7, .o (.v (.int .i64 k))), (9, .o (.v (.int .u64 g))), (10, .o (.v (.int .u64 r))), (82, .o (.v (.bool bb)))], [(194, .sym (u32V U ++ junk) t_uint32)], [SlRes A (u32V V)]⟩)
     (fun bb => (bb = true → Q < g) ∧ (bb = false → g < 2 ^ 32 ∧ g ≤ Q + 1)) ?_ ?_
   · conv => whnf
     refine DrawVC.quiet (by kernel_rfl) ?_
     conv => whnf
     refine ⟨by decide, ?_⟩
     conv => whnf
     refine br_split ?_ ?_
     · intro hg1
       have hg2 : 2 ^ 32 ≤ g := by
         have : (g : Int).fdiv (2 ^ min (32 : Int).toNat IntKind.u64.bits) > 0 := of_decide_eq_true hg1
         rw [hsh] at this; omega
       conv => whnf
       exact ⟨true, ⟨fun _ => by omega, fun h => by cases h⟩, SLe.id ⟨rfl, rfl, rfl, rfl, rfl, rfl, rfl, trivial⟩ ⟨⟨_, rfl, .refl _⟩, trivial⟩ (fun R hR => hR)⟩
     · intro hg1
       have hg2 : g < 2 ^ 32 := by
         have : ¬ (g : Int).fdiv (2 ^ min (32 : Int).toNat IntKind.u64.bits) > 0 := of_decide_eq_false hg1
         rw [hsh] at this; omega
       conv => whnf
       refine ⟨by decide, ?_⟩
       conv => whnf
       refine br_split ?_ ?_
       · intro hr1
         have hr2 : r < 2 ^ 32 := by
           have : (r : Int).fdiv (2 ^ min (32 : Int).toNat IntKind.u64.bits) = 0 := eq_of_beq hr1
           rw [hsh] at this; omega
         conv => whnf
         refine ⟨⟨by rw [hk2]; omega, by rw [hk2]; omega, hA⟩, ?_⟩
         conv => whnf
         refine LoadVC.elem u32c u32c_len (List.mem_singleton.2 rfl) rfl (by rw [hk2]; omega) (by decide) (fun _ => rfl) ?_
         rw [hk2, Int.toNat_natCast]
         intro a ha
         obtain rfl : a = v2 := by rw [getD_get (show k - 2 < V.length by omega), ← hv2] at ha; exact (Option.some.inj ha).symm
         conv => whnf
         refine ⟨by decide, ?_⟩
         conv => whnf
         refine ⟨by rw [hik2]; omega, ?_⟩
         conv => whnf
         refine RowVC.elemJ u32c u32c_len (k := P0.length + (k - 2)) (by rw [hik2]; show 0 + (P0.length + (k - 2)) * 1 = _; omega) (by omega) (by decide) (fun _ => rfl) ?_
         intro e he
         obtain rfl : e = u2 := by rw [hUS (k - 2) (by omega)] at he; rw [hu2]; exact (Option.some.inj he).symm
         have hmul : IntKind.u64.wrap ((g : Int) * IntKind.u64.wrap (a : Int)) = ((g * a : Nat) : Int) := by
           have h1 : g * a ≤ (2 ^ 32 - 1) * (2 ^ 32 - 1) := Nat.mul_le_mul (by omega) (by omega)
           have e1 : IntKind.u64.wrap (a : Int) = (a : Int) := by rw [IntKind.wrap_u64]; omega
           rw [e1, ← Int.natCast_mul]
           generalize g * a = m at h1 ⊢
           rw [IntKind.wrap_u64]; omega
         have hor2' : IntKind.u64.wrap (BitVec.toNat (w := 64) (BitVec.ofInt 64 (IntKind.u64.wrap ((r : Int) * 2 ^ min (32 : Int).toNat IntKind.u64.bits)) ||| BitVec.ofInt 64 (IntKind.u64.wrap (e : Int))) : Int) = ((r * 2 ^ 32 + e : Nat) : Int) := by
           have e1 : IntKind.u64.wrap ((r : Int) * 2 ^ min (32 : Int).toNat IntKind.u64.bits) = ((r * 2 ^ 32 : Nat) : Int) := by
             rw [show min (32 : Int).toNat IntKind.u64.bits = 32 from rfl, IntKind.wrap_u64]; omega
           have e2 : IntKind.u64.wrap (e : Int) = (e : Int) := by rw [IntKind.wrap_u64]; omega
           rw [e1, e2, u64_bv, BitVec.toNat_or, ofInt64_toNat (by omega), ofInt64_toNat (by omega), Nat.mul_comm, ← Nat.two_pow_add_eq_or_of_lt hu2b]
         have hor2 : IntKind.u64.wrap (((BitVec.ofInt IntKind.u64.bits (IntKind.u64.wrap ((r : Int) * 2 ^ min (32 : Int).toNat IntKind.u64.bits)) ||| BitVec.ofInt IntKind.u64.bits (IntKind.u64.wrap (e : Int))).toNat : Nat) : Int) = ((r * 2 ^ 32 + e : Nat) : Int) := hor2'
         conv => whnf
         refine ⟨_, ⟨fun hc => ?_, fun hc => ?_⟩, SLe.id ⟨rfl, rfl, rfl, rfl, rfl, rfl, rfl, trivial⟩ ⟨⟨_, rfl, .refl _⟩, trivial⟩ (fun R hR => hR)⟩
         · have hc2 : r * 2 ^ 32 + e < g * a := by
             have := of_decide_eq_true hc
             rw [hmul, hor2] at this; exact Int.ofNat_lt.1 this
           rw [hQ]; exact guess_dec hVd hSd hwl hgr hc2 hVpos
         · have hc2 : g * a ≤ r * 2 ^ 32 + e := by
             have := of_decide_eq_false hc
             rw [hmul, hor2] at this; exact Int.ofNat_le.1 (Int.not_lt.1 this)
           exact ⟨hg2, (hfin hg2 hc2).2.2⟩
       · intro hr1
         have hr2 : ¬ r < 2 ^ 32 := by
           have : ¬ (r : Int).fdiv (2 ^ min (32 : Int).toNat IntKind.u64.bits) = 0 := ne_of_beq_false hr1
           rw [hsh] at this; omega
         conv => whnf
         refine ⟨false, ⟨fun h => (by cases h), fun _ => ⟨hg2, (hfin hg2 ?_).2.2⟩⟩, SLe.id ⟨rfl, rfl, rfl, rfl, rfl, rfl, rfl, trivial⟩ ⟨⟨_, rfl, .refl _⟩, trivial⟩ (fun R hR => hR)⟩
         have h1 : g * v2 ≤ (2 ^ 32 - 1) * (2 ^ 32 - 1) := Nat.mul_le_mul (by omega) (by omega)
         omega
   · rintro bb ⟨hT, hF⟩
     refine WPS.of TBgood mixed ?_
     conv => whnf
     cases bb with
     | false =>
       obtain ⟨h1, h2⟩ := hF rfl
       conv => whnf
       exact ⟨(g, r), ⟨h1, hQg, h2⟩, SLe.id ⟨rfl, rfl, rfl, rfl, rfl, trivial⟩ ⟨⟨_, rfl, .refl _⟩, trivial⟩ (fun R hR => hR)⟩
     | true =>
       obtain ⟨d1, d2, d3, d4, d5⟩ := hdec (hT rfl)
       conv => whnf
       refine WPS.of TBgood mixed ?_
       conv => whnf
       refine ⟨⟨by rw [hk1]; omega, by rw [hk1]; omega, hA⟩, ?_⟩
       conv => whnf
       refine LoadVC.elem u32c u32c_len (List.mem_singleton.2 rfl) rfl (by rw [hk1]; omega) (by decide) (fun _ => rfl) ?_
       rw [hk1, Int.toNat_natCast]
       intro zz hzz
       obtain rfl : zz = z' := by rw [hz1] at hzz; exact (Option.some.inj hzz).symm
       conv => whnf
       refine ⟨by decide, ?_⟩
       conv => whnf
       have hgb2 : IntKind.u64.wrap ((g : Int) - 1) = ((g - 1 : Nat) : Int) := d4
       have hrr : IntKind.u64.wrap ((r : Int) + IntKind.u64.wrap (zz : Int)) = ((r + zz : Nat) : Int) := d5
       have hnext : ∀ s : SS, lk 0 s.tm = some (.o (.s 194 0 U.length cap)) → lk 1 s.tm = some (.o (.v (.slice A k c))) → lk 2 s.tm = some (.o (.v (.int .i64 P0.length))) → lk 7 s.tm = some (.o (.v (.int .i64 k))) → lk 9 s.tm = some (.o (.v (.int .u64 (IntKind.u64.wrap ((g : Int) - 1))))) → lk 10 s.tm = some (.o (.v (.int .u64 (IntKind.u64.wrap ((r : Int) + IntKind.u64.wrap (zz : Int)))))) → lk 194 s.me = some (.sym (u32V U ++ junk) t_uint32) → s.re = [SlRes A (u32V V)] →
           SLe (⟨w, [b], b_bigint_limbs_digit.ntmps⟩ : Cx) s ⟨[(0, .o (.s 194 0 U.length cap)), (1, .o (.v (.slice A k c))), (2, .o (.v (.int .i64 P0.length))), (7, .o (.v (.int .i64 k))), (9, .o (.v (.int .u64 ((g - 1 : Nat) : Int)))), (10, .o (.v (.int .u64 ((r + zz : Nat) : Int))))], [(194, .sym (u32V U ++ junk) t_uint32)], [SlRes A (u32V V)]⟩ := by
         intro s h0 h1 h2 h7 h9 h10 hm hr
         rw [hgb2] at h9
         rw [hrr] at h10
         exact SLe.id ⟨h0, h1, h2, h7, h9, h10, trivial⟩ ⟨⟨_, hm, .refl _⟩, trivial⟩ (fun R hR => by rw [hr]; exact hR)
       refine br_split ?_ ?_
       · intro hr1
         have hr2 : 2 ^ 32 ≤ r + zz := by
           have : (IntKind.u64.wrap ((r : Int) + IntKind.u64.wrap (zz : Int))).fdiv (2 ^ min (32 : Int).toNat IntKind.u64.bits) > 0 := of_decide_eq_true hr1
           rw [hrr, hsh] at this; omega
         conv => whnf
         refine ⟨by decide, ?_⟩
         conv => whnf
         refine br_split ?_ ?_
         · intro hg3
           have hg4 : g - 1 < 2 ^ 32 := by
             have : (IntKind.u64.wrap ((g : Int) - 1)).fdiv (2 ^ min (32 : Int).toNat IntKind.u64.bits) = 0 := eq_of_beq hg3
             rw [hgb2, hsh] at this; omega
           conv => whnf
           refine ⟨(g - 1, r + zz), ⟨hg4, d2, ?_⟩, ?_⟩
           · rw [hQ]
             refine guess_end (by decide) hv1p hVd hVl hSd d1 ?_ hg4 hVpos
             have h1 : (g - 1) * v2 ≤ (2 ^ 32 - 1) * (2 ^ 32 - 1) := Nat.mul_le_mul (by omega) (by omega)
             have h2 : 2 ^ 32 * 2 ^ 32 ≤ (r + zz) * 2 ^ 32 := Nat.mul_le_mul_right _ hr2
             omega
           · refine SLe.trans (hnext _ rfl rfl rfl rfl rfl rfl rfl rfl) (SLe.id ⟨rfl, rfl, rfl, rfl, rfl, trivial⟩ ⟨⟨_, rfl, .refl _⟩, trivial⟩ (fun R hR => hR))
         · intro hg3
           conv => whnf
           exact ⟨(g - 1, r + zz), ⟨d1, d2⟩, d3, hnext _ rfl rfl rfl rfl rfl rfl rfl rfl⟩
       · intro hr1
         conv => whnf
         exact ⟨(g - 1, r + zz), ⟨d1, d2⟩, d3, hnext _ rfl rfl rfl rfl rfl rfl rfl rfl⟩
 · rintro ⟨g, r0⟩ ⟨hgB, hQg, hgQ⟩
   clear hor
   have hgb64 : IntKind.u64.wrap (g : Int) = (g : Int) := by rw [IntKind.wrap_u64]; omega
   refine WPS.peel TBgood mixed ?_
   conv => whnf
   refine WPS.seq ?_
   refine WPS.peel TBgood mixed ?_
   conv => whnf
   refine WPS.block ?_
   refine WPS.loop (ι := List Nat × Nat × Nat) (fun ⟨D, cy, bo⟩ => ⟨[(0, .o (.s 194 0 U.length cap)), (1, .o (.v (.slice A k c))), (2, .o (.v (.int .i64 P0.length))), (7, .o (.v (.int .i64 k))), (9, .o (.v (.int .u64 g))), (11, .o (.v (.int .u64 cy))), (12, .o (.v (u32 bo))), (101, .o (.v (.slice A k c))), (102, .o (.v (.int .i64 k))), (103, .o (.v (.int .i64 D.length)))], [(194, .sym (u32V (P0 ++ (D ++ (S.drop D.length ++ R))) ++ junk) t_uint32)], [SlRes A (u32V V)]⟩)
     (fun ⟨D, cy, bo⟩ => D.length ≤ k ∧ cy < 2 ^ 32 ∧ bo ≤ 1 ∧ (∀ x ∈ D, x < 2 ^ 32) ∧ lv (2 ^ 32) (S.take D.length) + (2 ^ 32) ^ D.length * (cy + bo) = lv (2 ^ 32) D + g * lv (2 ^ 32) (V.take D.length)) (fun ⟨D, cy, bo⟩ => k - D.length) ([], 0, 0)
     ⟨Nat.zero_le _, by decide, by decide, (fun x h => by cases h), by simp [lv]⟩ (SLe.id ⟨rfl, rfl, rfl, rfl, rfl, rfl, rfl, rfl, rfl, rfl, trivial⟩ ⟨⟨_, rfl, by rw [hU]; exact .refl _⟩, trivial⟩ (fun R hR => hR)) ?_
   rintro ⟨D, cy, bo⟩ ⟨hD, hcy, hbo, hDb, hinv⟩
   refine WPS.of TBgood mixed ?_
   conv => whnf
   refine br_split ?_ ?_
   · intro h
     have hi : D.length < k := by have : (D.length : Int) < k := by simpa using h
                                  omega
     conv => whnf
     refine ⟨⟨by omega, by omega, hA⟩, ?_⟩
     conv => whnf
     refine LoadVC.elem u32c u32c_len (List.mem_singleton.2 rfl) rfl (by rw [Int.toNat_natCast]; omega) (by decide) (fun _ => rfl) ?_
     rw [Int.toNat_natCast]
     intro v hv
     have hvb : v < 2 ^ 32 := hV v (List.mem_of_getElem? hv)
     conv => whnf
     have hij : IntKind.i64.wrap ((P0.length : Int) + (D.length : Int)) = ((P0.length + D.length : Nat) : Int) := by rw [wrap_i64 (by omega) (by omega)]; omega
     obtain ⟨sj, hsj⟩ : ∃ sj, sj = S.getD D.length 0 := ⟨_, rfl⟩
     have hsg : S[D.length]? = some sj := by rw [hsj]; exact getD_get (by omega)
     have hsb : sj < 2 ^ 32 := hSb sj (List.mem_of_getElem? hsg)
     have hdrop : S.drop D.length = sj :: S.drop (D.length + 1) := by
       rw [List.drop_eq_getElem_cons (show D.length < S.length by omega)]
       congr 1
       rw [List.getElem?_eq_getElem (show D.length < S.length by omega)] at hsg
       exact Option.some.inj hsg
     refine ⟨⟨by rw [hij]; omega, by rw [hij]; omega⟩, ?_⟩
     conv => whnf
     refine RowVC.elemJ u32c u32c_len (k := P0.length + D.length) (by rw [hij]; show 0 + (P0.length + D.length) * 1 = _; omega) (by rw [hdrop]; simp) (by decide) (fun _ => rfl) ?_
     intro s' hs'
     obtain rfl : s' = sj := by
       rw [List.getElem?_append_right (by omega), Nat.add_sub_cancel_left, List.getElem?_append_right (by omega), Nat.sub_self, hdrop] at hs'
       exact (Option.some.inj hs').symm
     conv => whnf
     have hgv : g * v ≤ (2 ^ 32 - 1) * (2 ^ 32 - 1) := Nat.mul_le_mul (by omega) (by omega)
     have hmul : IntKind.u64.wrap ((g : Int) * IntKind.u64.wrap (v : Int)) = ((g * v : Nat) : Int) := by
       have e1 : IntKind.u64.wrap (v : Int) = (v : Int) := by rw [IntKind.wrap_u64]; omega
       rw [e1, ← Int.natCast_mul]
       generalize g * v = m at hgv ⊢
       rw [IntKind.wrap_u64]; omega
     obtain ⟨t, ht⟩ : ∃ t, t = cy + g * v := ⟨_, rfl⟩
     have htb : t < 2 ^ 64 := by rw [ht]; generalize g * v = m at hgv ⊢; omega
     have hsum : IntKind.u64.wrap ((cy : Int) + IntKind.u64.wrap ((g : Int) * IntKind.u64.wrap (v : Int))) = (t : Int) := by
       rw [hmul, ht]; generalize g * v = m at hgv ⊢; rw [IntKind.wrap_u64]; omega
     have hlo : IntKind.u32.wrap (IntKind.u64.wrap ((cy : Int) + IntKind.u64.wrap ((g : Int) * IntKind.u64.wrap (v : Int)))) = ((t % 2 ^ 32 : Nat) : Int) := by
       rw [hsum, IntKind.wrap_u32]; omega
     have hlob : t % 2 ^ 32 < 2 ^ 32 := Nat.mod_lt _ (by decide)
     refine CallVC.fn (c_Sub32 s' (t % 2 ^ 32) bo hsb hlob hbo) (congrArg (fun z => [SV.o (.v (u32 s')), .o (.v (.int .u32 z)), .o (.v (u32 bo))]) hlo) ?_
     conv => whnf
     refine ⟨⟨by rw [hij]; omega, by rw [hij]; omega⟩, ?_⟩
     conv => whnf
     refine ⟨by rw [hij, List.length_append, u32V_length, hdrop]; show 0 + (P0.length + D.length) * 1 + 1 ≤ _; simp; omega, ?_⟩
     conv => whnf
     refine ⟨by decide, ?_⟩
     conv => whnf
     refine ⟨(D ++ [(2 ^ 32 + s' - t % 2 ^ 32 - bo) % 2 ^ 32], t / 2 ^ 32, if s' < t % 2 ^ 32 + bo then 1 else 0), ⟨by simp; omega, by show t / 2 ^ 32 < 2 ^ 32; omega, ?_, ?_, ?_⟩, by simp; omega, ?_⟩
     · show (if s' < t % 2 ^ 32 + bo then 1 else 0) ≤ 1
       split <;> omega
     · intro z hz
       rcases List.mem_append.1 hz with hz | hz
       · exact hDb z hz
       · rw [List.mem_singleton.1 hz]; exact Nat.mod_lt _ (by decide)
     · rw [List.length_append, ht]
       exact dig_step (by decide) rfl hbo hsb hinv hsg hv
     · refine SLe.id ⟨rfl, rfl, rfl, rfl, rfl, ?_, rfl, rfl, rfl, ?_, trivial⟩ ⟨⟨_, rfl, ?_⟩, trivial⟩ (fun R hR => hR)
       · show some (SV.o (.v (.int _ (Int.fdiv (IntKind.u64.wrap ((cy : Int) + IntKind.u64.wrap ((g : Int) * IntKind.u64.wrap (v : Int)))) (2 ^ min (32 : Int).toNat IntKind.u64.bits))))) = some (SV.o (.v (.int _ ((t / 2 ^ 32 : Nat) : Int))))
         rw [hsum, show min (32 : Int).toNat IntKind.u64.bits = 32 from rfl, Int.fdiv_eq_ediv_of_nonneg _ (by decide)]; rfl
       · show some (SV.o (.v (.int _ (IntKind.i64.wrap ((D.length : Int) + 1))))) = some (SV.o (.v (.int _ (((D ++ [_]).length : Nat) : Int))))
         rw [wrap_i64 (by omega) (by omega), List.length_append]; rfl
       · show MEle (ME.sym (putN (0 + (IntKind.i64.wrap ((P0.length : Int) + (D.length : Int))).toNat * 1) [Value.int .u32 _] (rowV u32c (P0 ++ (D ++ (S.drop D.length ++ R))) ++ junk)) _)
           (ME.sym (rowV u32c (P0 ++ ((D ++ [(2 ^ 32 + s' - t % 2 ^ 32 - bo) % 2 ^ 32]) ++ (S.drop (D ++ [_]).length ++ R))) ++ junk) _)
         rw [hij, hdrop, List.length_append, ← List.append_assoc P0 D, List.cons_append, u32V_midJ (P0 ++ D) _ _ _ _ (by simp; omega)]
         simp only [List.append_assoc]
         exact .refl _
   · intro h
     have hi : D.length = k := by have : ¬ (D.length : Int) < k := by simpa using h
                                  omega
     have hvt : lv (2 ^ 32) (V.take D.length) = lv (2 ^ 32) V := by rw [List.take_of_length_le (by omega)]
     rw [hvt] at hinv
     conv => whnf
     refine WPS.cut TBgood mixed (ι := Nat × Nat) (fun ⟨d, b'⟩ => ⟨[(0, .o (.s 194 0 U.length cap)), (1, .o (.v (.slice A k c))), (2, .o (.v (.int .i64 P0.length))), (7, .o (.v (.int .i64 k))), (9, .o (.v (.int .u64 g))), (12, .o (.v (u32 b')))], [(194, .sym (u32V (P0 ++ ((D ++ [d]) ++ R)) ++ junk) t_uint32)], [SlRes A (u32V V)]⟩)
       (fun ⟨d, b'⟩ => d < 2 ^ 32 ∧ b' ≤ 1 ∧ lv (2 ^ 32) S + (2 ^ 32) ^ (k + 1) * b' = lv (2 ^ 32) (D ++ [d]) + g * lv (2 ^ 32) V) ?_ ?_
     · have hsk : S[k]? = some x := by rw [hu0]; exact getD_get (by omega)
       have hdrop : S.drop D.length = [x] := by
         rw [hi, List.drop_eq_getElem_cons (show k < S.length by omega), List.drop_of_length_le (by omega)]
         congr 1
         rw [List.getElem?_eq_getElem (show k < S.length by omega)] at hsk
         exact Option.some.inj hsk
       conv => whnf
       refine ⟨by rw [hik]; omega, ?_⟩
       conv => whnf
       refine RowVC.elemJ u32c u32c_len (k := P0.length + k) (by rw [hik]; show 0 + (P0.length + k) * 1 = _; omega) (by rw [hdrop]; simp; omega) (by decide) (fun _ => rfl) ?_
       intro s' hs'
       obtain rfl : s' = x := by
         rw [List.getElem?_append_right (by omega), Nat.add_sub_cancel_left, List.getElem?_append_right (by omega), hdrop, hi, Nat.sub_self] at hs'
         exact (Option.some.inj hs').symm
       conv => whnf
       have hlo : IntKind.u32.wrap (cy : Int) = ((cy : Nat) : Int) := by rw [IntKind.wrap_u32]; omega
       refine CallVC.fn (c_Sub32 s' cy bo hu0b hcy hbo) (congrArg (fun z => [SV.o (.v (u32 s')), .o (.v (.int .u32 z)), .o (.v (u32 bo))]) hlo) ?_
       conv => whnf
       refine ⟨by rw [hik]; omega, ?_⟩
       conv => whnf
       refine ⟨by rw [hik, List.length_append, u32V_length, hdrop]; show 0 + (P0.length + k) * 1 + 1 ≤ _; simp; omega, ?_⟩
       conv => whnf
       refine ⟨((2 ^ 32 + s' - cy - bo) % 2 ^ 32, if s' < cy + bo then 1 else 0), ⟨Nat.mod_lt _ (by decide), by show (if s' < cy + bo then 1 else 0) ≤ 1; split <;> omega, ?_⟩, ?_⟩
       · have h1 := minus_last (B := 2 ^ 32) (x := s') (c := cy) (b := bo) (D := D) (S := S) (k := k) hi hcy hu0b hbo hS hsk hinv
         exact h1
       · refine SLe.id ⟨rfl, rfl, rfl, rfl, rfl, rfl, trivial⟩ ⟨⟨_, rfl, ?_⟩, trivial⟩ (fun R hR => hR)
         show MEle (ME.sym (putN (0 + (IntKind.i64.wrap ((P0.length : Int) + (k : Int))).toNat * 1) [Value.int .u32 _] (rowV u32c (P0 ++ (D ++ (S.drop D.length ++ R))) ++ junk)) _)
           (ME.sym (rowV u32c (P0 ++ ((D ++ [(2 ^ 32 + s' - cy - bo) % 2 ^ 32]) ++ R)) ++ junk) _)
         rw [hik, hdrop, ← List.append_assoc P0 D, List.cons_append, u32V_midJ (P0 ++ D) _ _ _ _ (by simp; omega)]
         simp only [List.append_assoc, List.nil_append]
         exact .refl _
     · rintro ⟨d, b'⟩ ⟨hdB, hb', hfin⟩
       obtain ⟨D', hD'⟩ : ∃ D', D' = D ++ [d] := ⟨_, rfl⟩
       have hDl : D'.length = k + 1 := by rw [hD', List.length_append, hi]; rfl
       have hDB : ∀ x ∈ D', x < 2 ^ 32 := by
         rw [hD']; intro z hz
         rcases List.mem_append.1 hz with hz | hz
         · exact hDb z hz
         · rw [List.mem_singleton.1 hz]; exact hdB
       have hDlt := lv_lt (B := 2 ^ 32) (by decide) D' hDB
       rw [hDl] at hDlt
       have hVlt := lv_lt (B := 2 ^ 32) (by decide) V hV
       rw [← hkk] at hVlt
       have hSmod := Nat.div_add_mod (lv (2 ^ 32) S) (lv (2 ^ 32) V)
       have hSr := Nat.mod_lt (lv (2 ^ 32) S) hVpos
       rw [← hQ] at hSmod
       rw [← hD'] at hfin
       refine WPS.peel TBgood mixed ?_
       conv => whnf
       refine br_split ?_ ?_
       · intro hc
         have hb0 : b' = 0 := by have : (b' : Int) = 0 := eq_of_beq hc
                                 omega
         subst hb0
         have hg : g = Q := by rw [hQ]; exact (digit_fit (by rw [← hQ]; exact hQg) (by rw [← hQ]; exact hgQ) hVpos).1 (by omega)
         have hval : lv (2 ^ 32) D' = lv (2 ^ 32) S % lv (2 ^ 32) V := by
           rw [hg] at hfin; rw [Nat.mul_comm] at hSmod; omega
         conv => whnf
         refine ⟨?_, ?_⟩
         · show [SV.o (.v (.int .u32 (IntKind.u32.wrap (g : Int))))] = _
           rw [IntKind.wrap_u32, show (g : Int) % 4294967296 = (g : Int) by omega, hg, hQ]
         · show some (ME.sym (u32V (P0 ++ ((D ++ [d]) ++ R)) ++ junk) t_uint32) = _
           rw [← hD', ← hval, ← hDl, pad_lv (by decide) D' hDB]
       · intro hc
         have hb1 : b' = 1 := by have : ¬ (b' : Int) = 0 := ne_of_beq_false hc
                                 omega
         subst hb1
         have hg : g = Q + 1 := by rw [hQ]; exact (digit_fit (by rw [← hQ]; exact hQg) (by rw [← hQ]; exact hgQ) hVpos).2 (by omega)
         conv => whnf
         refine WPS.of TBgood mixed ?_
         conv => whnf
         refine sexec_loop (ι := List Nat × Nat) (fun ⟨E, t⟩ => ⟨[(0, .o (.s 194 0 U.length cap)), (1, .o (.v (.slice A k c))), (2, .o (.v (.int .i64 P0.length))), (7, .o (.v (.int .i64 k))), (9, .o (.v (.int .u64 g))), (15, .o (.v (u32 t))), (157, .o (.v (.slice A k c))), (158, .o (.v (.int .i64 k))), (159, .o (.v (.int .i64 E.length)))], [(194, .sym (u32V (P0 ++ (E ++ (D'.drop E.length ++ R))) ++ junk) t_uint32)], [SlRes A (u32V V)]⟩)
           (fun ⟨E, t⟩ => E.length ≤ k ∧ t ≤ 1 ∧ (∀ x ∈ E, x < 2 ^ 32) ∧ lv (2 ^ 32) E + (2 ^ 32) ^ E.length * t = lv (2 ^ 32) (D'.take E.length) + lv (2 ^ 32) (V.take E.length)) (fun ⟨E, t⟩ => k - E.length) ([], 0)
           ⟨Nat.zero_le _, by decide, (fun x h => by cases h), by simp [lv]⟩ (SLe.id ⟨rfl, rfl, rfl, rfl, rfl, rfl, rfl, rfl, rfl, trivial⟩ ⟨⟨_, rfl, by rw [hD']; exact .refl _⟩, trivial⟩ (fun R hR => hR)) ?_
         rintro ⟨E, t⟩ ⟨hE, ht, hEb, hinv2⟩
         conv => whnf
         refine br_split ?_ ?_
         · intro h
           have hi2 : E.length < k := by have : (E.length : Int) < k := by simpa using h
                                         omega
           conv => whnf
           refine ⟨⟨by omega, by omega, hA⟩, ?_⟩
           conv => whnf
           refine LoadVC.elem u32c u32c_len (List.mem_singleton.2 rfl) rfl (by rw [Int.toNat_natCast]; omega) (by decide) (fun _ => rfl) ?_
           rw [Int.toNat_natCast]
           intro v hv
           have hvb : v < 2 ^ 32 := hV v (List.mem_of_getElem? hv)
           conv => whnf
           have hij : IntKind.i64.wrap ((P0.length : Int) + (E.length : Int)) = ((P0.length + E.length : Nat) : Int) := by rw [wrap_i64 (by omega) (by omega)]; omega
           obtain ⟨sj, hsj⟩ : ∃ sj, sj = D'.getD E.length 0 := ⟨_, rfl⟩
           have hsg : D'[E.length]? = some sj := by rw [hsj]; exact getD_get (by omega)
           have hsb : sj < 2 ^ 32 := hDB sj (List.mem_of_getElem? hsg)
           have hdrop : D'.drop E.length = sj :: D'.drop (E.length + 1) := by
             rw [List.drop_eq_getElem_cons (show E.length < D'.length by omega)]
             congr 1
             rw [List.getElem?_eq_getElem (show E.length < D'.length by omega)] at hsg
             exact Option.some.inj hsg
           refine ⟨by rw [hij]; omega, ?_⟩
           conv => whnf
           refine RowVC.elemJ u32c u32c_len (k := P0.length + E.length) (by rw [hij]; show 0 + (P0.length + E.length) * 1 = _; omega) (by rw [hdrop]; simp) (by decide) (fun _ => rfl) ?_
           intro s' hs'
           obtain rfl : s' = sj := by
             rw [List.getElem?_append_right (by omega), Nat.add_sub_cancel_left, List.getElem?_append_right (by omega), Nat.sub_self, hdrop] at hs'
             exact (Option.some.inj hs').symm
           conv => whnf
           refine CallVC.fn (c_Add32 s' v t hsb hvb ht) rfl ?_
           conv => whnf
           refine ⟨by rw [hij]; omega, ?_⟩
           conv => whnf
           refine ⟨by rw [hij, List.length_append, u32V_length, hdrop]; show 0 + (P0.length + E.length) * 1 + 1 ≤ _; simp; omega, ?_⟩
           conv => whnf
           refine ⟨(E ++ [(s' + v + t) % 2 ^ 32], (s' + v + t) / 2 ^ 32), ⟨by simp; omega, by show (s' + v + t) / 2 ^ 32 ≤ 1; omega, ?_, ?_⟩, by simp; omega, ?_⟩
           · intro z hz
             rcases List.mem_append.1 hz with hz | hz
             · exact hEb z hz
             · rw [List.mem_singleton.1 hz]; exact Nat.mod_lt _ (by decide)
           · rw [List.length_append]
             exact back_step (by decide) rfl hinv2 hsg hv
           · refine SLe.id ⟨rfl, rfl, rfl, rfl, rfl, rfl, rfl, rfl, ?_, trivial⟩ ⟨⟨_, rfl, ?_⟩, trivial⟩ (fun R hR => hR)
             · show some (SV.o (.v (.int _ (IntKind.i64.wrap ((E.length : Int) + 1))))) = some (SV.o (.v (.int _ (((E ++ [_]).length : Nat) : Int))))
               rw [wrap_i64 (by omega) (by omega), List.length_append]; rfl
             · show MEle (ME.sym (putN (0 + (IntKind.i64.wrap ((P0.length : Int) + (E.length : Int))).toNat * 1) [Value.int .u32 _] (rowV u32c (P0 ++ (E ++ (D'.drop E.length ++ R))) ++ junk)) _)
                 (ME.sym (rowV u32c (P0 ++ ((E ++ [(s' + v + t) % 2 ^ 32]) ++ (D'.drop (E ++ [_]).length ++ R))) ++ junk) _)
               rw [hij, hdrop, List.length_append, ← List.append_assoc P0 E, List.cons_append, u32V_midJ (P0 ++ E) _ _ _ _ (by simp; omega)]
               simp only [List.append_assoc]
               exact .refl _
         · intro h
           have hi2 : E.length = k := by have : ¬ (E.length : Int) < k := by simpa using h
                                         omega
           have hdrop : D'.drop E.length = [d] := by rw [hD', hi2, ← hi]; simp
           have htk : D'.take E.length = D := by rw [hD', hi2, ← hi]; simp
           rw [htk, List.take_of_length_le (show V.length ≤ E.length by omega)] at hinv2
           conv => whnf
           refine ⟨by rw [hik]; omega, ?_⟩
           conv => whnf
           refine RowVC.elemJ u32c u32c_len (k := P0.length + k) (by rw [hik]; show 0 + (P0.length + k) * 1 = _; omega) (by rw [hdrop]; simp; omega) (by decide) (fun _ => rfl) ?_
           intro s' hs'
           obtain rfl : s' = d := by
             rw [List.getElem?_append_right (by omega), Nat.add_sub_cancel_left, List.getElem?_append_right (by omega), hdrop, hi2, Nat.sub_self] at hs'
             exact (Option.some.inj hs').symm
           conv => whnf
           refine ⟨by rw [hik]; omega, ?_⟩
           conv => whnf
           refine ⟨by rw [hik, List.length_append, u32V_length, hdrop]; show 0 + (P0.length + k) * 1 + 1 ≤ _; simp; omega, ?_⟩
           conv => whnf
           refine ⟨?_, ?_⟩
           · show [SV.o (.v (.int .u32 (IntKind.u32.wrap (IntKind.u64.wrap ((g : Int) - 1)))))] = _
             have e1 : IntKind.u64.wrap ((g : Int) - 1) = (Q : Int) := by rw [IntKind.wrap_u64]; omega
             rw [e1, IntKind.wrap_u32, show (Q : Int) % 4294967296 = (Q : Int) by omega, hQ]
           · show some (ME.sym (putN (0 + (IntKind.i64.wrap ((P0.length : Int) + (k : Int))).toNat * 1) [Value.int .u32 (IntKind.u32.wrap ((s' : Int) + (t : Int)))] (rowV u32c (P0 ++ (E ++ (D'.drop E.length ++ R))) ++ junk)) t_uint32) = _
             have e2 : IntKind.u32.wrap ((s' : Int) + (t : Int)) = (((s' + t) % 2 ^ 32 : Nat) : Int) := by rw [IntKind.wrap_u32]; omega
             have hres : lv (2 ^ 32) (E ++ [(s' + t) % 2 ^ 32]) = lv (2 ^ 32) S % lv (2 ^ 32) V := by
               refine back_last (D := D') (d := s') (D' := lv (2 ^ 32) D) (by decide) hi2 hEb (by rw [← hi2]; exact hinv2) (by rw [hD', lv_snoc, hi]) ?_ hQ hVlt hVpos
               rw [← hg]; rw [Nat.mul_one] at hfin; exact hfin
             rw [e2, hik, hdrop, ← List.append_assoc P0 E, List.cons_append, u32V_midJ (P0 ++ E) _ _ _ _ (by simp; omega), ← hres]
             have hl3 : (E ++ [(s' + t) % 2 ^ 32]).length = k + 1 := by rw [List.length_append, hi2]; rfl
             rw [← hl3, pad_lv (by decide) _ (by
               intro z hz
               rcases List.mem_append.1 hz with hz | hz
               · exact hEb z hz
               · rw [List.mem_singleton.1 hz]; exact Nat.mod_lt _ (by decide))]
             simp only [List.append_assoc, List.nil_append]
end Go.Sx
end
section
set_option maxRecDepth 10000
set_option maxHeartbeats 2000000
namespace Go.Sx
open Go Go.Proofs
theorem pad_cut {B m i k r : Nat} (hB : 0 < B) (hm : i + k ≤ m) (hr : r < B ^ (i + k)) :
   ∃ P S R, pad B m r = P ++ (S ++ R) ∧ P.length = i ∧ S.length = k ∧ (∀ x ∈ P, x < B) ∧ (∀ x ∈ S, x < B) ∧ lv B S = r / B ^ i ∧
     ∀ s, s < B ^ k → P ++ (pad B k s ++ R) = pad B m (r % B ^ i + B ^ i * s) := by
 have hBm : B ^ (i + k) ≤ B ^ m := Nat.pow_le_pow_right hB hm
 have hval : lv B (pad B m r) = r := by rw [lv_pad hB, Nat.mod_eq_of_lt (by omega)]
 have hlt := pad_lt hB m r
 obtain ⟨l, hl⟩ : ∃ l, l = pad B m r := ⟨_, rfl⟩
 have hll : l.length = m := by rw [hl, pad_length]
 rw [← hl] at hval hlt ⊢
 refine ⟨l.take i, (l.drop i).take k, (l.drop i).drop k, by rw [List.take_append_drop, List.take_append_drop], by rw [List.length_take]; omega, by rw [List.length_take, List.length_drop]; omega, fun x hx => hlt x (List.mem_of_mem_take hx), fun x hx => hlt x (List.mem_of_mem_drop (List.mem_of_mem_take hx)), ?_, ?_⟩
 all_goals
   have hR : lv B ((l.drop i).drop k) = 0 := by
     rw [List.drop_drop, ← lv_div_pow hB hlt _ (by omega), hval, Nat.div_eq_of_lt hr]
   have hP : lv B (l.take i) < B ^ i := by
     have := lv_lt hB (l.take i) (fun x hx => hlt x (List.mem_of_mem_take hx))
     rwa [List.length_take, Nat.min_eq_left (by omega)] at this
   have h1 : lv B (l.drop i) = r / B ^ i := by rw [← lv_div_pow hB hlt _ (by omega), hval]
   have h2 : lv B (l.drop i) = lv B ((l.drop i).take k) := by
     conv => lhs; rw [← List.take_append_drop k (l.drop i), lv_append, hR]
     omega
   have h3 : lv B (l.take i) = r % B ^ i := by
     have h4 : r = lv B (l.take i) + B ^ i * lv B (l.drop i) := by
       conv => lhs; rw [← hval, ← List.take_append_drop i l, lv_append, List.length_take, Nat.min_eq_left (by omega)]
     rw [h4, Nat.add_mul_mod_self_left, Nat.mod_eq_of_lt hP]
 · rw [← h2, h1]
 · intro s hs
   have h5 : ∀ x ∈ l.take i ++ (pad B k s ++ (l.drop i).drop k), x < B := by
     intro x hx
     rcases List.mem_append.1 hx with hx | hx
     · exact hlt x (List.mem_of_mem_take hx)
     · rcases List.mem_append.1 hx with hx | hx
       · exact pad_lt hB _ _ x hx
       · exact hlt x (List.mem_of_mem_drop (List.mem_of_mem_drop hx))
   have h6 := pad_lv hB _ h5
   rw [lv_append, lv_append, hR, List.length_take, Nat.min_eq_left (by omega), lv_pad hB, Nat.mod_eq_of_lt hs, h3, Nat.mul_zero, Nat.add_zero] at h6
   rw [← h6]
   congr 1
   simp only [List.length_append, List.length_take, List.length_drop, pad_length]
   omega
theorem quo_step {B v N i : Nat} (hB : 0 < B) (hv : 0 < v) :
   N % (B ^ (i + 1) * v) / (B ^ i * v) = N / (B ^ i * v) % B ∧ N % (B ^ (i + 1) * v) % (B ^ i * v) = N % (B ^ i * v) ∧ N / (B ^ (i + 1) * v) = N / (B ^ i * v) / B := by
 have e : B ^ (i + 1) * v = (B ^ i * v) * B := by rw [Nat.pow_succ]; exact Nat.mul_right_comm _ _ _
 rw [e]
 refine ⟨?_, ?_, (Nat.div_div_eq_div_mul _ _ _).symm⟩
 · rw [Nat.mod_mul_right_div_self]
 · exact Nat.mod_mul_right_mod _ _ _
theorem mod_split {B v r i : Nat} : r % B ^ i + B ^ i * (r / B ^ i % v) = r % (B ^ i * v) := by rw [Nat.mod_mul]
theorem div_split {B v r i : Nat} : r / B ^ i / v = r / (B ^ i * v) := Nat.div_div_eq_div_mul _ _ _
theorem norm_lead {k q t n : Nat} {B : Nat} (hB : B = 2 ^ 32) (hk : 0 < k) (ht : t = (digs B q).getD (k - 1) 0) (hkl : k = (digs B q).length) (hn : t * 2 ^ n < 2 ^ 32) (hn2 : 2 ^ 31 ≤ t * 2 ^ n) :
   q * 2 ^ n < B ^ k ∧ 2 ^ 31 * B ^ (k - 1) ≤ q * 2 ^ n := by
 have hB2 : 2 ≤ B := by rw [hB]; decide
 have hq := lv_digs hB2 q
 have hlt := digs_lt hB2 q
 obtain ⟨l, hl⟩ : ∃ l, l = digs B q := ⟨_, rfl⟩
 rw [← hl] at hq hlt ht hkl
 obtain ⟨j, rfl⟩ : ∃ j, k = j + 1 := ⟨k - 1, by omega⟩
 rw [Nat.add_sub_cancel] at ht ⊢
 have h1 : l = l.take j ++ [t] := by
   conv => lhs; rw [← List.take_append_drop j l]
   congr 1
   rw [List.drop_eq_getElem_cons (by omega), List.drop_of_length_le (by omega), ht, List.getD_eq_getElem?_getD, List.getElem?_eq_getElem (by omega)]
   rfl
 have h2 : lv B l = lv B (l.take j) + B ^ j * t := by
   conv => lhs; rw [h1, lv_append, List.length_take, Nat.min_eq_left (by omega)]
   simp [lv]
 have h3 : lv B (l.take j) < B ^ j := by
   have := lv_lt (show 0 < B by omega) (l.take j) (fun x hx => hlt x (List.mem_of_mem_take hx))
   rwa [List.length_take, Nat.min_eq_left (by omega)] at this
 have hqe : q = lv B (l.take j) + B ^ j * t := by rw [← hq, h2]
 have hpn : 0 < 2 ^ n := Nat.pow_pos (by decide)
 constructor
 · have h4 : q < B ^ j * (t + 1) := by rw [Nat.mul_add]; omega
   have h5 : q * 2 ^ n < B ^ j * (t + 1) * 2 ^ n := Nat.mul_lt_mul_of_pos_right h4 hpn
   have h6 : (t + 1) * 2 ^ n ≤ B := by
     rw [hB]
     have hd : (2:Nat) ^ 32 = 2 ^ (32 - n) * 2 ^ n := by
       rw [← Nat.pow_add]; congr 1
       by_cases hn3 : n ≤ 32
       · omega
       · exfalso
         have h7 : 2 ^ 32 ≤ 2 ^ n := Nat.pow_le_pow_right (by decide) (by omega)
         have h8 : 0 < t := by
           rcases Nat.eq_zero_or_pos t with h9 | h9
           · rw [h9] at hn2; omega
           · exact h9
         have : 1 * 2 ^ n ≤ t * 2 ^ n := Nat.mul_le_mul_right _ h8
         omega
     rw [hd] at hn ⊢
     have : t < 2 ^ (32 - n) := Nat.lt_of_mul_lt_mul_right hn
     exact Nat.mul_le_mul_right _ this
   have h7 : B ^ j * (t + 1) * 2 ^ n ≤ B ^ (j + 1) := by
     rw [Nat.mul_assoc, Nat.pow_succ]; exact Nat.mul_le_mul_left _ h6
   omega
 · have h4 : B ^ j * t ≤ q := by omega
   have h5 : B ^ j * t * 2 ^ n ≤ q * 2 ^ n := Nat.mul_le_mul_right _ h4
   have h6 : B ^ j * 2 ^ 31 ≤ B ^ j * (t * 2 ^ n) := Nat.mul_le_mul_left _ hn2
   rw [← Nat.mul_assoc] at h6
   rw [Nat.mul_comm]; omega

theorem c_divide (A D : Option Addr) (c d : Nat) (p q : Nat) (hq : 0 < q) (hlp : (digs (2 ^ 32) p).length ≤ 100000000000) (hlq : (digs (2 ^ 32) q).length ≤ 100000000000) :
   FnM PP f_bigint_limbs_divide [.slice A (digs (2 ^ 32) p).length c, .slice D (digs (2 ^ 32) q).length d] (facts [SlRes A (u32V (digs (2 ^ 32) p)), SlRes D (u32V (digs (2 ^ 32) q))])
     (retsD (.slice A (digs (2 ^ 32) p).length c) (u32V (digs (2 ^ 32) p)) (digs (2 ^ 32) p).length t_uint32 1 (digs (2 ^ 32) (p / q)).length (u32V (digs (2 ^ 32) (p / q))) (digs (2 ^ 32) (p % q)).length (u32V (digs (2 ^ 32) (p % q)))) := by
 refine FnD.of TBgood mixed h_bigint_limbs_divide rfl rfl (Nat.le_of_ble_eq_true rfl) (by simp [SlRes.ok]) ?_
 intro w hw
 conv => whnf
 have hcs := c_compare p q A D c d (by omega) (by omega)
 refine CallVC.v hcs.enters (CallV.facts hcs rfl (fun R hR => hR)) ?_
 conv => whnf
 refine br_split ?_ ?_
 · intro h
   have hlt : p < q := by
     have : cmpN p q < 0 := of_decide_eq_true h
     unfold cmpN at this; split at this
     · assumption
     · split at this <;> omega
   conv => whnf
   refine .inr ⟨rfl, ?_⟩
   rw [Nat.div_eq_of_lt hlt, Nat.mod_eq_of_lt hlt, digs_zero]
   exact ⟨rfl, rfl, rfl, rfl⟩
 · intro h
   have hle : q ≤ p := by
     have : ¬ cmpN p q < 0 := of_decide_eq_false h
     unfold cmpN at this; split at this
     · omega
     · omega
   conv => whnf
   refine br_split ?_ ?_
   · intro h1
     have hl1 : (digs (2 ^ 32) q).length = 1 := by
       have : ((digs (2 ^ 32) q).length : Int) = 1 := eq_of_beq h1
       omega
     have hq1 : digs (2 ^ 32) q = [q] := by
       have e1 := lv_digs (B := 2 ^ 32) (by decide) q
       match hd : digs (2 ^ 32) q, hl1 with
       | [x], _ => rw [hd] at e1; simp [lv] at e1; rw [e1]
     have hqb : q < 2 ^ 32 := digs_lt (by decide) q q (by rw [hq1]; simp)
     have hD : D.isSome = true := slres_some (facts_two hw).2 (by rw [u32V_length]; omega)
     conv => whnf
     refine ⟨⟨by decide, by omega, hD⟩, ?_⟩
     conv => whnf
     refine LoadVC.elem u32c u32c_len (List.mem_cons_of_mem _ (List.mem_singleton.2 rfl)) rfl (by rw [hl1]; decide) (by decide) (fun _ => rfl) ?_
     intro x hx
     obtain rfl : x = q := by rw [hq1] at hx; exact (Option.some.inj hx).symm
     conv => whnf
     have hsh := c_short A c (digs (2 ^ 32) p) x (digs_lt (by decide) p) hq hqb hlp
     rw [lv_digs (by decide)] at hsh
     refine CallVC.t 26 hsh.enters (CallV.facts hsh rfl (fun R hR => List.mem_cons.2 (.inl (List.mem_singleton.1 hR)))) rfl rfl ?_
     conv => whnf
     have hr := Nat.mod_lt p hq
     have htr : tr [p % x] = digs (2 ^ 32) (p % x) := by
       rw [tr_eq (B := 2 ^ 32) (by decide) (by intro y hy; rw [List.mem_singleton.1 hy]; omega)]; simp [lv]
     have hn1 := tr_length [p % x]
     rw [htr] at hn1
     refine CallVC.cutB 32 (t := t_uint32) (es := 1) (n := 1) (n' := (digs (2 ^ 32) (p % x)).length) (cp := 1) (xs := u32V [p % x]) (fun A c hc => ?_) rfl rfl hn1 (by decide) (by decide) rfl rfl rfl ?_ rfl
     · have := c_trim A c [p % x] hc (by simp)
       rw [htr] at this; exact this
     · conv => whnf
       refine .inl ⟨26, 32, rfl, by decide, rfl, ?_⟩
       show some (ME.own t_uint32 1 _ ((rowV u32c [p % x]).take ((digs (2 ^ 32) (p % x)).length * 1))) = _
       rw [rowV_take u32c_len, ← htr, tr_take]
   · intro h1
     obtain ⟨k, hk⟩ : ∃ k, k = (digs (2 ^ 32) q).length := ⟨_, rfl⟩
     obtain ⟨m, hm⟩ : ∃ m, m = (digs (2 ^ 32) p).length := ⟨_, rfl⟩
     have hk2 : 2 ≤ k := by
       have h2 : ¬ ((digs (2 ^ 32) q).length : Int) = 1 := ne_of_beq_false h1
       have h3 : digs (2 ^ 32) q ≠ [] := fun e => by have := (digs_nil (by decide)).1 e; omega
       have := List.length_pos_iff.2 h3
       omega
     have hmk : k ≤ m := by
       rw [hk, hm]
       exact digs_length_le (by decide) (Nat.lt_of_le_of_lt hle (le_of_digs_length (by decide)))
     have hD : D.isSome = true := slres_some (facts_two hw).2 (by rw [u32V_length]; omega)
     have hqlt := digs_lt (B := 2 ^ 32) (by decide) q
     have hplt := digs_lt (B := 2 ^ 32) (by decide) p
     obtain ⟨t, ht⟩ : ∃ t, t = (digs (2 ^ 32) q).getD (k - 1) 0 := ⟨_, rfl⟩
     have htg : (digs (2 ^ 32) q)[k - 1]? = some t := by rw [ht]; exact getD_get (by omega)
     have htb : t < 2 ^ 32 := hqlt t (List.mem_of_getElem? htg)
     have ht0 : 0 < t := by
       have := digs_last (B := 2 ^ 32) (by decide) q
       rw [List.getLast?_eq_getElem?, ← hk, htg] at this
       rcases Nat.eq_zero_or_pos t with h0 | h0
       · rw [h0] at this; exact absurd rfl this
       · exact h0
     obtain ⟨n, hn⟩ : ∃ n, n = 32 - blen t := ⟨_, rfl⟩
     have hb1 := blen_lt t
     have hb2 := blen_ge ht0
     have hb3 := blen_le htb
     have hn32 : n < 32 := by omega
     have hlead : t * 2 ^ n < 2 ^ 32 ∧ 2 ^ 31 ≤ t * 2 ^ n := by
       have e1 : (2 : Nat) ^ 32 = 2 ^ blen t * 2 ^ n := by rw [← Nat.pow_add]; congr 1; omega
       have e2 : (2 : Nat) ^ 31 = 2 ^ (blen t - 1) * 2 ^ n := by rw [← Nat.pow_add]; congr 1; omega
       rw [e1, e2]
       exact ⟨Nat.mul_lt_mul_of_pos_right hb1 (Nat.pow_pos (by decide)), Nat.mul_le_mul_right _ hb2.1⟩
     have hnorm := norm_lead (k := k) (q := q) (t := t) (n := n) rfl (by omega) ht hk hlead.1 hlead.2
     have hk1 : IntKind.i64.wrap ((k : Int) - 1) = ((k - 1 : Nat) : Int) := by rw [wrap_i64 (by omega) (by omega)]; omega
     conv => whnf
     refine ⟨⟨by rw [← hk, hk1]; omega, by rw [← hk, hk1]; omega, hD⟩, ?_⟩
     conv => whnf
     refine LoadVC.elem u32c u32c_len (List.mem_cons_of_mem _ (List.mem_singleton.2 rfl)) rfl (by rw [← hk, hk1, Int.toNat_natCast]; omega) (by decide) (fun _ => rfl) ?_
     rw [← hk, hk1, Int.toNat_natCast]
     intro x hx
     obtain rfl : x = t := by rw [htg] at hx; exact (Option.some.inj hx).symm
     conv => whnf
     have hlz := c_LeadingZeros32 x htb
     rw [← hn] at hlz
     refine CallVC.fn hlz rfl ?_
     conv => whnf
     have hs1 := c_shift A c (digs (2 ^ 32) p) n hplt hn32 hlp
     rw [lv_digs (by decide)] at hs1
     refine CallVC.o 42 hs1.enters (CallV.facts hs1 rfl (fun R hR => List.mem_cons.2 (.inl (List.mem_singleton.1 hR)))) rfl rfl ?_
     conv => whnf
     have hs2 := c_shift D d (digs (2 ^ 32) q) n hqlt hn32 hlq
     rw [lv_digs (by decide), ← hk] at hs2
     refine CallVC.o 45 hs2.enters (CallV.facts hs2 rfl (fun R hR => List.mem_cons.2 (.inr hR))) rfl rfl ?_
     conv => whnf
     obtain ⟨v, hv⟩ : ∃ v, v = q * 2 ^ n := ⟨_, rfl⟩
     rw [← hv] at hnorm
     have hvpos : 0 < v := Nat.lt_of_lt_of_le (Nat.mul_pos (by decide) (Nat.pow_pos (by decide))) hnorm.2
     have hpk : (2 ^ 32) ^ (k - 1) ≤ v := by
       have : 1 * (2 ^ 32) ^ (k - 1) ≤ 2 ^ 31 * (2 ^ 32) ^ (k - 1) := Nat.mul_le_mul_right _ (by decide)
       omega
     have hVp : pad (2 ^ 32) k v = digs (2 ^ 32) v := pad_digs (by decide) hnorm.1 (.inr hpk)
     have hVl : (digs (2 ^ 32) v).length = k := by rw [← hVp, pad_length]
     have hVlt := digs_lt (B := 2 ^ 32) (by decide) v
     have hVlv := lv_digs (B := 2 ^ 32) (by decide) v
     have htrV : tr (pad (2 ^ 32) (k + 1) v) = digs (2 ^ 32) v := by
       rw [tr_eq (B := 2 ^ 32) (by decide) (pad_lt (by decide) _ _), lv_pad (by decide), Nat.mod_eq_of_lt (Nat.lt_of_lt_of_le hnorm.1 (Nat.pow_le_pow_right (by decide) (by omega)))]
     refine CallVC.cutO (n := k + 1) (xs := u32V (pad (2 ^ 32) (k + 1) (q * 2 ^ n))) (n' := k) 46 (fun A c hc => ?_) rfl (by omega) rfl rfl ?_ rfl
     · have := c_trim A c (pad (2 ^ 32) (k + 1) v) (by rw [pad_length]; exact hc) (by rw [pad_length]; omega)
       rw [htrV, hVl, pad_length] at this
       rw [← hv]; exact this
     have hVtake : (u32V (pad (2 ^ 32) (k + 1) (q * 2 ^ n))).take (k * 1) = u32V (digs (2 ^ 32) v) := by
       have := tr_take (pad (2 ^ 32) (k + 1) v)
       rw [htrV, hVl] at this
       rw [← hv, rowV_take u32c_len, this]
     have hml : IntKind.i64.wrap (((m + 1 : Nat) : Int) - (k : Int)) = ((m + 1 - k : Nat) : Int) := by rw [wrap_i64 (by omega) (by omega)]; omega
     rw [hVtake]
     rw [← hm]
     conv => whnf
     rw [hml]
     refine ⟨⟨by omega, by omega, by show (4 : Int) * _ ≤ _; omega, by omega⟩, ?_⟩
     conv => whnf
     obtain ⟨N, hN⟩ : ∃ N, N = p * 2 ^ n := ⟨_, rfl⟩
     rw [← hN]
     have hp1 : p < (2 ^ 32) ^ m := by rw [hm]; exact le_of_digs_length (by decide)
     have hNlt : N < (2 ^ 32) ^ (m + 1 - k) * v := by
       have e1 : N < (2 ^ 32) ^ m * 2 ^ 31 := by
         have h1 : p * 2 ^ n < (2 ^ 32) ^ m * 2 ^ n := Nat.mul_lt_mul_of_pos_right hp1 (Nat.pow_pos (by decide))
         have h2 : (2 ^ 32) ^ m * 2 ^ n ≤ (2 ^ 32) ^ m * 2 ^ 31 := Nat.mul_le_mul_left _ (Nat.pow_le_pow_right (by decide) (by omega))
         rw [hN]; omega
       have e2 : (2 ^ 32) ^ (m + 1 - k) * (2 ^ 31 * (2 ^ 32) ^ (k - 1)) ≤ (2 ^ 32) ^ (m + 1 - k) * v := Nat.mul_le_mul_left _ hnorm.2
       have e3 : ((2 ^ 32) ^ (m + 1 - k) * (2 ^ 31 * (2 ^ 32) ^ (k - 1)) : Nat) = (2 ^ 32) ^ m * 2 ^ 31 := by
         have : m = (m + 1 - k) + (k - 1) := by omega
         conv => rhs; rw [this]
         rw [Nat.pow_add, Nat.mul_assoc, Nat.mul_comm (2 ^ 31)]
       omega
     refine sexec_loop (ι := Nat) (fun j => ⟨[(8, .o (.v (.int .i64 n))), (9, .o (.w 42)), (10, .o (.w 46)), (11, .o (.w 52)), (12, .o (.v (.int .i64 ((j : Int) - 1))))], [(42, .own t_uint32 1 (m + 1) (u32V (pad (2 ^ 32) (m + 1) (N % ((2 ^ 32) ^ j * v))))), (46, .own t_uint32 1 k (u32V (digs (2 ^ 32) v))), (52, .own t_uint32 1 (m + 1 - k) (u32V (List.replicate j 0 ++ pad (2 ^ 32) (m + 1 - k - j) (N / ((2 ^ 32) ^ j * v)))))], [SlRes A (u32V (digs (2 ^ 32) p)), SlRes D (u32V (digs (2 ^ 32) q))]⟩)
       (fun j => j ≤ m + 1 - k) (fun j => j) (m + 1 - k) (Nat.le_refl _) (SLe.id ⟨rfl, rfl, rfl, rfl, ?_, trivial⟩ ⟨⟨_, rfl, ?_⟩, ⟨_, rfl, .refl _⟩, ⟨_, rfl, ?_⟩, trivial⟩ (fun R hR => hR)) ?_
     · show some (SV.o (.v (.int _ (IntKind.i64.wrap (((m + 1 - k : Nat) : Int) - 1))))) = some (SV.o (.v (.int _ (((m + 1 - k : Nat) : Int) - 1))))
       rw [wrap_i64 (by omega) (by omega)]
     · rw [Nat.mod_eq_of_lt hNlt]; exact .refl _
     · rw [Nat.sub_self, Int.toNat_natCast]
       simp only [ME.ren, u32V, pad, List.range_zero, List.map_nil, List.append_nil, rowV_repl]
       exact .refl _
     intro j hj
     conv => whnf
     refine br_split ?_ ?_
     · intro h
       have hj0 : 0 < j := by have : (0 : Int) ≤ (j : Int) - 1 := of_decide_eq_true h
                              omega
       conv => whnf
       obtain ⟨i, rfl⟩ : ∃ i, j = i + 1 := ⟨j - 1, by omega⟩
       have hvk : v < (2 ^ 32) ^ k := hnorm.1
       obtain ⟨r, hr⟩ : ∃ r, r = N % ((2 ^ 32) ^ (i + 1) * v) := ⟨_, rfl⟩
       have hvp2 : 0 < (2 ^ 32) ^ (i + 1) * v := Nat.mul_pos (Nat.pow_pos (by decide)) hvpos
       have hrlt : r < (2 ^ 32) ^ (i + 1) * v := by rw [hr]; exact Nat.mod_lt _ hvp2
       have hrk : r < (2 ^ 32) ^ (i + (k + 1)) := by
         have h1 : (2 ^ 32) ^ (i + 1) * v < (2 ^ 32) ^ (i + 1) * (2 ^ 32) ^ k := Nat.mul_lt_mul_of_pos_left hvk (Nat.pow_pos (by decide))
         rw [← Nat.pow_add] at h1
         rw [show i + (k + 1) = i + 1 + k by omega]; omega
       obtain ⟨P, S, R, hcut, hPl, hSl, hPb, hSb, hSv, hback⟩ := pad_cut (B := 2 ^ 32) (m := m + 1) (i := i) (k := k + 1) (r := r) (by decide) (by omega) hrk
       have hfit : lv (2 ^ 32) S < 2 ^ 32 * v := by
         rw [hSv, Nat.div_lt_iff_lt_mul (Nat.pow_pos (by decide))]
         rw [Nat.pow_succ] at hrlt
         have : (2 ^ 32) ^ i * 2 ^ 32 * v = 2 ^ 32 * v * (2 ^ 32) ^ i := by rw [Nat.mul_assoc]; exact Nat.mul_comm _ _
         omega
       obtain ⟨hs1, hs2, hs3⟩ := quo_step (B := 2 ^ 32) (v := v) (N := N) (i := i) (by decide) hvpos
       rw [← hr] at hs1 hs2
       have hdig : ∀ A c, k ≤ c → FnW PP f_bigint_limbs_digit (.slice A k c :: [.int .i64 ((((i + 1 : Nat) : Int)) - 1)]) [SlRes A (u32V (digs (2 ^ 32) v))] t_uint32 (m + 1) (u32V (pad (2 ^ 32) (m + 1) r)) (u32V (pad (2 ^ 32) (m + 1) (N % ((2 ^ 32) ^ i * v)))) (u32 (N / ((2 ^ 32) ^ i * v) % 2 ^ 32)) := by
         intro A c hc
         have hl : (P ++ (S ++ R)).length = m + 1 := by rw [← hcut, pad_length]
         have := c_digit A c (digs (2 ^ 32) v) P S R (by omega) (by omega) hVlt hPb hSb (by
           have h0 := digs_last (B := 2 ^ 32) (by decide) v
           rw [List.getLast?_eq_getElem?] at h0
           rw [getD_get (show (digs (2 ^ 32) v).length - 1 < (digs (2 ^ 32) v).length by omega)] at h0
           rcases Nat.eq_zero_or_pos ((digs (2 ^ 32) v).getD ((digs (2 ^ 32) v).length - 1) 0) with h2 | h2
           · rw [h2] at h0; exact absurd rfl h0
           · exact h2) (by rw [hVlv]; exact hfit) (by omega)
         rw [hl, hVl, hVlv, hSv, div_split, hs1, ← hcut, hback _ (Nat.lt_trans (Nat.mod_lt _ hvpos) (Nat.lt_of_lt_of_le hvk (Nat.pow_le_pow_right (by decide) (by omega)))), mod_split, hs2, hPl] at this
         rw [show (((i + 1 : Nat) : Int)) - 1 = (i : Int) by omega]
         exact this
       refine CallVC.w1 (k := 42) (j := 46) (tl := [.int .i64 ((((i + 1 : Nat) : Int)) - 1)]) (by decide) rfl rfl (by omega) (fun A c hc => by rw [← hr]; exact hdig A c hc) (by rw [u32V_length, u32V_length, pad_length, pad_length]) ?_
       conv => whnf
       refine ⟨⟨by omega, by omega⟩, ?_⟩
       conv => whnf
       refine ⟨⟨by rw [u32V_length, List.length_append, List.length_replicate, pad_length]; show ((((i + 1 : Nat) : Int)) - 1).toNat * 1 + 1 ≤ _; omega, by decide⟩, ?_⟩
       conv => whnf
       refine ⟨i, by omega, by omega, SLe.id ⟨rfl, rfl, rfl, rfl, ?_, trivial⟩ ⟨⟨_, rfl, .refl _⟩, ⟨_, rfl, .refl _⟩, ⟨_, rfl, ?_⟩, trivial⟩ (fun R hR => hR)⟩
       · show some (SV.o (.v (.int _ (IntKind.i64.wrap ((((i + 1 : Nat) : Int)) - 1 - 1))))) = some (SV.o (.v (.int _ ((i : Int) - 1))))
         rw [wrap_i64 (by omega) (by omega)]; congr 4; omega
       · show MEle (ME.own _ _ _ (putN (((((i + 1 : Nat) : Int)) - 1).toNat * 1) [Value.int .u32 ((N / ((2 ^ 32) ^ i * v) % 2 ^ 32 : Nat) : Int)] (rowV u32c (List.replicate (i + 1) 0 ++ pad (2 ^ 32) (m + 1 - k - (i + 1)) (N / ((2 ^ 32) ^ (i + 1) * v))))))
           (ME.own _ _ _ (rowV u32c (List.replicate i 0 ++ pad (2 ^ 32) (m + 1 - k - i) (N / ((2 ^ 32) ^ i * v)))))
         rw [show m + 1 - k - i = (m + 1 - k - (i + 1)) + 1 by omega, pad_succ, ← hs3]
         have hrep : List.replicate (i + 1) 0 ++ pad (2 ^ 32) (m + 1 - k - (i + 1)) (N / ((2 ^ 32) ^ (i + 1) * v)) = List.replicate i 0 ++ 0 :: pad (2 ^ 32) (m + 1 - k - (i + 1)) (N / ((2 ^ 32) ^ (i + 1) * v)) := by
           rw [List.replicate_succ']; simp
         rw [hrep, u32V_mid (List.replicate i 0) _ 0 _ (by rw [List.length_replicate]; omega)]
         simp only [List.append_assoc, List.singleton_append]
         exact .refl _
     · intro h
       have hj0 : j = 0 := by have : ¬ (0 : Int) ≤ (j : Int) - 1 := of_decide_eq_false h
                              omega
       subst hj0
       rw [Nat.pow_zero, Nat.one_mul, Nat.sub_zero, List.replicate_zero, List.nil_append]
       have hpq : N / v = p / q := by rw [hN, hv, Nat.mul_div_mul_right _ _ (Nat.pow_pos (by decide))]
       have hpr : N % v = p % q * 2 ^ n := by rw [hN, hv, Nat.mul_mod_mul_right]
       have hq1 : tr (pad (2 ^ 32) (m + 1 - k) (N / v)) = digs (2 ^ 32) (p / q) := by
         rw [tr_eq (B := 2 ^ 32) (by decide) (pad_lt (by decide) _ _), lv_pad (by decide), Nat.mod_eq_of_lt (Nat.div_lt_of_lt_mul (by rw [Nat.mul_comm]; exact hNlt)), hpq]
       have hr1 : tr (pad (2 ^ 32) (m + 1) (N % v)) = digs (2 ^ 32) (N % v) := by
         rw [tr_eq (B := 2 ^ 32) (by decide) (pad_lt (by decide) _ _), lv_pad (by decide), Nat.mod_eq_of_lt (Nat.lt_trans (Nat.mod_lt _ hvpos) (Nat.lt_of_lt_of_le hnorm.1 (Nat.pow_le_pow_right (by decide) (by omega))))]
       have hql := tr_length (pad (2 ^ 32) (m + 1 - k) (N / v))
       have hrl := tr_length (pad (2 ^ 32) (m + 1) (N % v))
       rw [hq1, pad_length] at hql
       rw [hr1, pad_length] at hrl
       conv => whnf
       refine CallVC.cutO (n := m + 1 - k) (xs := u32V (pad (2 ^ 32) (m + 1 - k) (N / v))) (n' := (digs (2 ^ 32) (p / q)).length) 68 (fun A c hc => ?_) rfl hql rfl rfl ?_ rfl
       · have := c_trim A c (pad (2 ^ 32) (m + 1 - k) (N / v)) (by rw [pad_length]; exact hc) (by rw [pad_length]; omega)
         rw [hq1, pad_length] at this; exact this
       conv => whnf
       refine CallVC.cutO (n := m + 1) (xs := u32V (pad (2 ^ 32) (m + 1) (N % v))) (n' := (digs (2 ^ 32) (N % v)).length) 70 (fun A c hc => ?_) rfl hrl rfl rfl ?_ rfl
       · have := c_trim A c (pad (2 ^ 32) (m + 1) (N % v)) (by rw [pad_length]; exact hc) (by rw [pad_length]; omega)
         rw [hr1, pad_length] at this; exact this
       have ht1 : (u32V (pad (2 ^ 32) (m + 1 - k) (N / v))).take ((digs (2 ^ 32) (p / q)).length * 1) = u32V (digs (2 ^ 32) (p / q)) := by
         have := tr_take (pad (2 ^ 32) (m + 1 - k) (N / v))
         rw [hq1] at this
         rw [rowV_take u32c_len, this]
       have ht2 : (u32V (pad (2 ^ 32) (m + 1) (N % v))).take ((digs (2 ^ 32) (N % v)).length * 1) = u32V (digs (2 ^ 32) (N % v)) := by
         have := tr_take (pad (2 ^ 32) (m + 1) (N % v))
         rw [hr1] at this
         rw [rowV_take u32c_len, this]
       rw [ht1, ht2]
       conv => whnf
       have hu : ∀ A c, (digs (2 ^ 32) (N % v)).length ≤ c → FnM PP f_bigint_limbs_unshift [.slice A (digs (2 ^ 32) (N % v)).length c, .int .i64 n] (facts [SlRes A (u32V (digs (2 ^ 32) (N % v)))]) (retsO t_uint32 1 (digs (2 ^ 32) (p % q)).length (u32V (digs (2 ^ 32) (p % q)))) := by
         intro A c hc
         have := c_unshift A c (digs (2 ^ 32) (N % v)) n (digs_lt (by decide) _) hn32 (by
           have : (digs (2 ^ 32) (N % v)).length ≤ k := digs_length_le (by decide) (Nat.lt_trans (Nat.mod_lt _ hvpos) hnorm.1)
           omega)
         rw [lv_digs (by decide), hpr, Nat.mul_div_cancel _ (Nat.pow_pos (by decide))] at this
         rw [hpr]; exact this
       refine CallVC.o 72 (hu none _ (Nat.le_refl _)).enters (CallV.sl1 (fun z => [z, .int .i64 n]) (RdA.own (k := 70) rfl) (List.mem_cons_self ..) (fun _ => rfl) hu) rfl rfl ?_
       conv => whnf
       exact .inl ⟨68, 72, rfl, by decide, rfl, rfl⟩
end Go.Sx
end
section
set_option maxRecDepth 10000
set_option maxHeartbeats 2000000
namespace Go.Sx
open Go Go.Proofs
theorem CallVCd.o {P : Program} {st : SS} {g : FuncId} {args : List SV} {d : Option Tmp} {t es n : Nat} {xs : List Value} {K : SV → Option ME → Prop} (hE : Enters P g) (h : CallV P g args st (retsO t es n xs)) (hk : K (.o (.w (d.getD 0))) (some (.own t es n xs))) : CallVCd P g args d st K :=
 ⟨hE, .inr ⟨t, es, n, xs, h, hk⟩⟩
theorem CallVCd.v {P : Program} {st : SS} {g : FuncId} {args : List SV} {d : Option Tmp} {r : Value} {K : SV → Option ME → Prop} (hE : Enters P g) (h : CallV P g args st (retsV r)) (hk : K (.o (.v r)) none) : CallVCd P g args d st K :=
 ⟨hE, .inl ⟨r, h, hk⟩⟩
abbrev dg (l : List UInt8) : List Nat := digs (2 ^ 32) (nat l)
theorem dg_len {l : List UInt8} : (dg l).length ≤ l.length := by
 refine digs_length_le (by decide) (Nat.lt_of_lt_of_le (nat_lt l) ?_)
 exact Nat.pow_le_pow_left (by decide) _
theorem dg_lt (l : List UInt8) : ∀ x ∈ dg l, x < 2 ^ 32 := digs_lt (by decide) _
theorem loadC_ok {st : SS} (l : List UInt8) (hl : l.length ≤ 1000000000000) : CallV PP f_bigint_load [.o (.v (.string (bs l)))] st (retsO t_uint32 1 (dg l).length (u32V (dg l))) :=
 CallV.facts (c_load l hl) rfl (fun R hR => by cases hR)
theorem load_enters : Enters PP f_bigint_load := (c_load [] (by decide)).enters
theorem pack_ok {st : SS} {k : Nat} (neg : Bool) (n : Nat) (hl : (digs (2 ^ 32) n).length ≤ 1000000000000) (hk : lk k st.me = some (.own t_uint32 1 (digs (2 ^ 32) n).length (u32V (digs (2 ^ 32) n)))) :
   CallV PP f_bigint_pack [.o (.v (.bool neg)), .o (.w k)] st (retsV (zV (sg neg n))) := by
 refine CallV.sl1 (fun z => [.bool neg, z]) (RdA.own hk) (List.mem_cons_of_mem _ (List.mem_cons_self ..)) (fun _ => rfl) (fun A c hc => ?_)
 have := c_pack neg A c (digs (2 ^ 32) n) (digs_lt (by decide) _) hc hl
 rw [lv_digs (by decide)] at this
 exact this
theorem pack_enters : Enters PP f_bigint_pack := (c_pack false none 0 [] (by simp) (by simp) (by simp)).enters
theorem c_Neg (b : Bool) (l : List UInt8) (hl : l.length ≤ 10000000000) : Fn PP f_bigint_Neg [intV b (bs l)] (zV (-(sg b (nat l)))) := by
 refine Fn.of TBgood mixed h_bigint_Neg rfl rfl (Nat.le_of_ble_eq_true rfl) ?_
 intro w
 have hd : (digs (2 ^ 32) (nat l)).length ≤ l.length := dg_len
 conv => whnf
 refine DrawVC.quiet (by kernel_rfl) ?_
 conv => whnf
 refine CallVCd.o load_enters (loadC_ok l (by omega)) ?_
 conv => whnf
 refine CallVCd.v pack_enters (pack_ok (k := 8) (!b) (nat l) (by omega) rfl) ?_
 conv => whnf
 refine postV_one ?_
 have : sg (!b) (nat l) = -(sg b (nat l)) := by cases b <;> simp [sg]
 rw [this]
theorem sg_mul (a b : Bool) (m n : Nat) : sg (a != b) (m * n) = sg a m * sg b n := by cases a <;> cases b <;> simp [sg, Int.natCast_mul, Int.neg_mul, Int.mul_neg]
theorem times_enters : Enters PP f_bigint_limbs_times := (c_times none none 0 0 [] [] (by simp) (by simp) (by simp) (by simp)).enters
theorem c_Mul (a b : Bool) (l m : List UInt8) (hl : l.length ≤ 10000000000) (hm : m.length ≤ 10000000000) : Fn PP f_bigint_Mul [intV a (bs l), intV b (bs m)] (zV (sg a (nat l) * sg b (nat m))) := by
 refine Fn.of TBgood mixed h_bigint_Mul rfl rfl (Nat.le_of_ble_eq_true rfl) ?_
 intro w
 have hd := dg_len (l := l)
 have hd2 := dg_len (l := m)
 have hd3 : (digs (2 ^ 32) (nat l * nat m)).length ≤ l.length + m.length := by
   refine digs_length_le (by decide) (Nat.lt_of_lt_of_le (pow_add_lt (nat_lt l) (nat_lt m)) ?_)
   exact Nat.pow_le_pow_left (by decide) _
 conv => whnf
 refine DrawVC.quiet (by kernel_rfl) ?_
 conv => whnf
 refine CallVCd.o load_enters (loadC_ok l (by omega)) ?_
 conv => whnf
 refine CallVCd.o load_enters (loadC_ok m (by omega)) ?_
 conv => whnf
 refine CallVCd.o times_enters (CallV.sl2 (fun y z => [y, z]) (RdA.own (k := 12) rfl) (RdA.own (k := 15) rfl) (List.mem_cons_self ..) (List.mem_cons_of_mem _ (List.mem_cons_self ..)) (fun _ => rfl) (fun A c B d hc hd => c_times A B c d (dg l) (dg m) (dg_lt l) (dg_lt m) (by omega) (by omega))) ?_
 rw [lv_digs (by decide), lv_digs (by decide)]
 conv => whnf
 refine CallVCd.v pack_enters (pack_ok (k := 16) (a != b) (nat l * nat m) (by omega) rfl) ?_
 conv => whnf
 refine postV_one ?_
 rw [sg_mul]
end Go.Sx
end
section
set_option maxRecDepth 10000
set_option maxHeartbeats 2000000
namespace Go.Sx
open Go Go.Proofs

def littleV (b : Bool) (l : List UInt8) : Value := if l.length ≤ 7 then .tuple #[.int .i64 (sg b (nat l)), .bool true] else .tuple #[.int .i64 0, .bool false]
theorem c_little (b : Bool) (l : List UInt8) (hl : l.length ≤ 10000000000) : Fn PP f_bigint_little [intV b (bs l)] (littleV b l) := by
 refine Fn.of TBgood mixed h_bigint_little rfl rfl (Nat.le_of_ble_eq_true rfl) ?_
 intro w
 conv => whnf
 refine br_split ?_ ?_
 · intro h
   have h1 : ¬ l.length ≤ 7 := by
     have : ((l.length : Nat) : Int) > 7 := of_decide_eq_true h
     omega
   conv => whnf
   refine postV_two ?_
   rw [littleV, if_neg h1]
 · intro h
   have h1 : l.length ≤ 7 := by
     have : ¬ ((l.length : Nat) : Int) > 7 := of_decide_eq_false h
     omega
   conv => whnf
   refine sexec_loop (ι := Nat) (fun i => ⟨[(1, .o (.p 1 0)), (4, .o (.v (.int .i64 (nat (l.take i))))), (12, .o (.v (.int .i64 l.length))), (13, .o (.v (.int .i64 i)))], [(1, .box [.v (.bool b), .v (.string (bs l))] t_api_Int)], []⟩)
     (fun i => i ≤ l.length) (fun i => l.length - i) 0 (Nat.zero_le _) (SLe.id ⟨rfl, rfl, rfl, rfl, trivial⟩ ⟨⟨_, rfl, .refl _⟩, trivial⟩ (fun R hR => hR)) ?_
   intro i hi
   conv => whnf
   refine br_split ?_ ?_
   · intro h2
     have hi2 : i < l.length := by
       have : (i : Int) < (l.length : Int) := of_decide_eq_true h2
       omega
     conv => whnf
     refine ⟨by decide, ?_⟩
     conv => whnf
     refine ⟨⟨by omega, by show (i : Int) < (l.length : Int); omega⟩, ?_⟩
     conv => whnf
     obtain ⟨x, hx⟩ : ∃ x, x = l[i] := ⟨_, rfl⟩
     have hg : l.getD i 0 = x := by rw [hx, List.getD_eq_getElem?_getD, List.getElem?_eq_getElem hi2]; rfl
     have htk : l.take (i + 1) = l.take i ++ [x] := by rw [List.take_succ_eq_append_getElem hi2, hx]
     have hnat : nat (l.take (i + 1)) = x.toNat + 256 * nat (l.take i) := by rw [htk, nat_snoc]
     have hnb : nat (l.take i) < 256 ^ 6 := nat_bound (by rw [List.length_take]; omega)
     have hxb : x.toNat < 256 := x.toBitVec.isLt
     have hor : IntKind.i64.wrap (BitVec.toNat (w := 64) (BitVec.ofInt 64 (IntKind.i64.wrap ((nat (l.take i) : Int) * 2 ^ min (8 : Int).toNat IntKind.i64.bits)) ||| BitVec.ofInt 64 (IntKind.i64.wrap (sb (bs l) (i : Int)))) : Int) = (nat (l.take (i + 1)) : Int) := by
       have e1 : IntKind.i64.wrap ((nat (l.take i) : Int) * 2 ^ min (8 : Int).toNat IntKind.i64.bits) = ((nat (l.take i) * 2 ^ 8 : Nat) : Int) := by
         rw [show min (8 : Int).toNat IntKind.i64.bits = 8 from rfl, wrap_i64 (by omega) (by omega)]; omega
       have e2 : IntKind.i64.wrap (sb (bs l) (i : Int)) = (x.toNat : Int) := by
         rw [sb_bs, Int.toNat_natCast, hg, wrap_i64 (by omega) (by omega)]
       rw [e1, e2, BitVec.toNat_or, ofInt64_toNat (by omega), ofInt64_toNat (by omega), Nat.mul_comm, ← Nat.two_pow_add_eq_or_of_lt (show x.toNat < 2 ^ 8 by omega), hnat]
       rw [wrap_i64 (by omega) (by omega)]; omega
     refine ⟨i + 1, by omega, by omega, SLe.id ⟨rfl, ?_, rfl, ?_, trivial⟩ ⟨⟨_, rfl, .refl _⟩, trivial⟩ (fun R hR => hR)⟩
     · show some (SV.o (.v (.int .i64 (IntKind.i64.wrap (BitVec.toNat (w := 64) (BitVec.ofInt 64 _ ||| BitVec.ofInt 64 _) : Int))))) = some (SV.o (.v (.int .i64 (nat (l.take (i + 1)) : Int))))
       rw [hor]
     · show some (SV.o (.v (.int _ (IntKind.i64.wrap ((i : Int) + 1))))) = some (SV.o (.v (.int _ ((i + 1 : Nat) : Int))))
       rw [wrap_i64 (by omega) (by omega)]; rfl
   · intro h2
     have hi2 : i = l.length := by
       have : ¬ (i : Int) < (l.length : Int) := of_decide_eq_false h2
       omega
     subst hi2
     have hnb : nat l < 256 ^ 7 := nat_bound h1
     rw [List.take_length]
     cases b with
     | false =>
       conv => whnf
       refine postV_two ?_
       rw [littleV, if_pos h1]; rfl
     | true =>
       conv => whnf
       refine postV_two ?_
       rw [littleV, if_pos h1]
       show Value.tuple #[.int .i64 (IntKind.i64.wrap (0 - (nat l : Int))), .bool true] = _
       rw [wrap_i64 (by omega) (by omega), Int.zero_sub]; rfl
theorem sub_neg (a : Bool) (n : Nat) : sg (!a) n = -(sg a n) := by cases a <;> simp [sg]
theorem little_nat {l : List UInt8} (h : l.length ≤ 7) : nat l < 72057594037927936 := nat_bound h
theorem plus_enters : Enters PP f_bigint_limbs_plus := (c_plus none none 0 0 [] [] (by simp) (by simp) (by simp) (by simp)).enters
theorem Fn.ofW {P : Program} {T : TT} (hT : TTgood P T) (hmix : P.follows .mixedOrders = true) {f : FuncId} {fn : Func} {c : Code} {vs : List Value} {r : Value}
   (hf : P.funcs[f]? = some fn) (hb : fn.body = some c) (hnm : (fn.name == "runtime.NumGoroutine") = false) (hn : vs.length ≤ fn.ntmps)
   (hs : ∀ w, WPS P ⟨w, [], fn.ntmps⟩ c ⟨argTm 0 (vsv vs), [], []⟩ (retQ T fn (postV r))) : Fn P f vs r := by
 have := FnM.ofS (re := []) hT hmix hf hb hnm hn (by simp) (fun w l st E w' hp hm => postV_ok hp hm) (fun w _ => hs w)
 exact ⟨this.enters, fun w _ => this.calls w (by simp [facts])⟩
theorem cmpN_neg {x y : Nat} : cmpN x y < 0 ↔ x < y := by
 unfold cmpN; split
 · constructor
   · intro; assumption
   · intro; decide
 · split <;> constructor <;> intro h <;> omega
theorem digs_add {l m : List UInt8} {k : Nat} (hl : l.length ≤ k) (hm : m.length ≤ k) : (digs (2 ^ 32) (nat l + nat m)).length ≤ k + 1 := by
 refine digs_length_le (by decide) ?_
 have h1 := nat_bound hl
 have h2 := nat_bound hm
 have h3 : (256 : Nat) ^ k ≤ (2 ^ 32) ^ k := Nat.pow_le_pow_left (by decide) _
 rw [Nat.pow_succ]
 omega
theorem digs_mono {m n : Nat} (h : m ≤ n) : (digs (2 ^ 32) m).length ≤ (digs (2 ^ 32) n).length := digs_length_le (by decide) (Nat.lt_of_le_of_lt h (le_of_digs_length (by decide)))
theorem compare_ok {st : SS} {i j : Nat} (x y : Nat) (hx : (digs (2 ^ 32) x).length ≤ 100000000000) (hy : (digs (2 ^ 32) y).length ≤ 100000000000)
   (hi : lk i st.me = some (.own t_uint32 1 (digs (2 ^ 32) x).length (u32V (digs (2 ^ 32) x)))) (hj : lk j st.me = some (.own t_uint32 1 (digs (2 ^ 32) y).length (u32V (digs (2 ^ 32) y)))) :
   CallV PP f_bigint_limbs_compare [.o (.w i), .o (.w j)] st (retsV (.int .i64 (cmpN x y))) :=
 CallV.sl2 (fun y z => [y, z]) (RdA.own hi) (RdA.own hj) (List.mem_cons_self ..) (List.mem_cons_of_mem _ (List.mem_cons_self ..)) (fun _ => rfl) (fun A c B d _ _ => c_compare x y A B c d (by omega) (by omega))
theorem compare_enters : Enters PP f_bigint_limbs_compare := (c_compare 0 0 none none 0 0 (by simp [digs_zero]) (by simp [digs_zero])).enters
theorem plus_ok {st : SS} {i j : Nat} (x y : Nat) (hx : (digs (2 ^ 32) x).length ≤ 100000000000) (hy : (digs (2 ^ 32) y).length ≤ 100000000000)
   (hi : lk i st.me = some (.own t_uint32 1 (digs (2 ^ 32) x).length (u32V (digs (2 ^ 32) x)))) (hj : lk j st.me = some (.own t_uint32 1 (digs (2 ^ 32) y).length (u32V (digs (2 ^ 32) y)))) :
   CallV PP f_bigint_limbs_plus [.o (.w i), .o (.w j)] st (retsO t_uint32 1 (digs (2 ^ 32) (x + y)).length (u32V (digs (2 ^ 32) (x + y)))) :=
 CallV.sl2 (fun y z => [y, z]) (RdA.own hi) (RdA.own hj) (List.mem_cons_self ..) (List.mem_cons_of_mem _ (List.mem_cons_self ..)) (fun _ => rfl) (fun A c B d _ _ => by
   have := c_plus A B c d (digs (2 ^ 32) x) (digs (2 ^ 32) y) (digs_lt (by decide) _) (digs_lt (by decide) _) (by omega) (by omega)
   rw [lv_digs (by decide), lv_digs (by decide)] at this
   exact this)
theorem minus_ok {st : SS} {i j : Nat} (x y : Nat) (hyx : y ≤ x) (hx : (digs (2 ^ 32) x).length ≤ 100000000000)
   (hi : lk i st.me = some (.own t_uint32 1 (digs (2 ^ 32) x).length (u32V (digs (2 ^ 32) x)))) (hj : lk j st.me = some (.own t_uint32 1 (digs (2 ^ 32) y).length (u32V (digs (2 ^ 32) y)))) :
   CallV PP f_bigint_limbs_minus [.o (.w i), .o (.w j)] st (retsO t_uint32 1 (digs (2 ^ 32) (x - y)).length (u32V (digs (2 ^ 32) (x - y)))) :=
 CallV.sl2 (fun y z => [y, z]) (RdA.own hi) (RdA.own hj) (List.mem_cons_self ..) (List.mem_cons_of_mem _ (List.mem_cons_self ..)) (fun _ => rfl) (fun A c B d _ _ => c_minus A B c d x y hyx (by omega))
theorem minus_enters : Enters PP f_bigint_limbs_minus := (c_minus none none 0 0 0 0 (by simp) (by simp [digs_zero])).enters
theorem c_Add (a b : Bool) (l m : List UInt8) (hl : l.length ≤ 10000000000) (hm : m.length ≤ 10000000000) : Fn PP f_bigint_Add [intV a (bs l), intV b (bs m)] (zV (sg a (nat l) + sg b (nat m))) := by
 refine Fn.ofW TBgood mixed h_bigint_Add rfl rfl (Nat.le_of_ble_eq_true rfl) ?_
 intro w
 have hd : (digs (2 ^ 32) (nat l)).length ≤ l.length := dg_len
 have hd2 : (digs (2 ^ 32) (nat m)).length ≤ m.length := dg_len
 have hd3 := digs_add hl hm
 have hd4 := digs_mono (Nat.sub_le (nat l) (nat m))
 have hd5 := digs_mono (Nat.sub_le (nat m) (nat l))
 refine WPS.peel TBgood mixed ?_
 conv => whnf
 refine WPS.cut TBgood mixed (ι := Unit) (fun _ => ⟨[(2, .o (.p 2 0)), (3, .o (.p 3 0)), (4, .o (.p 4 0))], [(2, .box [.v (.bool a), .v (.string (bs l))] t_api_Int), (3, .box [.v (.bool b), .v (.string (bs m))] t_api_Int), (4, .box [.v (.bool false), .v (.string ⟨#[]⟩)] t_api_Int)], []⟩) (fun _ => True) ?_ ?_
 · have done : ∀ s, (SLe (⟨w, [], b_bigint_Add.ntmps⟩ : Cx) s ⟨[(2, .o (.p 2 0)), (3, .o (.p 3 0)), (4, .o (.p 4 0))], [(2, .box [.v (.bool a), .v (.string (bs l))] t_api_Int), (3, .box [.v (.bool b), .v (.string (bs m))] t_api_Int), (4, .box [.v (.bool false), .v (.string ⟨#[]⟩)] t_api_Int)], []⟩) → ∃ j : Unit, True ∧ SLe (⟨w, [], b_bigint_Add.ntmps⟩ : Cx) s ⟨[(2, .o (.p 2 0)), (3, .o (.p 3 0)), (4, .o (.p 4 0))], [(2, .box [.v (.bool a), .v (.string (bs l))] t_api_Int), (3, .box [.v (.bool b), .v (.string (bs m))] t_api_Int), (4, .box [.v (.bool false), .v (.string ⟨#[]⟩)] t_api_Int)], []⟩ := fun s h => ⟨(), trivial, h⟩
   conv => whnf
   refine CallVC.fn (c_little a l hl) rfl ?_
   by_cases h1 : l.length ≤ 7
   · rw [littleV, if_pos h1]
     conv => whnf
     refine CallVC.fn (c_little b m hm) rfl ?_
     by_cases h2 : m.length ≤ 7
     · rw [littleV, if_pos h2]
       conv => whnf
       have hn1 := little_nat h1
       have hn2 := little_nat h2
       have hz1 := sg_natAbs a (nat l)
       have hz2 := sg_natAbs b (nat m)
       have hw : IntKind.i64.wrap (sg a (nat l) + sg b (nat m)) = sg a (nat l) + sg b (nat m) := wrap_i64 (by omega) (by omega)
       refine CallVC.fn (r := zV (sg a (nat l) + sg b (nat m))) (c_Of (sg a (nat l) + sg b (nat m)) (by omega) (by omega)) (congrArg (fun z => [SV.o (.v (.int .i64 z))]) hw) ?_
       conv => whnf
       exact postV_one rfl
     · rw [littleV, if_neg h2]
       conv => whnf
       exact done _ (SLe.id ⟨rfl, rfl, rfl, trivial⟩ ⟨⟨_, rfl, .refl _⟩, ⟨_, rfl, .refl _⟩, ⟨_, rfl, .refl _⟩, trivial⟩ (fun R hR => hR))
   · rw [littleV, if_neg h1]
     conv => whnf
     exact done _ (SLe.id ⟨rfl, rfl, rfl, trivial⟩ ⟨⟨_, rfl, .refl _⟩, ⟨_, rfl, .refl _⟩, ⟨_, rfl, .refl _⟩, trivial⟩ (fun R hR => hR))
 · intro _ _
   refine WPS.of TBgood mixed ?_
   conv => whnf
   refine DrawVC.quiet (by kernel_rfl) ?_
   conv => whnf
   refine CallVCd.o load_enters (loadC_ok l (by omega)) ?_
   conv => whnf
   refine CallVCd.o load_enters (loadC_ok m (by omega)) ?_
   conv => whnf
   refine br_split ?_ ?_
   · intro hab
     have hab : a = b := eq_of_beq hab
     subst hab
     conv => whnf
     refine DrawVC.quiet (by kernel_rfl) ?_
     conv => whnf
     refine CallVCd.o plus_enters (plus_ok (i := 29) (j := 32) (nat l) (nat m) (by omega) (by omega) rfl rfl) ?_
     conv => whnf
     refine CallVCd.v pack_enters (pack_ok (k := 43) a (nat l + nat m) (by omega) rfl) ?_
     conv => whnf
     refine postV_one ?_
     have : sg a (nat l + nat m) = sg a (nat l) + sg a (nat m) := by cases a <;> simp [sg] <;> omega
     rw [this]
   · intro hab
     have hab : ¬ a = b := ne_of_beq_false hab
     conv => whnf
     refine CallVC.v compare_enters (compare_ok (i := 29) (j := 32) (nat l) (nat m) (by omega) (by omega) rfl rfl) ?_
     conv => whnf
     refine br_split ?_ ?_
     · intro hc
       have hlt : nat l < nat m := cmpN_neg.1 (of_decide_eq_true hc)
       conv => whnf
       refine DrawVC.quiet (by kernel_rfl) ?_
       conv => whnf
       refine CallVCd.o minus_enters (minus_ok (i := 32) (j := 29) (nat m) (nat l) (by omega) (by omega) rfl rfl) ?_
       conv => whnf
       refine CallVCd.v pack_enters (pack_ok (k := 54) b (nat m - nat l) (by omega) rfl) ?_
       conv => whnf
       refine postV_one ?_
       have : sg b (nat m - nat l) = sg a (nat l) + sg b (nat m) := by cases a <;> cases b <;> simp [sg] at hab ⊢ <;> omega
       rw [this]
     · intro hc
       have hlt : ¬ nat l < nat m := fun h => of_decide_eq_false hc (cmpN_neg.2 h)
       conv => whnf
       refine DrawVC.quiet (by kernel_rfl) ?_
       conv => whnf
       refine CallVCd.o minus_enters (minus_ok (i := 29) (j := 32) (nat l) (nat m) (by omega) (by omega) rfl rfl) ?_
       conv => whnf
       refine CallVCd.v pack_enters (pack_ok (k := 60) a (nat l - nat m) (by omega) rfl) ?_
       conv => whnf
       refine postV_one ?_
       have : sg a (nat l - nat m) = sg a (nat l) + sg b (nat m) := by cases a <;> cases b <;> simp [sg] at hab ⊢ <;> omega
       rw [this]
end Go.Sx
end
section
set_option maxRecDepth 10000
set_option maxHeartbeats 2000000
namespace Go.Sx
open Go Go.Proofs

theorem c_Sub (a b : Bool) (l m : List UInt8) (hl : l.length ≤ 10000000000) (hm : m.length ≤ 10000000000) : Fn PP f_bigint_Sub [intV a (bs l), intV b (bs m)] (zV (sg a (nat l) - sg b (nat m))) := by
 refine Fn.of TBgood mixed h_bigint_Sub rfl rfl (Nat.le_of_ble_eq_true rfl) ?_
 intro w
 conv => whnf
 refine CallVC.fn (c_Add a (!b) l m hl hm) rfl ?_
 conv => whnf
 refine postV_one ?_
 rw [sub_neg, Int.sub_eq_add_neg]
def cmpZ (x y : Int) : Int := if x < y then -1 else if y < x then 1 else 0
theorem cmpZ_nat (x y : Nat) : cmpZ x y = cmpN x y := by simp only [cmpZ, cmpN, Int.ofNat_lt]
theorem cmpZ_neg (x y : Nat) : cmpZ (-(x : Int)) (-(y : Int)) = cmpN y x := by
 unfold cmpZ cmpN
 by_cases h1 : y < x
 · rw [if_pos (by omega), if_pos h1]
 · rw [if_neg (by omega), if_neg h1]
   by_cases h2 : x < y
   · rw [if_pos (by omega), if_pos h2]
   · rw [if_neg (by omega), if_neg h2]
theorem cmpZ_lt {x y : Int} (h : x < y) : cmpZ x y = -1 := by rw [cmpZ, if_pos h]
theorem cmpZ_gt {x y : Int} (h : y < x) : cmpZ x y = 1 := by rw [cmpZ, if_neg (by omega), if_pos h]
theorem dg_pos {l : List UInt8} : ((digs (2 ^ 32) (nat l)).length : Int) > 0 ↔ 0 < nat l := by
 have := digs_nil (B := 2 ^ 32) (n := nat l) (by decide)
 rcases Nat.eq_zero_or_pos (nat l) with h | h
 · rw [this.2 h]; simp [h]
 · have h2 : digs (2 ^ 32) (nat l) ≠ [] := fun e => by have := this.1 e; omega
   have := List.length_pos_iff.2 h2
   omega
theorem c_Compare (a b : Bool) (l m : List UInt8) (hl : l.length ≤ 10000000000) (hm : m.length ≤ 10000000000) : Fn PP f_bigint_Compare [intV a (bs l), intV b (bs m)] (.int .i64 (cmpZ (sg a (nat l)) (sg b (nat m)))) := by
 refine Fn.of TBgood mixed h_bigint_Compare rfl rfl (Nat.le_of_ble_eq_true rfl) ?_
 intro w
 have hd : (digs (2 ^ 32) (nat l)).length ≤ l.length := dg_len
 have hd2 : (digs (2 ^ 32) (nat m)).length ≤ m.length := dg_len
 cases a <;> cases b
 · conv => whnf
   refine DrawVC.quiet (by kernel_rfl) ?_
   conv => whnf
   refine CallVCd.o load_enters (loadC_ok l (by omega)) ?_
   conv => whnf
   refine CallVCd.o load_enters (loadC_ok m (by omega)) ?_
   conv => whnf
   refine CallVC.v compare_enters (compare_ok (i := 9) (j := 12) (nat l) (nat m) (by omega) (by omega) rfl rfl) ?_
   conv => whnf
   refine postV_one ?_
   rw [← cmpZ_nat]; rfl
 · conv => whnf
   refine DrawVC.quiet (by kernel_rfl) ?_
   conv => whnf
   refine CallVCd.o load_enters (loadC_ok l (by omega)) ?_
   conv => whnf
   refine CallVCd.o load_enters (loadC_ok m (by omega)) ?_
   conv => whnf
   refine br_split ?_ ?_
   · intro h
     have hp : 0 < nat m := dg_pos.1 (of_decide_eq_true h)
     conv => whnf
     refine postV_one ?_
     rw [cmpZ_gt (by simp [sg]; omega)]
   · intro h
     have hp : ¬ 0 < nat m := fun h2 => of_decide_eq_false h (dg_pos.2 h2)
     conv => whnf
     refine CallVC.v compare_enters (compare_ok (i := 9) (j := 12) (nat l) (nat m) (by omega) (by omega) rfl rfl) ?_
     conv => whnf
     refine postV_one ?_
     rw [← cmpZ_nat, show nat m = 0 by omega]; rfl
 · conv => whnf
   refine DrawVC.quiet (by kernel_rfl) ?_
   conv => whnf
   refine CallVCd.o load_enters (loadC_ok l (by omega)) ?_
   conv => whnf
   refine CallVCd.o load_enters (loadC_ok m (by omega)) ?_
   conv => whnf
   refine br_split ?_ ?_
   · intro h
     have hp : 0 < nat l := dg_pos.1 (of_decide_eq_true h)
     conv => whnf
     refine br_split ?_ ?_
     · intro h2
       conv => whnf
       refine postV_one ?_
       rw [cmpZ_lt (by simp [sg]; omega)]
     · intro h2
       exact absurd (h.symm.trans h2) (by decide)
   · intro h
     have hp : ¬ 0 < nat l := fun h2 => of_decide_eq_false h (dg_pos.2 h2)
     conv => whnf
     refine br_split ?_ ?_
     · intro h2
       exact absurd (h.symm.trans h2) (by decide)
     · intro h2
       conv => whnf
       refine CallVC.v compare_enters (compare_ok (i := 9) (j := 12) (nat l) (nat m) (by omega) (by omega) rfl rfl) ?_
       conv => whnf
       refine postV_one ?_
       rw [← cmpZ_nat, show nat l = 0 by omega]; rfl
 · conv => whnf
   refine DrawVC.quiet (by kernel_rfl) ?_
   conv => whnf
   refine CallVCd.o load_enters (loadC_ok l (by omega)) ?_
   conv => whnf
   refine CallVCd.o load_enters (loadC_ok m (by omega)) ?_
   conv => whnf
   refine br_split ?_ ?_
   · intro h
     have hp : 0 < nat l := dg_pos.1 (of_decide_eq_true h)
     conv => whnf
     refine br_split ?_ ?_
     · intro h2
       have hp2 : 0 < nat m := dg_pos.1 (of_decide_eq_true h2)
       conv => whnf
       refine CallVC.v compare_enters (compare_ok (i := 12) (j := 9) (nat m) (nat l) (by omega) (by omega) rfl rfl) ?_
       conv => whnf
       refine postV_one ?_
       rw [← cmpZ_neg]; rfl
     · intro h2
       have hp2 : ¬ 0 < nat m := fun h3 => of_decide_eq_false h2 (dg_pos.2 h3)
       conv => whnf
       refine br_split ?_ ?_
       · intro h3
         conv => whnf
         refine postV_one ?_
         rw [cmpZ_lt (by simp [sg]; omega)]
       · intro h3
         exact absurd (h.symm.trans h3) (by decide)
   · intro h
     have hp : ¬ 0 < nat l := fun h2 => of_decide_eq_false h (dg_pos.2 h2)
     conv => whnf
     refine br_split ?_ ?_
     · intro h2
       exact absurd (h.symm.trans h2) (by decide)
     · intro h2
       conv => whnf
       refine br_split ?_ ?_
       · intro h3
         have hp2 : 0 < nat m := dg_pos.1 (of_decide_eq_true h3)
         conv => whnf
         refine postV_one ?_
         rw [cmpZ_gt (by simp [sg]; omega)]
         trace_state
       · intro h3
         have hp2 : ¬ 0 < nat m := fun h4 => of_decide_eq_false h3 (dg_pos.2 h4)
         conv => whnf
         refine CallVC.v compare_enters (compare_ok (i := 9) (j := 12) (nat l) (nat m) (by omega) (by omega) rfl rfl) ?_
         conv => whnf
         refine postV_one ?_
         rw [← cmpZ_nat, show nat l = 0 by omega, show nat m = 0 by omega]; rfl
end Go.Sx
end
section
set_option maxRecDepth 10000
set_option maxHeartbeats 2000000
namespace Go.Sx
open Go Go.Proofs

theorem c_Gcd (a b : Bool) (l m : List UInt8) (hl : l.length ≤ 10000000000) (hm : m.length ≤ 10000000000) : Fn PP f_bigint_Gcd [intV a (bs l), intV b (bs m)] (zV (Nat.gcd (nat l) (nat m))) := by
 refine Fn.of TBgood mixed h_bigint_Gcd rfl rfl (Nat.le_of_ble_eq_true rfl) ?_
 intro w
 have hd : (digs (2 ^ 32) (nat l)).length ≤ l.length := dg_len
 have hd2 : (digs (2 ^ 32) (nat m)).length ≤ m.length := dg_len
 conv => whnf
 refine DrawVC.quiet (by kernel_rfl) ?_
 conv => whnf
 refine CallVCd.o load_enters (loadC_ok l (by omega)) ?_
 conv => whnf
 refine CallVCd.o load_enters (loadC_ok m (by omega)) ?_
 conv => whnf
 refine sexec_loop (ι := Nat × Nat) (fun ⟨x, y⟩ => ⟨[(4, .o (.p 4 0)), (5, .o (.w 11)), (6, .o (.w 14))], [(4, .box [.v (.bool false), .v (.string ⟨#[]⟩)] t_api_Int), (11, .own t_uint32 1 (digs (2 ^ 32) x).length (u32V (digs (2 ^ 32) x))), (14, .own t_uint32 1 (digs (2 ^ 32) y).length (u32V (digs (2 ^ 32) y)))], []⟩)
   (fun ⟨x, y⟩ => Nat.gcd x y = Nat.gcd (nat l) (nat m) ∧ (digs (2 ^ 32) x).length ≤ 10000000000 ∧ (digs (2 ^ 32) y).length ≤ 10000000000) (fun ⟨x, y⟩ => y) (nat l, nat m) ⟨rfl, by omega, by omega⟩ (SLe.id ⟨rfl, rfl, rfl, trivial⟩ ⟨⟨_, rfl, .refl _⟩, ⟨_, rfl, .refl _⟩, ⟨_, rfl, .refl _⟩, trivial⟩ (fun R hR => hR)) ?_
 rintro ⟨x, y⟩ ⟨hg, hx, hy⟩
 conv => whnf
 refine br_split ?_ ?_
 · intro h
   have hy0 : 0 < y := by
     have : ((digs (2 ^ 32) y).length : Int) > 0 := of_decide_eq_true h
     rcases Nat.eq_zero_or_pos y with h2 | h2
     · rw [h2, digs_zero] at this; exact absurd this (by decide)
     · exact h2
   conv => whnf
   refine CallVC.d 26 27 (k := 11) (j := 14) (fun A c A' c' h1 h2 => c_divide A A' c c' x y hy0 (by omega) (by omega)) rfl rfl rfl rfl rfl rfl rfl ?_
   conv => whnf
   refine ⟨(y, x % y), ⟨by rw [← hg, Nat.gcd_comm x y, Nat.gcd_rec y x, Nat.gcd_comm], hy, Nat.le_trans (digs_mono (Nat.mod_le x y)) hx⟩, Nat.mod_lt _ hy0, ?_⟩
   exact SLe.mk (fun k => bif Nat.beq k 11 then 14 else bif Nat.beq k 14 then 27 else k) ⟨rfl, rfl, rfl, trivial⟩ ⟨⟨_, rfl, .refl _⟩, ⟨_, rfl, .refl _⟩, ⟨_, rfl, .refl _⟩, trivial⟩ rfl (fun R hR => hR)
 · intro h
   have hy0 : y = 0 := by
     have : ¬ ((digs (2 ^ 32) y).length : Int) > 0 := of_decide_eq_false h
     exact (digs_nil (B := 2 ^ 32) (by decide)).1 (List.length_eq_zero_iff.1 (by omega))
   subst hy0
   rw [Nat.gcd_zero_right] at hg
   conv => whnf
   refine CallVC.v pack_enters (pack_ok (k := 11) false x (by omega) rfl) ?_
   conv => whnf
   refine postV_one ?_
   rw [← hg]; rfl
theorem sg_z (z : Int) : sg (decide (z < 0)) z.natAbs = z := by
 unfold sg; by_cases h : z < 0
 · rw [decide_eq_true h, if_pos rfl]; omega
 · rw [decide_eq_false h, if_neg (by decide)]; omega
theorem fdiv_same (a b : Bool) (l m : Nat) (hm : 0 < m) (h : a = b ∨ l % m = 0) : (sg a l).fdiv (sg b m) = sg (a != b) (l / m) ∧ (sg a l).fmod (sg b m) = sg a (l % m) := by
 have h1 := Nat.mod_add_div l m
 have h2 := Nat.mod_lt l hm
 have h3 : ((l % m : Nat) : Int) + (m : Int) * ((l / m : Nat) : Int) = l := by rw [← Int.natCast_mul, ← Int.natCast_add, h1]
 have hm0 : (0 : Int) < (m : Int) := by omega
 generalize l % m = r at *
 generalize l / m = q at *
 cases a <;> cases b <;> simp only [sg, if_true, if_false, Bool.false_eq_true, bne_self_eq_false, bne]
 · exact (Int.fdiv_fmod_unique hm0).2 ⟨h3, by omega, by omega⟩
 · have hr : r = 0 := by rcases h with h | h; cases h; exact h
   subst hr
   refine (Int.fdiv_fmod_unique' (by omega)).2 ⟨?_, by omega, by omega⟩
   show ((0 : Nat) : Int) + -(m : Int) * -(q : Int) = l
   rw [Int.neg_mul_neg]; exact h3
 · have hr : r = 0 := by rcases h with h | h; cases h; exact h
   subst hr
   refine (Int.fdiv_fmod_unique hm0).2 ⟨?_, by omega, by omega⟩
   show -((0 : Nat) : Int) + (m : Int) * -(q : Int) = -(l : Int)
   rw [Int.mul_neg]; omega
 · refine (Int.fdiv_fmod_unique' (by omega)).2 ⟨?_, by omega, by omega⟩
   show -(r : Int) + -(m : Int) * (q : Int) = -(l : Int)
   rw [Int.neg_mul]; omega
theorem fdiv_other (a b : Bool) (l m : Nat) (hm : 0 < m) (hab : a ≠ b) (hr : l % m ≠ 0) : (sg a l).fdiv (sg b m) = sg (a != b) (l / m) - 1 ∧ (sg a l).fmod (sg b m) = sg a (l % m) + sg b m := by
 have h1 := Nat.mod_add_div l m
 have h2 := Nat.mod_lt l hm
 have h3 : ((l % m : Nat) : Int) + (m : Int) * ((l / m : Nat) : Int) = l := by rw [← Int.natCast_mul, ← Int.natCast_add, h1]
 have hm0 : (0 : Int) < (m : Int) := by omega
 generalize l % m = r at *
 generalize l / m = q at *
 cases a <;> cases b <;> simp only [sg, if_true, if_false, Bool.false_eq_true, bne]
 · exact absurd rfl hab
 · refine (Int.fdiv_fmod_unique' (by omega)).2 ⟨?_, by omega, by omega⟩
   show (r : Int) + -(m : Int) + -(m : Int) * (-(q : Int) - 1) = l
   rw [Int.mul_sub, Int.neg_mul_neg]; omega
 · refine (Int.fdiv_fmod_unique hm0).2 ⟨?_, by omega, by omega⟩
   show -(r : Int) + (m : Int) + (m : Int) * (-(q : Int) - 1) = -(l : Int)
   rw [Int.mul_sub, Int.mul_neg]; omega
 · exact absurd rfl hab
theorem c_SubZ (x y : Int) (hx : (bytes x.natAbs).length ≤ 10000000000) (hy : (bytes y.natAbs).length ≤ 10000000000) : Fn PP f_bigint_Sub [zV x, zV y] (zV (x - y)) := by
 have := c_Sub (decide (x < 0)) (decide (y < 0)) (bytes x.natAbs) (bytes y.natAbs) hx hy
 rw [nat_bytes, nat_bytes, sg_z, sg_z] at this
 exact this
def divV (q r : Int) (e : Int) : Value := .tuple #[zV q, zV r, .int .i64 e]
theorem c_Div (a b : Bool) (l m : List UInt8) (hl : l.length ≤ 1000000000) (hm : m.length ≤ 1000000000) :
   Fn PP f_bigint_Div [intV a (bs l), intV b (bs m)] (if nat m = 0 then divV 0 0 10 else divV ((sg a (nat l)).fdiv (sg b (nat m))) ((sg a (nat l)).fmod (sg b (nat m))) 0) := by
 refine Fn.of TBgood mixed h_bigint_Div rfl rfl (Nat.le_of_ble_eq_true rfl) ?_
 intro w
 have hd : (digs (2 ^ 32) (nat l)).length ≤ l.length := dg_len
 have hd2 : (digs (2 ^ 32) (nat m)).length ≤ m.length := dg_len
 conv => whnf
 refine CallVC.o 14 load_enters (loadC_ok m (by omega)) rfl rfl ?_
 conv => whnf
 refine br_split ?_ ?_
 · intro h
   have h0 : nat m = 0 := by
     have : ((digs (2 ^ 32) (nat m)).length : Int) = 0 := eq_of_beq h
     exact (digs_nil (B := 2 ^ 32) (by decide)).1 (List.length_eq_zero_iff.1 (by omega))
   rw [if_pos h0]
   conv => whnf
   refine postV_three ?_
   simp only [divV, zV, bytes_zero, Int.natAbs_zero]
   rfl
 · intro h
   have h0 : 0 < nat m := by
     have : ¬ ((digs (2 ^ 32) (nat m)).length : Int) = 0 := ne_of_beq_false h
     rcases Nat.eq_zero_or_pos (nat m) with h2 | h2
     · rw [h2, digs_zero] at this; exact absurd rfl this
     · exact h2
   rw [if_neg (by omega)]
   conv => whnf
   refine CallVC.o 23 load_enters (loadC_ok l (by omega)) rfl rfl ?_
   conv => whnf
   refine CallVC.d 55 56 (k := 23) (j := 14) (fun A c A' c' h1 h2 => c_divide A A' c c' (nat l) (nat m) h0 (by omega) (by omega)) rfl rfl rfl rfl rfl rfl rfl ?_
   conv => whnf
   refine DrawVC.late [(13, 10, [7, 8, 9, 10])] (by kernel_rfl) ?_
   conv => whnf
   have hq1 := digs_mono (Nat.div_le_self (nat l) (nat m))
   have hr1 := digs_mono (Nat.mod_le (nat l) (nat m))
   refine CallVCd.v pack_enters (pack_ok (k := 55) (a != b) (nat l / nat m) (by omega) rfl) ?_
   conv => whnf
   refine CallVCd.v pack_enters (pack_ok (k := 56) a (nat l % nat m) (by omega) rfl) ?_
   conv => whnf
   have hnz : ∀ n : Nat, ((!((bs (bytes (sg a n).natAbs)).toList == (⟨#[]⟩ : ByteArray).toList)) = true ↔ n ≠ 0) := by
     intro n
     rw [bytes_empty, sg_natAbs]; simp
   have hbq : (bytes (sg (a != b) (nat l / nat m)).natAbs).length ≤ 1000000000 := by
     rw [sg_natAbs]; exact Nat.le_trans (bytes_len (Nat.lt_of_le_of_lt (Nat.div_le_self _ _) (nat_lt l))) hl
   have hbr : (bytes (sg a (nat l % nat m)).natAbs).length ≤ 1000000000 := by
     rw [sg_natAbs]; exact Nat.le_trans (bytes_len (Nat.lt_of_le_of_lt (Nat.mod_le _ _) (nat_lt l))) hl
   refine br_split ?_ ?_
   · intro h1
     have hr0 := (hnz _).1 h1
     conv => whnf
     refine br_split ?_ ?_
     · intro h2
       have hab : a ≠ b := by simpa using h2
       obtain ⟨e1, e2⟩ := fdiv_other a b (nat l) (nat m) h0 hab hr0
       rw [e1, e2]
       conv => whnf
       refine DrawVC.late [(6, 10, [3, 4, 5])] (by kernel_rfl) ?_
       conv => whnf
       refine CallVCd.fn (c_Of 1 (by decide) (by decide)) rfl ?_
       conv => whnf
       refine CallVCd.fn (c_SubZ (sg (a != b) (nat l / nat m)) 1 (by omega) (Nat.le_trans (bytes_len (k := 1) (by decide)) (by decide))) rfl ?_
       conv => whnf
       have hadd := c_Add (decide (sg a (nat l % nat m) < 0)) b (bytes (sg a (nat l % nat m)).natAbs) m (by omega) (by omega)
       rw [nat_bytes, sg_z] at hadd
       refine CallVCd.fn hadd rfl ?_
       conv => whnf
       refine DrawVC.late [(2, 4, [1])] (by kernel_rfl) ?_
       conv => whnf
       exact postV_three rfl
     · intro h2
       have hab : a = b := by simpa using h2
       obtain ⟨e1, e2⟩ := fdiv_same a b (nat l) (nat m) h0 (.inl hab)
       rw [e1, e2]
       conv => whnf
       refine DrawVC.late [(2, 4, [1])] (by kernel_rfl) ?_
       conv => whnf
       exact postV_three rfl
   · intro h1
     have hr0 : nat l % nat m = 0 := by
       rcases Nat.eq_zero_or_pos (nat l % nat m) with h3 | h3
       · exact h3
       · exact absurd (h1.symm.trans ((hnz _).2 (by omega))) (by decide)
     obtain ⟨e1, e2⟩ := fdiv_same a b (nat l) (nat m) h0 (.inr hr0)
     rw [e1, e2]
     conv => whnf
     refine DrawVC.late [(2, 4, [1])] (by kernel_rfl) ?_
     conv => whnf
     exact postV_three rfl
end Go.Sx
end
section
set_option maxRecDepth 10000
set_option maxHeartbeats 2000000
namespace Go.Sx
open Go Go.Proofs
abbrev rawV (r : Raw) : Value := .agg ⟨[.bool r.neg, .string (bs r.num), .string (bs r.den)]⟩
abbrev qV (x : Rat) : Value := rawV (Q x)
abbrev fracV (a : Bool) (s : ByteArray) (b : Bool) (t : ByteArray) : Value := .agg ⟨[.bool a, .string s, .bool b, .string t]⟩
theorem c_integer (b : Bool) (s : ByteArray) : Fn PP f_rational_integer [.bool b, .string s] (intV b s) := by
 refine Fn.of TBgood mixed h_rational_integer rfl rfl (Nat.le_of_ble_eq_true rfl) ?_
 intro w
 conv => whnf
 exact postV_one rfl
theorem cmpZ_zero {x y : Int} : cmpZ x y = 0 ↔ x = y := by
 unfold cmpZ
 by_cases h : x < y
 · rw [if_pos h]; constructor <;> intro h2 <;> omega
 · rw [if_neg h]
   by_cases h3 : y < x
   · rw [if_pos h3]; constructor <;> intro h2 <;> omega
   · rw [if_neg h3]; constructor <;> intro h2 <;> omega
theorem c_is (b : Bool) (l : List UInt8) (n : Int) (hl : l.length ≤ 10000000000) (h1 : -9223372036854775808 ≤ n) (h2 : n ≤ 9223372036854775807) : Fn PP f_rational_is [intV b (bs l), .int .i64 n] (.bool (decide (sg b (nat l) = n))) := by
 refine Fn.of TBgood mixed h_rational_is rfl rfl (Nat.le_of_ble_eq_true rfl) ?_
 intro w
 conv => whnf
 refine DrawVC.quiet (by kernel_rfl) ?_
 conv => whnf
 refine CallVCd.fn (c_Of n h1 h2) rfl ?_
 conv => whnf
 have hn : n.natAbs < 256 ^ 8 := by omega
 have hc := c_Compare b (decide (n < 0)) l (bytes n.natAbs) hl (Nat.le_trans (bytes_len hn) (by decide))
 rw [nat_bytes, sg_z] at hc
 refine CallVCd.fn hc rfl ?_
 conv => whnf
 refine postV_one ?_
 have : (cmpZ (sg b (nat l)) n == 0) = decide (sg b (nat l) = n) := by
   by_cases h : sg b (nat l) = n
   · rw [decide_eq_true h, (cmpZ_zero).2 h]; rfl
   · rw [decide_eq_false h]
     cases h3 : (cmpZ (sg b (nat l)) n == 0) with
     | true => exact absurd (cmpZ_zero.1 (eq_of_beq h3)) h
     | false => rfl
 rw [this]
def Raw.den1 (r : Raw) : List UInt8 := if nat r.den = 0 then bytes 1 else r.den
theorem Raw.nat_den1 (r : Raw) : nat r.den1 = r.d := by
 unfold Raw.den1 Raw.d dnm
 split
 · rw [nat_bytes]
 · rfl
theorem Raw.den1_len {r : Raw} {k : Nat} (hk : 1 ≤ k) (h : r.den.length ≤ k) : r.den1.length ≤ k := by
 unfold Raw.den1
 split
 · exact Nat.le_trans (bytes_len (k := 1) (by decide)) hk
 · exact h
theorem c_of (r : Raw) (h : r.sm 10000000000) : Fn PP f_rational_of [rawV r] (fracV r.neg (bs r.num) false (bs r.den1)) := by
 refine Fn.of TBgood mixed h_rational_of rfl rfl (Nat.le_of_ble_eq_true rfl) ?_
 intro w
 conv => whnf
 refine DrawVC.quiet (by kernel_rfl) ?_
 conv => whnf
 refine CallVCd.fn (c_integer r.neg (bs r.num)) rfl ?_
 conv => whnf
 refine CallVCd.fn (c_integer false (bs r.den)) rfl ?_
 conv => whnf
 refine CallVC.fn (c_is false r.den 0 h.2 (by decide) (by decide)) rfl ?_
 by_cases hd : nat r.den = 0
 · rw [decide_eq_true (show sg false (nat r.den) = 0 by rw [hd]; rfl)]
   conv => whnf
   refine CallVC.fn (c_Of 1 (by decide) (by decide)) rfl ?_
   conv => whnf
   refine postV_one ?_
   rw [Raw.den1, if_pos hd]; rfl
 · rw [decide_eq_false (show ¬ sg false (nat r.den) = 0 by simp [sg]; exact hd)]
   conv => whnf
   refine postV_one ?_
   rw [Raw.den1, if_neg hd]
end Go.Sx
end
section
set_option maxRecDepth 10000
set_option maxHeartbeats 2000000
namespace Go.Sx
open Go Go.Proofs
theorem mk_num {N : Int} {M : Nat} (hM : 0 < M) : (mkRat N M).num = N.fdiv ((Nat.gcd N.natAbs M : Nat) : Int) := by
 rw [Rat.num_mkRat, if_neg (by omega), Nat.gcd_comm M, Int.fdiv_eq_ediv_of_nonneg _ (by omega)]
theorem mk_den {N : Int} {M : Nat} (hM : 0 < M) : ((mkRat N M).den : Int) = ((M : Nat) : Int).fdiv ((Nat.gcd N.natAbs M : Nat) : Int) := by
 rw [Rat.den_mkRat, if_neg (by omega), Nat.gcd_comm M, Int.fdiv_eq_ediv_of_nonneg _ (by omega)]; rfl
theorem c_number (a : Bool) (l m : List UInt8) (hl : l.length ≤ 1000000000) (hm : m.length ≤ 1000000000) (h0 : 0 < nat m) : Fn PP f_rational_fraction_number [fracV a (bs l) false (bs m)] (qV (mkRat (sg a (nat l)) (nat m))) := by
 refine Fn.of TBgood mixed h_rational_fraction_number rfl rfl (Nat.le_of_ble_eq_true rfl) ?_
 intro w
 obtain ⟨N, hN⟩ : ∃ N, N = sg a (nat l) := ⟨_, rfl⟩
 have hNa : N.natAbs = nat l := by rw [hN, sg_natAbs]
 conv => whnf
 refine CallVC.fn (c_is a l 0 (by omega) (by decide) (by decide)) rfl ?_
 rw [← hN]
 by_cases hz : N = 0
 · rw [decide_eq_true hz]
   conv => whnf
   refine postV_one ?_
   rw [hz, Rat.zero_mkRat, qV, Q_zero]; rfl
 · rw [decide_eq_false hz]
   conv => whnf
   refine CallVC.fn (c_Gcd a false l m (by omega) (by omega)) rfl ?_
   conv => whnf
   obtain ⟨G, hG⟩ : ∃ G, G = Nat.gcd (nat l) (nat m) := ⟨_, rfl⟩
   rw [← hG]
   have hGp : 0 < G := by rw [hG]; exact Nat.gcd_pos_of_pos_right _ h0
   have hGl : (bytes ((G : Int)).natAbs).length ≤ 1000000000 := by
     rw [Int.natAbs_natCast]
     refine Nat.le_trans (bytes_len (k := m.length) ?_) hm
     exact Nat.lt_of_le_of_lt (by rw [hG]; exact Nat.gcd_le_right _ h0) (nat_lt m)
   have hd1 := c_Div a (decide ((G : Int) < 0)) l (bytes ((G : Int)).natAbs) hl hGl
   rw [nat_bytes, sg_z, if_neg (by omega), ← hN] at hd1
   refine CallVC.fn hd1 rfl ?_
   conv => whnf
   have hd2 := c_Div false (decide ((G : Int) < 0)) m (bytes ((G : Int)).natAbs) hm hGl
   rw [nat_bytes, sg_z, if_neg (by omega)] at hd2
   refine CallVC.fn hd2 rfl ?_
   conv => whnf
   have hnum : (mkRat N (nat m)).num = N.fdiv (G : Int) := by rw [mk_num h0, hNa, ← hG]
   have hden : ((mkRat N (nat m)).den : Int) = (sg false (nat m)).fdiv (G : Int) := by rw [mk_den h0, hNa, ← hG]; rfl
   rw [← hden]
   have hdl : (bytes (((mkRat N (nat m)).den : Int)).natAbs).length ≤ 1000000000 := by
     rw [Int.natAbs_natCast]
     refine Nat.le_trans (bytes_len (k := m.length) ?_) hm
     rw [Rat.den_mkRat, if_neg (by omega)]
     exact Nat.lt_of_le_of_lt (Nat.div_le_self _ _) (nat_lt m)
   have hi := c_is (decide (((mkRat N (nat m)).den : Int) < 0)) (bytes (((mkRat N (nat m)).den : Int)).natAbs) 1 (by omega) (by decide) (by decide)
   rw [nat_bytes, sg_z] at hi
   refine CallVC.fn hi rfl ?_
   have hres : ∀ d : List UInt8, d = (if (mkRat N (nat m)).den = 1 then [] else bytes (mkRat N (nat m)).den) → (Value.agg ⟨[.bool (decide (N.fdiv (G : Int) < 0)), .string (bs (bytes (N.fdiv (G : Int)).natAbs)), .string (bs d)]⟩) = qV (mkRat N (nat m)) := by
     intro d hd
     rw [hd]
     simp only [qV, rawV, Q, hnum]
     have : decide (N.fdiv (G : Int) < 0) = decide (mkRat N (nat m) < 0) := by
       rw [← hnum]; simp only [num_neg_iff]
     rw [this]
   by_cases h1 : (mkRat N (nat m)).den = 1
   · rw [decide_eq_true (show ((mkRat N (nat m)).den : Int) = 1 by omega)]
     conv => whnf
     refine postV_one ?_
     exact hres [] (by rw [if_pos h1])
   · rw [decide_eq_false (show ¬ ((mkRat N (nat m)).den : Int) = 1 by omega)]
     conv => whnf
     refine postV_one ?_
     exact hres _ (by rw [if_neg h1, Int.natAbs_natCast])
end Go.Sx
end
section
set_option maxRecDepth 10000
set_option maxHeartbeats 2000000
namespace Go.Sx
open Go Go.Proofs
theorem c_digits (l : List UInt8) (h1 : l.length ≤ 7) : Fn PP f_rational_digits [.string (bs l)] (.int .i64 (nat l)) := by
 refine Fn.of TBgood mixed h_rational_digits rfl rfl (Nat.le_of_ble_eq_true rfl) ?_
 intro w
 conv => whnf
 refine sexec_loop (ι := Nat) (fun i => ⟨[(0, .o (.v (.string (bs l)))), (3, .o (.v (.int .i64 (nat (l.take i))))), (6, .o (.v (.int .i64 l.length))), (7, .o (.v (.int .i64 i)))], [], []⟩)
   (fun i => i ≤ l.length) (fun i => l.length - i) 0 (Nat.zero_le _) (SLe.id ⟨rfl, rfl, rfl, rfl, trivial⟩ trivial (fun R hR => hR)) ?_
 intro i hi
 conv => whnf
 refine br_split ?_ ?_
 · intro h2
   have hi2 : i < l.length := by
     have : (i : Int) < (l.length : Int) := of_decide_eq_true h2
     omega
   conv => whnf
   refine ⟨by decide, ?_⟩
   conv => whnf
   refine ⟨⟨by omega, by show (i : Int) < (l.length : Int); omega⟩, ?_⟩
   conv => whnf
   obtain ⟨x, hx⟩ : ∃ x, x = l[i] := ⟨_, rfl⟩
   have hg : l.getD i 0 = x := by rw [hx, List.getD_eq_getElem?_getD, List.getElem?_eq_getElem hi2]; rfl
   have htk : l.take (i + 1) = l.take i ++ [x] := by rw [List.take_succ_eq_append_getElem hi2, hx]
   have hnat : nat (l.take (i + 1)) = x.toNat + 256 * nat (l.take i) := by rw [htk, nat_snoc]
   have hnb : nat (l.take i) < 256 ^ 6 := nat_bound (by rw [List.length_take]; omega)
   have hxb : x.toNat < 256 := x.toBitVec.isLt
   have hor : IntKind.i64.wrap (BitVec.toNat (w := 64) (BitVec.ofInt 64 (IntKind.i64.wrap ((nat (l.take i) : Int) * 2 ^ min (8 : Int).toNat IntKind.i64.bits)) ||| BitVec.ofInt 64 (IntKind.i64.wrap (sb (bs l) (i : Int)))) : Int) = (nat (l.take (i + 1)) : Int) := by
     have e1 : IntKind.i64.wrap ((nat (l.take i) : Int) * 2 ^ min (8 : Int).toNat IntKind.i64.bits) = ((nat (l.take i) * 2 ^ 8 : Nat) : Int) := by
       rw [show min (8 : Int).toNat IntKind.i64.bits = 8 from rfl, wrap_i64 (by omega) (by omega)]; omega
     have e2 : IntKind.i64.wrap (sb (bs l) (i : Int)) = (x.toNat : Int) := by
       rw [sb_bs, Int.toNat_natCast, hg, wrap_i64 (by omega) (by omega)]
     rw [e1, e2, BitVec.toNat_or, ofInt64_toNat (by omega), ofInt64_toNat (by omega), Nat.mul_comm, ← Nat.two_pow_add_eq_or_of_lt (show x.toNat < 2 ^ 8 by omega), hnat]
     rw [wrap_i64 (by omega) (by omega)]; omega
   refine ⟨i + 1, by omega, by omega, SLe.id ⟨rfl, ?_, rfl, ?_, trivial⟩ trivial (fun R hR => hR)⟩
   · show some (SV.o (.v (.int .i64 (IntKind.i64.wrap (BitVec.toNat (w := 64) (BitVec.ofInt 64 _ ||| BitVec.ofInt 64 _) : Int))))) = some (SV.o (.v (.int .i64 (nat (l.take (i + 1)) : Int))))
     rw [hor]
   · show some (SV.o (.v (.int _ (IntKind.i64.wrap ((i : Int) + 1))))) = some (SV.o (.v (.int _ ((i + 1 : Nat) : Int))))
     rw [wrap_i64 (by omega) (by omega)]; rfl
 · intro h2
   have hi2 : i = l.length := by
     have : ¬ (i : Int) < (l.length : Int) := of_decide_eq_false h2
     omega
   subst hi2
   rw [List.take_length]
   conv => whnf
   exact postV_one rfl
def mach (r : Raw) : Value := if r.num.length ≤ 3 ∧ r.den.length ≤ 3 then .tuple #[.int .i64 r.n, .int .i64 (r.d : Int), .bool true] else .tuple #[.int .i64 0, .int .i64 0, .bool false]
theorem c_machine (r : Raw) : Fn PP f_rational_machine [rawV r] (mach r) := by
 refine Fn.of TBgood mixed h_rational_machine rfl rfl (Nat.le_of_ble_eq_true rfl) ?_
 intro w
 have fin : r.num.length ≤ 3 → r.den.length ≤ 3 → mach r = .tuple #[.int .i64 r.n, .int .i64 (r.d : Int), .bool true] := fun h1 h2 => by rw [mach, if_pos ⟨h1, h2⟩]
 have hmax : (if (1 : Int) > ((nat r.den : Nat) : Int) then (1 : Int) else ((nat r.den : Nat) : Int)) = (r.d : Int) := by
   unfold Raw.d dnm
   by_cases h : nat r.den = 0
   · rw [if_pos h, if_pos (by omega)]; rfl
   · rw [if_neg h, if_neg (by omega)]
 conv => whnf
 refine br_split ?_ ?_
 · intro h
   have h1 : ¬ r.num.length ≤ 3 := by
     have : ((r.num.length : Nat) : Int) > 3 := of_decide_eq_true h
     omega
   conv => whnf
   refine postV_three ?_
   rw [mach, if_neg (fun h => h1 h.1)]
 · intro h
   have h1 : r.num.length ≤ 3 := by
     have : ¬ ((r.num.length : Nat) : Int) > 3 := of_decide_eq_false h
     omega
   conv => whnf
   refine br_split ?_ ?_
   · intro h
     have h2 : ¬ r.den.length ≤ 3 := by
       have : ((r.den.length : Nat) : Int) > 3 := of_decide_eq_true h
       omega
     conv => whnf
     refine postV_three ?_
     rw [mach, if_neg (fun h => h2 h.2)]
   · intro h
     have h2 : r.den.length ≤ 3 := by
       have : ¬ ((r.den.length : Nat) : Int) > 3 := of_decide_eq_false h
       omega
     have hnb : nat r.num < 16777216 := nat_bound h1
     rw [fin h1 h2]
     conv => whnf
     refine DrawVC.quiet (by kernel_rfl) ?_
     conv => whnf
     refine CallVCd.fn (c_digits r.num (by omega)) rfl ?_
     conv => whnf
     refine CallVCd.fn (c_digits r.den (by omega)) rfl ?_
     obtain ⟨neg, num, den⟩ := r
     cases neg with
     | false =>
       conv => whnf
       refine postV_three ?_
       show Value.tuple #[.int .i64 (nat num : Int), .int .i64 (if (1 : Int) > ((nat den : Nat) : Int) then (1 : Int) else ((nat den : Nat) : Int)), .bool true] = _
       rw [hmax]; rfl
     | true =>
       conv => whnf
       refine postV_three ?_
       show Value.tuple #[.int .i64 (IntKind.i64.wrap (0 - (nat num : Int))), .int .i64 (if (1 : Int) > ((nat den : Nat) : Int) then (1 : Int) else ((nat den : Nat) : Int)), .bool true] = _
       simp only at hnb
       rw [hmax, wrap_i64 (by omega) (by omega), Int.zero_sub]; rfl
theorem bytes_step {n : Nat} (h : 0 < n) : bytes n = bytes (n / 256) ++ [UInt8.ofNat (n % 256)] := by
 unfold bytes
 rw [digs_pos (by decide) h]; simp
theorem c_text (n : Nat) (hn : n < 9223372036854775808) : Fn PP f_rational_text [.int .i64 n] (.string (bs (bytes n))) := by
 refine Fn.of TBgood mixed h_rational_text rfl rfl (Nat.le_of_ble_eq_true rfl) ?_
 intro w
 conv => whnf
 refine sexec_loop (ι := Nat × Nat × List UInt8) (fun ⟨i, c, L⟩ => ⟨[(0, .o (.v (.int .i64 c))), (3, .o (.p 3 0)), (4, .o (.v (.int .i64 i)))], [(3, .sym (rowV u8c (List.replicate i 0 ++ L)) t_ar8_uint8)], []⟩)
   (fun ⟨i, c, L⟩ => i + L.length = 8 ∧ c < 256 ^ i ∧ bytes n = bytes c ++ L) (fun ⟨i, c, L⟩ => c) (8, n, []) ⟨rfl, by omega, by simp⟩ (SLe.id ⟨rfl, rfl, rfl, trivial⟩ ⟨⟨_, rfl, .sym _ rfl⟩, trivial⟩ (fun R hR => hR)) ?_
 rintro ⟨i, c, L⟩ ⟨hL, hc, hb⟩
 conv => whnf
 refine br_split ?_ ?_
 · intro h
   have hc0 : 0 < c := by
     have : (c : Int) > 0 := of_decide_eq_true h
     omega
   conv => whnf
   have hi0 : 0 < i := by
     rcases Nat.eq_zero_or_pos i with h2 | h2
     · rw [h2] at hc; omega
     · exact h2
   obtain ⟨j, rfl⟩ : ∃ j, i = j + 1 := ⟨i - 1, by omega⟩
   have hij : IntKind.i64.wrap (((j + 1 : Nat) : Int) - 1) = (j : Int) := by rw [wrap_i64 (by omega) (by omega)]; omega
   refine ⟨by rw [hij]; show 0 ≤ (j : Int) ∧ (j : Int) < ((8 : Nat) : Int); omega, ?_⟩
   conv => whnf
   refine ⟨by rw [hij, rowV_length u8c_len]; show 0 + j * 1 + 1 ≤ _; simp, ?_⟩
   conv => whnf
   refine ⟨by decide, ?_⟩
   conv => whnf
   have hcn : c ≤ n ∨ n < c := by omega
   have hcb : c < 9223372036854775808 := by
     have h8 : (256 : Nat) ^ (j + 1) ≤ 256 ^ 8 := Nat.pow_le_pow_right (by decide) (by omega)
     have hcm : nat (bytes c) ≤ nat (bytes n) := by
       rw [hb, nat_append]
       have : nat (bytes c) * 1 ≤ nat (bytes c) * 256 ^ L.length := Nat.mul_le_mul_left _ (Nat.pow_pos (by decide))
       omega
     rw [nat_bytes, nat_bytes] at hcm
     omega
   refine ⟨(j, c / 256, UInt8.ofNat (c % 256) :: L), ⟨by simp; omega, ?_, ?_⟩, by show c / 256 < c; omega, SLe.id ⟨?_, rfl, ?_, trivial⟩ ⟨⟨_, rfl, ?_⟩, trivial⟩ (fun R hR => hR)⟩
   · show c / 256 < 256 ^ j
     rw [Nat.pow_succ] at hc; omega
   · rw [hb, bytes_step hc0]; simp
   · show some (SV.o (.v (.int .i64 (Int.fdiv (c : Int) (2 ^ min (8 : Int).toNat IntKind.i64.bits))))) = some (SV.o (.v (.int .i64 ((c / 256 : Nat) : Int))))
     rw [show min (8 : Int).toNat IntKind.i64.bits = 8 from rfl, Int.fdiv_eq_ediv_of_nonneg _ (by decide)]; rfl
   · show some (SV.o (.v (.int .i64 (IntKind.i64.wrap (((j + 1 : Nat) : Int) - 1))))) = some (SV.o (.v (.int .i64 (j : Int))))
     rw [hij]
   · show MEle (ME.sym (putN (0 + (IntKind.i64.wrap (((j + 1 : Nat) : Int) - 1)).toNat * 1) [Value.int .u8 (IntKind.u8.wrap (c : Int))] (rowV u8c (List.replicate (j + 1) 0 ++ L))) _) (ME.sym (rowV u8c (List.replicate j 0 ++ (UInt8.ofNat (c % 256) :: L))) _)
     have hw : IntKind.u8.wrap (c : Int) = ((UInt8.ofNat (c % 256)).toNat : Int) := by
       rw [IntKind.wrap_u8]
       have : (UInt8.ofNat (c % 256)).toNat = c % 256 := by simp
       rw [this]; omega
     have hput := rowV_put (f := u8c) u8c_len (k := j) (l := List.replicate (j + 1) 0 ++ L) (UInt8.ofNat (c % 256)) (by simp; omega)
     have hset : (List.replicate (j + 1) 0 ++ L).set j (UInt8.ofNat (c % 256)) = List.replicate j 0 ++ (UInt8.ofNat (c % 256) :: L) := by
       rw [List.replicate_succ', List.append_assoc, List.set_append_right _ _ (by simp)]
       simp
     rw [hset] at hput
     rw [hij, hw, Int.toNat_natCast, Nat.zero_add, ← hput]
     exact .refl _
 · intro h
   have hc0 : c = 0 := by
     have : ¬ (c : Int) > 0 := of_decide_eq_false h
     omega
   subst hc0
   rw [bytes_zero, List.nil_append] at hb
   conv => whnf
   refine ⟨by show 0 ≤ (i : Int) ∧ (i : Int) ≤ ((8 : Nat) : Int) ∧ ((8 : Nat) : Int) ≤ ((8 : Nat) : Int); omega, ?_⟩
   conv => whnf
   have hdrop : ((rowV u8c (List.replicate i 0 ++ L)).drop (bif Nat.beq 8 ((i : Int).toNat) then 0 else 0 + (i : Int).toNat * 1)).take (((8 : Nat) : Int).toNat - (i : Int).toNat) = bytV L := by
     rw [Int.toNat_natCast, Int.toNat_natCast]
     cases hb8 : Nat.beq 8 i with
     | true =>
       have h8 := Nat.eq_of_beq_eq_true hb8
       have hL0 : L = [] := List.length_eq_zero_iff.1 (by omega)
       rw [hL0, ← h8]; rfl
     | false =>
       rw [cond_false, Nat.zero_add, rowV_drop u8c_len]
       have : (List.replicate i 0 ++ L).drop i = L := by
         have := List.drop_left (l₁ := List.replicate i (0 : UInt8)) (l₂ := L)
         rwa [List.length_replicate] at this
       rw [this, rowV_u8, show 8 - i = L.length by omega]
       have : (bytV L).length = L.length := by simp [bytV]
       rw [← this, List.take_length]
   refine ⟨L, by rw [Int.toNat_natCast, Int.toNat_natCast]; omega, hdrop, ?_⟩
   conv => whnf
   refine postV_one ?_
   rw [hb]; rfl
theorem wrap_abs {n : Int} (h : n.natAbs < 4611686018427387904) : (if IntKind.i64.wrap (0 - n) > n then IntKind.i64.wrap (0 - n) else n) = (n.natAbs : Int) := by
 rw [wrap_i64 (by omega) (by omega)]
 by_cases h : 0 - n > n
 · rw [if_pos h]; omega
 · rw [if_neg h]; omega
theorem c_ratio (n d : Int) (hn : n.natAbs < 4611686018427387904) (hd0 : 0 < d) (hd : d < 4611686018427387904) : Fn PP f_rational_ratio [.int .i64 n, .int .i64 d] (qV (mkRat n d.natAbs)) := by
 refine Fn.of TBgood mixed h_rational_ratio rfl rfl (Nat.le_of_ble_eq_true rfl) ?_
 intro w
 conv => whnf
 refine sexec_loop (ι := Int × Int) (fun ⟨a, b⟩ => ⟨[(0, .o (.v (.int .i64 n))), (1, .o (.v (.int .i64 d))), (4, .o (.p 4 0)), (5, .o (.v (.int .i64 a))), (6, .o (.v (.int .i64 b)))], [(4, .box [.v (.bool false), .v (.string ⟨#[]⟩), .v (.string ⟨#[]⟩)] t_api_Rat)], []⟩)
   (fun ⟨a, b⟩ => Nat.gcd a.natAbs b.natAbs = Nat.gcd n.natAbs d.natAbs ∧ a.natAbs < 4611686018427387904 ∧ b.natAbs < 4611686018427387904) (fun ⟨a, b⟩ => b.natAbs) (n, d) ⟨rfl, hn, by omega⟩ (SLe.id ⟨rfl, rfl, rfl, rfl, rfl, trivial⟩ ⟨⟨_, rfl, .refl _⟩, trivial⟩ (fun R hR => hR)) ?_
 rintro ⟨a, b⟩ ⟨hg, ha, hb⟩
 conv => whnf
 refine br_split ?_ ?_
 · intro h
   have hb0 : b ≠ 0 := by intro h0; rw [h0] at h; exact absurd h (by decide)
   conv => whnf
   refine DrawVC.quiet (by kernel_rfl) ?_
   conv => whnf
   refine ⟨hb0, ?_⟩
   conv => whnf
   have hm : (a.tmod b).natAbs = a.natAbs % b.natAbs := Int.natAbs_tmod a b
   have hlt : a.natAbs % b.natAbs < b.natAbs := Nat.mod_lt _ (by omega)
   refine ⟨(b, a.tmod b), ⟨by rw [hm, ← hg, Nat.gcd_comm a.natAbs, Nat.gcd_rec b.natAbs a.natAbs, Nat.gcd_comm], hb, by omega⟩, by show (a.tmod b).natAbs < b.natAbs; omega, SLe.id ⟨rfl, rfl, rfl, rfl, ?_, trivial⟩ ⟨⟨_, rfl, .refl _⟩, trivial⟩ (fun R hR => hR)⟩
   show some (SV.o (.v (.int .i64 (Int.tmod a b)))) = some (SV.o (.v (.int .i64 (a.tmod b))))
   rfl
 · intro h
   have hb0 : b = 0 := by
     by_cases h0 : b = 0
     · exact h0
     · simp at h; exact absurd h h0
   subst hb0
   rw [Int.natAbs_zero, Nat.gcd_zero_right] at hg
   have hd1 : d.natAbs ≠ 0 := by omega
   have hG : a.natAbs = Nat.gcd d.natAbs n.natAbs := by rw [hg, Nat.gcd_comm]
   have hGp : 0 < a.natAbs := by rw [hG]; exact Nat.gcd_pos_of_pos_left _ (by omega)
   have hwa := wrap_abs ha
   have hwn := wrap_abs hn
   conv => whnf
   refine br_split ?_ ?_
   · intro h0
     have hn0 : n = 0 := eq_of_beq h0
     conv => whnf
     refine postV_one ?_
     rw [hn0, Rat.zero_mkRat, qV, Q_zero]; rfl
   · intro h0
     have hn0 : n ≠ 0 := ne_of_beq_false h0
     conv => whnf
     rw [hwa]
     refine ⟨by omega, ?_⟩
     conv => whnf
     have hnum : (mkRat n d.natAbs).num.natAbs = n.natAbs / a.natAbs := by
       rw [Rat.num_mkRat, if_neg hd1, hG, Int.natAbs_ediv_of_dvd (Int.ofNat_dvd_left.2 (Nat.gcd_dvd_right _ _)), Int.natAbs_natCast]
     have hden : (mkRat n d.natAbs).den = d.natAbs / a.natAbs := by rw [Rat.den_mkRat, if_neg hd1, hG]
     have hneg : decide (n < 0) = decide (mkRat n d.natAbs < 0) := by
       have : (mkRat n d.natAbs).num < 0 ↔ n < 0 := by
         rw [Rat.num_mkRat, if_neg hd1, ← hG]
         obtain ⟨c, hc⟩ : ((a.natAbs : Nat) : Int) ∣ n := by rw [hG]; exact Int.ofNat_dvd_left.2 (Nat.gcd_dvd_right _ _)
         rw [hc, Int.mul_ediv_cancel_left _ (by omega)]
         constructor
         · intro h; exact Int.mul_neg_of_pos_of_neg (by omega) h
         · intro h
           rcases Int.lt_or_le c 0 with h2 | h2
           · exact h2
           · have := Int.mul_nonneg (show 0 ≤ ((a.natAbs : Nat) : Int) by omega) h2
             omega
       exact decide_eq_decide.2 (this.symm.trans num_neg_iff)
     have hq1 : Int.tdiv (n.natAbs : Int) (a.natAbs : Int) = ((n.natAbs / a.natAbs : Nat) : Int) := by rw [Int.tdiv_eq_ediv_of_nonneg (by omega)]; rfl
     have hq2 : Int.tdiv d (a.natAbs : Int) = ((d.natAbs / a.natAbs : Nat) : Int) := by
       rw [Int.tdiv_eq_ediv_of_nonneg (by omega)]
       conv => lhs; rw [show d = ((d.natAbs : Nat) : Int) by omega]
       rfl
     have hle1 : n.natAbs / a.natAbs ≤ n.natAbs := Nat.div_le_self _ _
     have hle2 : d.natAbs / a.natAbs ≤ d.natAbs := Nat.div_le_self _ _
     have hv1 : IntKind.i64.wrap (Int.tdiv (if IntKind.i64.wrap (0 - n) > n then IntKind.i64.wrap (0 - n) else n) (a.natAbs : Int)) = ((n.natAbs / a.natAbs : Nat) : Int) := by
       rw [hwn, hq1, wrap_i64 (by omega) (by omega)]
     have hv2 : IntKind.i64.wrap (Int.tdiv d (a.natAbs : Int)) = ((d.natAbs / a.natAbs : Nat) : Int) := by
       rw [hq2, wrap_i64 (by omega) (by omega)]
     refine CallVC.fn (c_text (n.natAbs / a.natAbs) (by omega)) (congrArg (fun z => [SV.o (.v (.int .i64 z))]) hv1) ?_
     have hres : ∀ D : List UInt8, D = (if (mkRat n d.natAbs).den = 1 then [] else bytes (mkRat n d.natAbs).den) → (Value.agg ⟨[.bool (decide (n < 0)), .string (bs (bytes (n.natAbs / a.natAbs))), .string (bs D)]⟩) = qV (mkRat n d.natAbs) := by
       intro D hD
       rw [hD]
       simp only [qV, rawV, Q, hnum, hneg]
     have hone : (mkRat n d.natAbs).den = 1 ↔ d = (a.natAbs : Int) := by
       rw [hden]
       obtain ⟨c, hc⟩ : a.natAbs ∣ d.natAbs := by rw [hG]; exact Nat.gcd_dvd_left _ _
       rw [hc, Nat.mul_div_cancel_left _ hGp]
       constructor
       · intro h; rw [h, Nat.mul_one] at hc; omega
       · intro h
         have h3 : d.natAbs = a.natAbs := by omega
         rw [h3] at hc
         have : a.natAbs * 1 = a.natAbs * c := by omega
         exact (Nat.eq_of_mul_eq_mul_left hGp this).symm
     conv => whnf
     refine br_split ?_ ?_
     · intro h3
       have h4 : ¬ (mkRat n d.natAbs).den = 1 := by
         rw [hone]; intro h5; rw [← h5] at h3; simp at h3
       conv => whnf
       refine ⟨by omega, ?_⟩
       conv => whnf
       refine CallVC.fn (c_text (d.natAbs / a.natAbs) (by omega)) (congrArg (fun z => [SV.o (.v (.int .i64 z))]) hv2) ?_
       conv => whnf
       refine postV_one ?_
       exact hres _ (by rw [if_neg h4, hden])
     · intro h3
       have h4 : (mkRat n d.natAbs).den = 1 := by
         rw [hone]
         by_cases h5 : d = (a.natAbs : Int)
         · exact h5
         · simp [h5] at h3
       conv => whnf
       refine postV_one ?_
       exact hres [] (by rw [if_pos h4])
end Go.Sx
end
section
namespace Go.Sx
def cmpQ (x y : Rat) : Int := if x < y then -1 else if y < x then 1 else 0
structure V where
 x : Rat
 y : Rat
deriving DecidableEq
instance : Add V := ⟨fun a b => ⟨a.x + b.x, a.y + b.y⟩⟩
instance : Sub V := ⟨fun a b => ⟨a.x - b.x, a.y - b.y⟩⟩
def V.scale (a : V) (t : Rat) : V := ⟨a.x * t, a.y * t⟩
def V.cross (a b : V) : Rat := a.x * b.y - a.y * b.x
def V.at (a b : V) (t : Rat) : V := a + (b - a).scale t
def cmpV (a b : V) : Int := if cmpQ a.x b.x ≠ 0 then cmpQ a.x b.x else cmpQ a.y b.y
@[simp] theorem V.add_x (a b : V) : (a + b).x = a.x + b.x := rfl
@[simp] theorem V.add_y (a b : V) : (a + b).y = a.y + b.y := rfl
@[simp] theorem V.sub_x (a b : V) : (a - b).x = a.x - b.x := rfl
@[simp] theorem V.sub_y (a b : V) : (a - b).y = a.y - b.y := rfl
def betwB (a b p : V) : Bool := decide (cmpQ ((b - a).cross (p - a)) 0 = 0) && (decide (0 ≤ cmpV a p * cmpV p b) && (decide (cmpV a b ≠ 0) || decide (cmpV a p = 0)))
def unitB (t : Rat) : Bool := decide (0 ≤ cmpQ t 0) && decide (cmpQ t 1 ≤ 0)
def ordV (a b : V) : V × V := if cmpV a b > 0 then (b, a) else (a, b)
def gtV (p q : V) : V := if cmpV p q < 0 then q else p
def ltV (p q : V) : V := if cmpV p q < 0 then p else q
def meetV (a b c d : V) : Option (V × V) :=
 if cmpQ ((b - a).cross (d - c)) 0 ≠ 0 then
   if !unitB ((c - a).cross (d - c) / (b - a).cross (d - c)) || !unitB ((c - a).cross (b - a) / (b - a).cross (d - c)) then none
   else some (a.at b ((c - a).cross (d - c) / (b - a).cross (d - c)), a.at b ((c - a).cross (d - c) / (b - a).cross (d - c)))
 else if cmpQ ((b - a).cross (c - a)) 0 ≠ 0 then none
 else if cmpV (gtV (ordV a b).1 (ordV c d).1) (ltV (ordV a b).2 (ordV c d).2) > 0 then none
 else some (gtV (ordV a b).1 (ordV c d).1, ltV (ordV a b).2 (ordV c d).2)
end Go.Sx
end
section
set_option maxRecDepth 10000
set_option maxHeartbeats 2000000
namespace Go.Sx
open Go Go.Proofs
abbrev KK : Nat := 100000000
theorem mk_neg {n : Int} {d : Nat} (hd : 0 < d) : mkRat n d < 0 ↔ n < 0 := by
 rw [← num_neg_iff, Rat.num_mkRat, if_neg (by omega)]
 have hg : 0 < d.gcd n.natAbs := Nat.gcd_pos_of_pos_left _ hd
 obtain ⟨c, hc⟩ : ((d.gcd n.natAbs : Nat) : Int) ∣ n := Int.ofNat_dvd_left.2 (Nat.gcd_dvd_right _ _)
 generalize d.gcd n.natAbs = g at *
 rw [hc, Int.mul_ediv_cancel_left _ (by omega)]
 constructor
 · intro h; exact Int.mul_neg_of_pos_of_neg (by omega) h
 · intro h
   rcases Int.lt_or_le c 0 with h2 | h2
   · exact h2
   · have := Int.mul_nonneg (show 0 ≤ (g : Int) by omega) h2
     omega
theorem mk_lt {a b : Int} {c d : Nat} (hc : 0 < c) (hd : 0 < d) : mkRat a c < mkRat b d ↔ a * d < b * c := by
 have h1 : mkRat a c < mkRat b d ↔ mkRat a c - mkRat b d < 0 := by
   rw [Rat.lt_iff_sub_pos, Rat.lt_iff_sub_pos (mkRat a c - mkRat b d)]
   have : 0 - (mkRat a c - mkRat b d) = mkRat b d - mkRat a c := by grind
   rw [this]
 rw [h1, Rat.sub_eq_add_neg, Rat.neg_mkRat, Rat.mkRat_add_mkRat _ _ (by omega) (by omega), mk_neg (Nat.mul_pos hc hd), Int.neg_mul]
 omega
theorem cmpQ_raw (r s : Raw) : cmpQ r.v s.v = cmpZ (r.n * s.d) (s.n * r.d) := by
 unfold cmpQ cmpZ Raw.v
 simp only [mk_lt r.d_pos s.d_pos, mk_lt s.d_pos r.d_pos]
theorem c_numberZ (N M : Int) (hN : (bytes N.natAbs).length ≤ 1000000000) (hM : (bytes M.natAbs).length ≤ 1000000000) (h0 : 0 < M) : Fn PP f_rational_fraction_number [fracV (decide (N < 0)) (bs (bytes N.natAbs)) (decide (M < 0)) (bs (bytes M.natAbs))] (qV (mkRat N M.natAbs)) := by
 rw [decide_eq_false (show ¬ M < 0 by omega)]
 have := c_number (decide (N < 0)) (bytes N.natAbs) (bytes M.natAbs) hN hM (by rw [nat_bytes]; omega)
 rw [nat_bytes, nat_bytes, sg_z] at this
 exact this
theorem c_AddZ (x y : Int) (hx : (bytes x.natAbs).length ≤ 10000000000) (hy : (bytes y.natAbs).length ≤ 10000000000) : Fn PP f_bigint_Add [zV x, zV y] (zV (x + y)) := by
 have := c_Add (decide (x < 0)) (decide (y < 0)) (bytes x.natAbs) (bytes y.natAbs) hx hy
 rw [nat_bytes, nat_bytes, sg_z, sg_z] at this
 exact this
theorem c_CompareZ (x y : Int) (hx : (bytes x.natAbs).length ≤ 10000000000) (hy : (bytes y.natAbs).length ≤ 10000000000) : Fn PP f_bigint_Compare [zV x, zV y] (.int .i64 (cmpZ x y)) := by
 have := c_Compare (decide (x < 0)) (decide (y < 0)) (bytes x.natAbs) (bytes y.natAbs) hx hy
 rw [nat_bytes, nat_bytes, sg_z, sg_z] at this
 exact this
def zl (x : Int) : Nat := (bytes x.natAbs).length
theorem zl_le {x : Int} {k : Nat} (h : x.natAbs < 256 ^ k) : zl x ≤ k := bytes_len h
theorem zl_mul {x y : Int} {k m : Nat} (hx : x.natAbs < 256 ^ k) (hy : y.natAbs < 256 ^ m) : (x * y).natAbs < 256 ^ (k + m) := by
 rw [Int.natAbs_mul]; exact pow_add_lt hx hy
theorem zl_add {x y : Int} {k : Nat} (hx : x.natAbs < 256 ^ k) (hy : y.natAbs < 256 ^ k) : (x + y).natAbs < 256 ^ (k + 1) := by
 have := Int.natAbs_add_le x y
 rw [Nat.pow_succ]; omega
theorem Raw.dz {r : Raw} : sg false (nat r.den1) = (r.d : Int) := by rw [Raw.nat_den1]; rfl
section
variable {r s : Raw} (hr : r.sm KK) (hs : s.sm KK)
include hr
theorem rn_lt : r.n.natAbs < 256 ^ KK := by rw [Raw.n, sg_natAbs]; exact nat_bound hr.1
theorem rd_lt : ((r.d : Int)).natAbs < 256 ^ KK := by
 rw [Int.natAbs_natCast, ← Raw.nat_den1]; exact nat_bound (Raw.den1_len (by decide) hr.2)
theorem mulnd (hs : s.sm KK) : Fn PP f_bigint_Mul [intV r.neg (bs r.num), intV false (bs s.den1)] (zV (r.n * s.d)) := by
 have := c_Mul r.neg false r.num s.den1 (Nat.le_trans hr.1 (by decide)) (Nat.le_trans (Raw.den1_len (by decide) hs.2) (by decide))
 rw [Raw.dz] at this; exact this
theorem muldd (hs : s.sm KK) : Fn PP f_bigint_Mul [intV false (bs r.den1), intV false (bs s.den1)] (zV ((r.d : Int) * s.d)) := by
 have := c_Mul false false r.den1 s.den1 (Nat.le_trans (Raw.den1_len (by decide) hr.2) (by decide)) (Nat.le_trans (Raw.den1_len (by decide) hs.2) (by decide))
 rw [Raw.dz, Raw.dz] at this; exact this
theorem mulnn (hs : s.sm KK) : Fn PP f_bigint_Mul [intV r.neg (bs r.num), intV s.neg (bs s.num)] (zV (r.n * s.n)) :=
 c_Mul r.neg s.neg r.num s.num (Nat.le_trans hr.1 (by decide)) (Nat.le_trans hs.1 (by decide))
theorem muldn (hs : s.sm KK) : Fn PP f_bigint_Mul [intV false (bs r.den1), intV s.neg (bs s.num)] (zV ((r.d : Int) * s.n)) := by
 have := c_Mul false s.neg r.den1 s.num (Nat.le_trans (Raw.den1_len (by decide) hr.2) (by decide)) (Nat.le_trans hs.1 (by decide))
 rw [Raw.dz] at this; exact this
end
abbrev fnV (f : FuncId) : Value := .func (.func f) #[] #[]
theorem dpos (r s : Raw) : 0 < (r.d : Int) * (s.d : Int) := Int.mul_pos (by have := r.d_pos; omega) (by have := s.d_pos; omega)
theorem dnat (r s : Raw) : ((r.d : Int) * (s.d : Int)).natAbs = r.d * s.d := by rw [Int.natAbs_mul, Int.natAbs_natCast, Int.natAbs_natCast]
theorem c_Add2 (r s : Raw) (hr : r.sm KK) (hs : s.sm KK) : Fn PP f_rational_Add_2 [fracV r.neg (bs r.num) false (bs r.den1), fracV s.neg (bs s.num) false (bs s.den1)] (qV (r.v + s.v)) := by
 refine Fn.of TBgood mixed h_rational_Add_2 rfl rfl (Nat.le_of_ble_eq_true rfl) ?_
 intro w
 have b1 := zl_mul (rn_lt hr) (rd_lt hs)
 have b2 := zl_mul (rn_lt hs) (rd_lt hr)
 have b3 := zl_add b1 b2
 have b4 := zl_mul (rd_lt hr) (rd_lt hs)
 conv => whnf
 refine DrawVC.quiet (by kernel_rfl) ?_
 conv => whnf
 refine CallVCd.fn (mulnd hr hs) rfl ?_
 conv => whnf
 refine CallVCd.fn (mulnd hs hr) rfl ?_
 conv => whnf
 refine CallVCd.fn (c_AddZ (r.n * s.d) (s.n * r.d) (Nat.le_trans (zl_le b1) (by decide)) (Nat.le_trans (zl_le b2) (by decide))) rfl ?_
 conv => whnf
 refine CallVCd.fn (muldd hr hs) rfl ?_
 conv => whnf
 refine CallVCd.fn (c_numberZ (r.n * s.d + s.n * r.d) ((r.d : Int) * s.d) (Nat.le_trans (zl_le b3) (by decide)) (Nat.le_trans (zl_le b4) (by decide)) (dpos r s)) rfl ?_
 conv => whnf
 refine postV_one ?_
 rw [dnat, Raw.v, Raw.v, Rat.mkRat_add_mkRat _ _ r.d_ne s.d_ne]
theorem c_Mul2 (r s : Raw) (hr : r.sm KK) (hs : s.sm KK) : Fn PP f_rational_Mul_2 [fracV r.neg (bs r.num) false (bs r.den1), fracV s.neg (bs s.num) false (bs s.den1)] (qV (r.v * s.v)) := by
 refine Fn.of TBgood mixed h_rational_Mul_2 rfl rfl (Nat.le_of_ble_eq_true rfl) ?_
 intro w
 have b1 := zl_mul (rn_lt hr) (rn_lt hs)
 have b4 := zl_mul (rd_lt hr) (rd_lt hs)
 conv => whnf
 refine DrawVC.quiet (by kernel_rfl) ?_
 conv => whnf
 refine CallVCd.fn (mulnn hr hs) rfl ?_
 conv => whnf
 refine CallVCd.fn (muldd hr hs) rfl ?_
 conv => whnf
 refine CallVCd.fn (c_numberZ (r.n * s.n) ((r.d : Int) * s.d) (Nat.le_trans (zl_le b1) (by decide)) (Nat.le_trans (zl_le b4) (by decide)) (dpos r s)) rfl ?_
 conv => whnf
 refine postV_one ?_
 rw [dnat, Raw.v, Raw.v, Rat.mkRat_mul_mkRat]
theorem c_Compare2 (r s : Raw) (hr : r.sm KK) (hs : s.sm KK) : Fn PP f_rational_Compare_2 [fracV r.neg (bs r.num) false (bs r.den1), fracV s.neg (bs s.num) false (bs s.den1)] (.int .i64 (cmpQ r.v s.v)) := by
 refine Fn.of TBgood mixed h_rational_Compare_2 rfl rfl (Nat.le_of_ble_eq_true rfl) ?_
 intro w
 have b1 := zl_mul (rn_lt hr) (rd_lt hs)
 have b2 := zl_mul (rn_lt hs) (rd_lt hr)
 conv => whnf
 refine DrawVC.quiet (by kernel_rfl) ?_
 conv => whnf
 refine CallVCd.fn (mulnd hr hs) rfl ?_
 conv => whnf
 refine CallVCd.fn (mulnd hs hr) rfl ?_
 conv => whnf
 refine CallVCd.fn (c_CompareZ (r.n * s.d) (s.n * r.d) (Nat.le_trans (zl_le b1) (by decide)) (Nat.le_trans (zl_le b2) (by decide))) rfl ?_
 conv => whnf
 refine postV_one ?_
 rw [cmpQ_raw]
end Go.Sx
end
section
set_option maxRecDepth 10000
set_option maxHeartbeats 2000000
namespace Go.Sx
open Go Go.Proofs
abbrev Raw.little (r : Raw) : Prop := r.num.length ≤ 3 ∧ r.den.length ≤ 3
theorem Raw.little_n {r : Raw} (h : r.little) : r.n.natAbs < 16777216 := by rw [Raw.n, sg_natAbs]; exact nat_bound h.1
theorem Raw.little_d {r : Raw} (h : r.little) : r.d < 16777216 := Raw.d_bound (by decide) h.2
theorem mul_small {a b : Int} (ha : a.natAbs < 16777216) (hb : b.natAbs < 16777216) : (a * b).natAbs < 281474976710656 := by
 rw [Int.natAbs_mul]; exact Nat.mul_lt_mul'' ha hb
theorem two_args {a b c d : Int} (h : a = c) (k : b = d) : [SV.o (.v (.int .i64 a)), SV.o (.v (.int .i64 b))] = vsv [.int .i64 c, .int .i64 d] := by rw [h, k]; rfl
theorem c_Add1 (r s : Raw) (hr : r.little) (hs : s.little) : Fn PP f_rational_Add_1 [.int .i64 r.n, .int .i64 r.d, .int .i64 s.n, .int .i64 s.d] (qV (r.v + s.v)) := by
 refine Fn.of TBgood mixed h_rational_Add_1 rfl rfl (Nat.le_of_ble_eq_true rfl) ?_
 intro w
 have b1 := mul_small (Raw.little_n hr) (show ((s.d : Nat) : Int).natAbs < 16777216 by rw [Int.natAbs_natCast]; exact Raw.little_d hs)
 have b2 := mul_small (Raw.little_n hs) (show ((r.d : Nat) : Int).natAbs < 16777216 by rw [Int.natAbs_natCast]; exact Raw.little_d hr)
 have b3 := mul_small (show ((r.d : Nat) : Int).natAbs < 16777216 by rw [Int.natAbs_natCast]; exact Raw.little_d hr) (show ((s.d : Nat) : Int).natAbs < 16777216 by rw [Int.natAbs_natCast]; exact Raw.little_d hs)
 have hp := dpos r s
 have h1 : IntKind.i64.wrap (IntKind.i64.wrap (r.n * (s.d : Int)) + IntKind.i64.wrap (s.n * (r.d : Int))) = r.n * s.d + s.n * r.d := by
   rw [wrap_i64 (n := r.n * (s.d : Int)) (by omega) (by omega), wrap_i64 (n := s.n * (r.d : Int)) (by omega) (by omega), wrap_i64 (by omega) (by omega)]
 have h2 : IntKind.i64.wrap ((r.d : Int) * (s.d : Int)) = (r.d : Int) * s.d := wrap_i64 (by omega) (by omega)
 conv => whnf
 refine CallVC.fn (c_ratio (r.n * s.d + s.n * r.d) ((r.d : Int) * s.d) (by omega) hp (by omega)) (two_args h1 h2) ?_
 conv => whnf
 refine postV_one ?_
 rw [dnat, Raw.v, Raw.v, Rat.mkRat_add_mkRat _ _ r.d_ne s.d_ne]
theorem c_Mul1 (r s : Raw) (hr : r.little) (hs : s.little) : Fn PP f_rational_Mul_1 [.int .i64 r.n, .int .i64 r.d, .int .i64 s.n, .int .i64 s.d] (qV (r.v * s.v)) := by
 refine Fn.of TBgood mixed h_rational_Mul_1 rfl rfl (Nat.le_of_ble_eq_true rfl) ?_
 intro w
 have b1 := mul_small (Raw.little_n hr) (Raw.little_n hs)
 have b3 := mul_small (show ((r.d : Nat) : Int).natAbs < 16777216 by rw [Int.natAbs_natCast]; exact Raw.little_d hr) (show ((s.d : Nat) : Int).natAbs < 16777216 by rw [Int.natAbs_natCast]; exact Raw.little_d hs)
 have hp := dpos r s
 have h1 : IntKind.i64.wrap (r.n * s.n) = r.n * s.n := wrap_i64 (by omega) (by omega)
 have h2 : IntKind.i64.wrap ((r.d : Int) * (s.d : Int)) = (r.d : Int) * s.d := wrap_i64 (by omega) (by omega)
 conv => whnf
 refine CallVC.fn (c_ratio (r.n * s.n) ((r.d : Int) * s.d) (by omega) hp (by omega)) (two_args h1 h2) ?_
 conv => whnf
 refine postV_one ?_
 rw [dnat, Raw.v, Raw.v, Rat.mkRat_mul_mkRat]
theorem c_Compare1 (r s : Raw) (hr : r.little) (hs : s.little) : Fn PP f_rational_Compare_1 [.int .i64 r.n, .int .i64 r.d, .int .i64 s.n, .int .i64 s.d] (.int .i64 (cmpQ r.v s.v)) := by
 refine Fn.of TBgood mixed h_rational_Compare_1 rfl rfl (Nat.le_of_ble_eq_true rfl) ?_
 intro w
 have b1 := mul_small (Raw.little_n hr) (show ((s.d : Nat) : Int).natAbs < 16777216 by rw [Int.natAbs_natCast]; exact Raw.little_d hs)
 have b2 := mul_small (Raw.little_n hs) (show ((r.d : Nat) : Int).natAbs < 16777216 by rw [Int.natAbs_natCast]; exact Raw.little_d hr)
 have h1 : IntKind.i64.wrap (r.n * (s.d : Int)) = r.n * s.d := wrap_i64 (by omega) (by omega)
 have h2 : IntKind.i64.wrap (s.n * (r.d : Int)) = s.n * r.d := wrap_i64 (by omega) (by omega)
 rw [cmpQ_raw]
 conv => whnf
 refine br_split ?_ ?_
 · intro h
   have h3 : IntKind.i64.wrap (r.n * (s.d : Int)) < IntKind.i64.wrap (s.n * (r.d : Int)) := of_decide_eq_true h
   rw [h1, h2] at h3
   conv => whnf
   refine postV_one ?_
   rw [cmpZ_lt h3]
 · intro h
   have h3 : ¬ IntKind.i64.wrap (r.n * (s.d : Int)) < IntKind.i64.wrap (s.n * (r.d : Int)) := of_decide_eq_false h
   rw [h1, h2] at h3
   conv => whnf
   refine br_split ?_ ?_
   · intro h
     have h4 : IntKind.i64.wrap (r.n * (s.d : Int)) > IntKind.i64.wrap (s.n * (r.d : Int)) := of_decide_eq_true h
     rw [h1, h2] at h4
     conv => whnf
     refine postV_one ?_
     rw [cmpZ_gt h4]
   · intro h
     have h4 : ¬ IntKind.i64.wrap (r.n * (s.d : Int)) > IntKind.i64.wrap (s.n * (r.d : Int)) := of_decide_eq_false h
     rw [h1, h2] at h4
     conv => whnf
     refine postV_one ?_
     rw [cmpZ, if_neg h3, if_neg h4]
theorem c_bothR (r s : Raw) (f g : FuncId) (t : Raw) (hr : r.sm KK) (hs : s.sm KK) (hf : r.little → s.little → Fn PP f [.int .i64 r.n, .int .i64 r.d, .int .i64 s.n, .int .i64 s.d] (rawV t))
   (hg : Fn PP g [fracV r.neg (bs r.num) false (bs r.den1), fracV s.neg (bs s.num) false (bs s.den1)] (rawV t)) : Fn PP f_rational_both_api_Rat [rawV r, rawV s, fnV f, fnV g] (rawV t) := by
 refine Fn.of TBgood mixed h_rational_both_api_Rat rfl rfl (Nat.le_of_ble_eq_true rfl) ?_
 intro w
 have big : r.sm 10000000000 := ⟨Nat.le_trans hr.1 (by decide), Nat.le_trans hr.2 (by decide)⟩
 have big' : s.sm 10000000000 := ⟨Nat.le_trans hs.1 (by decide), Nat.le_trans hs.2 (by decide)⟩
 conv => whnf
 refine CallVC.fn (c_machine r) rfl ?_
 by_cases h1 : r.little
 · rw [mach, if_pos h1]
   conv => whnf
   refine CallVC.fn (c_machine s) rfl ?_
   by_cases h2 : s.little
   · rw [mach, if_pos h2]
     conv => whnf
     refine CallVC.fn (hf h1 h2) rfl ?_
     conv => whnf
     exact postV_one rfl
   · rw [mach, if_neg h2]
     conv => whnf
     refine DrawVC.quiet (by kernel_rfl) ?_
     conv => whnf
     refine CallVCd.fn (c_of r big) rfl ?_
     conv => whnf
     refine CallVCd.fn (c_of s big') rfl ?_
     conv => whnf
     refine CallVCd.fn hg rfl ?_
     conv => whnf
     exact postV_one rfl
 · rw [mach, if_neg h1]
   conv => whnf
   refine CallVC.fn (c_machine s) rfl ?_
   by_cases h2 : s.little
   · rw [mach, if_pos h2]
     conv => whnf
     refine DrawVC.quiet (by kernel_rfl) ?_
     conv => whnf
     refine CallVCd.fn (c_of r big) rfl ?_
     conv => whnf
     refine CallVCd.fn (c_of s big') rfl ?_
     conv => whnf
     refine CallVCd.fn hg rfl ?_
     conv => whnf
     exact postV_one rfl
   · rw [mach, if_neg h2]
     conv => whnf
     refine DrawVC.quiet (by kernel_rfl) ?_
     conv => whnf
     refine CallVCd.fn (c_of r big) rfl ?_
     conv => whnf
     refine CallVCd.fn (c_of s big') rfl ?_
     conv => whnf
     refine CallVCd.fn hg rfl ?_
     conv => whnf
     exact postV_one rfl
theorem c_bothI (r s : Raw) (f g : FuncId) (t : Int) (hr : r.sm KK) (hs : s.sm KK) (hf : r.little → s.little → Fn PP f [.int .i64 r.n, .int .i64 r.d, .int .i64 s.n, .int .i64 s.d] (.int .i64 t))
   (hg : Fn PP g [fracV r.neg (bs r.num) false (bs r.den1), fracV s.neg (bs s.num) false (bs s.den1)] (.int .i64 t)) : Fn PP f_rational_both_int [rawV r, rawV s, fnV f, fnV g] (.int .i64 t) := by
 refine Fn.of TBgood mixed h_rational_both_int rfl rfl (Nat.le_of_ble_eq_true rfl) ?_
 intro w
 have big : r.sm 10000000000 := ⟨Nat.le_trans hr.1 (by decide), Nat.le_trans hr.2 (by decide)⟩
 have big' : s.sm 10000000000 := ⟨Nat.le_trans hs.1 (by decide), Nat.le_trans hs.2 (by decide)⟩
 conv => whnf
 refine CallVC.fn (c_machine r) rfl ?_
 by_cases h1 : r.little
 · rw [mach, if_pos h1]
   conv => whnf
   refine CallVC.fn (c_machine s) rfl ?_
   by_cases h2 : s.little
   · rw [mach, if_pos h2]
     conv => whnf
     refine CallVC.fn (hf h1 h2) rfl ?_
     conv => whnf
     exact postV_one rfl
   · rw [mach, if_neg h2]
     conv => whnf
     refine DrawVC.quiet (by kernel_rfl) ?_
     conv => whnf
     refine CallVCd.fn (c_of r big) rfl ?_
     conv => whnf
     refine CallVCd.fn (c_of s big') rfl ?_
     conv => whnf
     refine CallVCd.fn hg rfl ?_
     conv => whnf
     exact postV_one rfl
 · rw [mach, if_neg h1]
   conv => whnf
   refine CallVC.fn (c_machine s) rfl ?_
   by_cases h2 : s.little
   · rw [mach, if_pos h2]
     conv => whnf
     refine DrawVC.quiet (by kernel_rfl) ?_
     conv => whnf
     refine CallVCd.fn (c_of r big) rfl ?_
     conv => whnf
     refine CallVCd.fn (c_of s big') rfl ?_
     conv => whnf
     refine CallVCd.fn hg rfl ?_
     conv => whnf
     exact postV_one rfl
   · rw [mach, if_neg h2]
     conv => whnf
     refine DrawVC.quiet (by kernel_rfl) ?_
     conv => whnf
     refine CallVCd.fn (c_of r big) rfl ?_
     conv => whnf
     refine CallVCd.fn (c_of s big') rfl ?_
     conv => whnf
     refine CallVCd.fn hg rfl ?_
     conv => whnf
     exact postV_one rfl
theorem c_rAdd (r s : Raw) (hr : r.sm KK) (hs : s.sm KK) : Fn PP f_rational_Add [rawV r, rawV s] (qV (r.v + s.v)) := by
 refine Fn.of TBgood mixed h_rational_Add rfl rfl (Nat.le_of_ble_eq_true rfl) ?_
 intro w
 conv => whnf
 refine CallVC.fn (c_bothR r s f_rational_Add_1 f_rational_Add_2 (Q (r.v + s.v)) hr hs (c_Add1 r s) (c_Add2 r s hr hs)) rfl ?_
 conv => whnf
 exact postV_one rfl
theorem c_rMul (r s : Raw) (hr : r.sm KK) (hs : s.sm KK) : Fn PP f_rational_Mul [rawV r, rawV s] (qV (r.v * s.v)) := by
 refine Fn.of TBgood mixed h_rational_Mul rfl rfl (Nat.le_of_ble_eq_true rfl) ?_
 intro w
 conv => whnf
 refine CallVC.fn (c_bothR r s f_rational_Mul_1 f_rational_Mul_2 (Q (r.v * s.v)) hr hs (c_Mul1 r s) (c_Mul2 r s hr hs)) rfl ?_
 conv => whnf
 exact postV_one rfl
theorem c_rCompare (r s : Raw) (hr : r.sm KK) (hs : s.sm KK) : Fn PP f_rational_Compare [rawV r, rawV s] (.int .i64 (cmpQ r.v s.v)) := by
 refine Fn.of TBgood mixed h_rational_Compare rfl rfl (Nat.le_of_ble_eq_true rfl) ?_
 intro w
 conv => whnf
 refine CallVC.fn (c_bothI r s f_rational_Compare_1 f_rational_Compare_2 (cmpQ r.v s.v) hr hs (c_Compare1 r s) (c_Compare2 r s hr hs)) rfl ?_
 conv => whnf
 exact postV_one rfl
end Go.Sx
end
section
set_option maxRecDepth 10000
set_option maxHeartbeats 2000000
namespace Go.Sx
open Go Go.Proofs
def Raw.opp (r : Raw) : Raw := ⟨!r.neg, r.num, r.den⟩
theorem Raw.opp_v (r : Raw) : r.opp.v = -r.v := by
 have h1 : r.opp.n = -r.n := sub_neg r.neg (nat r.num)
 have h2 : r.opp.d = r.d := rfl
 rw [Raw.v, Raw.v, Rat.neg_mkRat, h1, h2]
theorem Raw.opp_sm {r : Raw} {k : Nat} (h : r.sm k) : r.opp.sm k := h
theorem Raw.big {r : Raw} (hr : r.sm KK) : r.sm 10000000000 := ⟨Nat.le_trans hr.1 (by decide), Nat.le_trans hr.2 (by decide)⟩
theorem c_num (r : Raw) (hr : r.sm KK) : Fn PP f_rational_fraction_number [fracV r.neg (bs r.num) false (bs r.den1)] (qV r.v) := by
 have := c_number r.neg r.num r.den1 (Nat.le_trans hr.1 (by decide)) (Nat.le_trans (Raw.den1_len (by decide) hr.2) (by decide)) (by rw [Raw.nat_den1]; exact r.d_pos)
 rw [Raw.nat_den1] at this
 exact this
theorem c_rNeg (r : Raw) (hr : r.sm KK) : Fn PP f_rational_Neg [rawV r] (qV (-r.v)) := by
 refine Fn.of TBgood mixed h_rational_Neg rfl rfl (Nat.le_of_ble_eq_true rfl) ?_
 intro w
 conv => whnf
 refine CallVC.fn (c_of r.opp (Raw.big (Raw.opp_sm hr))) rfl ?_
 conv => whnf
 refine CallVC.fn (c_num r.opp (Raw.opp_sm hr)) rfl ?_
 conv => whnf
 refine postV_one ?_
 rw [Raw.opp_v]
theorem c_rSub (r s : Raw) (hr : r.sm KK) (hs : s.sm KK) : Fn PP f_rational_Sub [rawV r, rawV s] (qV (r.v - s.v)) := by
 refine Fn.of TBgood mixed h_rational_Sub rfl rfl (Nat.le_of_ble_eq_true rfl) ?_
 intro w
 conv => whnf
 refine CallVC.fn (c_rAdd r s.opp hr (Raw.opp_sm hs)) rfl ?_
 conv => whnf
 refine postV_one ?_
 rw [Raw.opp_v, Rat.sub_eq_add_neg]
theorem cmpQ_zero (r : Raw) : cmpQ r.v 0 = cmpZ r.n 0 := by
 have h := cmpQ_raw r ⟨false, [], []⟩
 rw [Raw.zero_v] at h
 rw [h]
 have e1 : ((⟨false, [], []⟩ : Raw).d : Int) = 1 := rfl
 have e2 : (⟨false, [], []⟩ : Raw).n = 0 := rfl
 rw [e1, e2, Int.mul_one, Int.zero_mul]
theorem c_rSign (r : Raw) (hr : r.sm KK) : Fn PP f_rational_Sign [rawV r] (.int .i64 (cmpQ r.v 0)) := by
 refine Fn.of TBgood mixed h_rational_Sign rfl rfl (Nat.le_of_ble_eq_true rfl) ?_
 intro w
 conv => whnf
 refine CallVC.fn (c_of r (Raw.big hr)) rfl ?_
 conv => whnf
 refine CallVC.fn (c_Compare r.neg false r.num [] (Nat.le_trans hr.1 (by decide)) (by decide)) rfl ?_
 conv => whnf
 refine postV_one ?_
 rw [cmpQ_zero]; rfl
theorem mk_one (n : Int) : mkRat n 1 = (n : Rat) := Rat.mkRat_self (n : Rat)
theorem c_rOf (n : Int) (h1 : -9223372036854775808 ≤ n) (h2 : n ≤ 9223372036854775807) : Fn PP f_rational_Of [.int .i64 n] (qV (n : Rat)) := by
 refine Fn.of TBgood mixed h_rational_Of rfl rfl (Nat.le_of_ble_eq_true rfl) ?_
 intro w
 conv => whnf
 refine CallVC.fn (c_Of n h1 h2) rfl ?_
 conv => whnf
 refine CallVC.fn (c_Of 1 (by decide) (by decide)) rfl ?_
 conv => whnf
 refine CallVC.fn (c_numberZ n 1 (Nat.le_trans (bytes_len (k := 8) (by omega)) (by decide)) (Nat.le_trans (bytes_len (k := 1) (by decide)) (by decide)) (by decide)) rfl ?_
 conv => whnf
 refine postV_one ?_
 rw [show ((1 : Int)).natAbs = 1 from rfl, mk_one]
theorem c_NegZ (x : Int) (hx : (bytes x.natAbs).length ≤ 10000000000) : Fn PP f_bigint_Neg [zV x] (zV (-x)) := by
 have := c_Neg (decide (x < 0)) (bytes x.natAbs) hx
 rw [nat_bytes, sg_z] at this
 exact this
def newV (x y : Int) : Value := if y = 0 then .tuple #[qV 0, .int .i64 10] else .tuple #[qV (Rat.divInt x y), .int .i64 0]
theorem q0 : qV 0 = .agg ⟨[.bool false, .string ⟨#[]⟩, .string ⟨#[]⟩]⟩ := by rw [qV, Q_zero]; rfl
theorem c_rNew (x y : Int) (hx : (bytes x.natAbs).length ≤ 1000000000) (hy : (bytes y.natAbs).length ≤ 1000000000) : Fn PP f_rational_New [zV x, zV y] (newV x y) := by
 refine Fn.of TBgood mixed h_rational_New rfl rfl (Nat.le_of_ble_eq_true rfl) ?_
 intro w
 have hc := c_Compare (decide (y < 0)) false (bytes y.natAbs) [] (by omega) (by decide)
 rw [nat_bytes, sg_z] at hc
 conv => whnf
 refine CallVC.fn hc rfl ?_
 have e0 : sg false (nat []) = 0 := rfl
 rw [e0]
 rcases Int.lt_trichotomy y 0 with h | h | h
 · rw [cmpZ_lt h]
   conv => whnf
   refine DrawVC.late [(4, 2, [2, 3])] (by kernel_rfl) ?_
   conv => whnf
   refine CallVCd.fn (c_NegZ x (by omega)) rfl ?_
   conv => whnf
   refine CallVCd.fn (c_NegZ y (by omega)) rfl ?_
   conv => whnf
   refine CallVC.fn (c_numberZ (-x) (-y) (by rw [Int.natAbs_neg]; exact hx) (by rw [Int.natAbs_neg]; exact hy) (by omega)) rfl ?_
   conv => whnf
   refine postV_two ?_
   rw [newV, if_neg (by omega)]
   have : Rat.divInt x y = mkRat (-x) (-y).natAbs := by
     rw [← Rat.neg_divInt_neg, ← Rat.divInt_ofNat]; congr 1; omega
   rw [this]
 · subst h
   conv => whnf
   refine postV_two ?_
   rw [newV, if_pos rfl, q0]
 · rw [cmpZ_gt h]
   conv => whnf
   refine CallVC.fn (c_numberZ x y hx hy h) rfl ?_
   conv => whnf
   refine postV_two ?_
   rw [newV, if_neg (by omega)]
   have : Rat.divInt x y = mkRat x y.natAbs := by
     rw [← Rat.divInt_ofNat]; congr 1; omega
   rw [this]
def quoV (x y : Rat) : Value := if y = 0 then .tuple #[qV 0, .int .i64 10] else .tuple #[qV (x / y), .int .i64 0]
theorem raw_zero (s : Raw) : s.v = 0 ↔ s.n = 0 := Rat.mkRat_eq_zero s.d_ne
theorem raw_div (r s : Raw) : Rat.divInt (r.n * s.d) ((r.d : Int) * s.n) = r.v / s.v := by
 rw [Rat.div_def, Raw.v, Raw.v, ← Rat.divInt_ofNat, ← Rat.divInt_ofNat, Rat.inv_divInt, Rat.divInt_mul_divInt]
theorem c_rQuo (r s : Raw) (hr : r.sm KK) (hs : s.sm KK) : Fn PP f_rational_Quo [rawV r, rawV s] (quoV r.v s.v) := by
 refine Fn.of TBgood mixed h_rational_Quo rfl rfl (Nat.le_of_ble_eq_true rfl) ?_
 intro w
 have b1 := zl_mul (rn_lt hr) (rd_lt hs)
 have b2 := zl_mul (rd_lt hr) (rn_lt hs)
 conv => whnf
 refine DrawVC.late [(6, 6, [2, 3])] (by kernel_rfl) ?_
 conv => whnf
 refine CallVCd.fn (c_of r (Raw.big hr)) rfl ?_
 conv => whnf
 refine CallVCd.fn (c_of s (Raw.big hs)) rfl ?_
 conv => whnf
 refine DrawVC.quiet (by kernel_rfl) ?_
 conv => whnf
 refine CallVCd.fn (mulnd hr hs) rfl ?_
 conv => whnf
 refine CallVCd.fn (muldn hr hs) rfl ?_
 conv => whnf
 refine CallVCd.fn (c_rNew (r.n * s.d) ((r.d : Int) * s.n) (Nat.le_trans (zl_le b1) (by decide)) (Nat.le_trans (zl_le b2) (by decide))) rfl ?_
 have hz : ((r.d : Int) * s.n = 0) ↔ s.v = 0 := by
   rw [raw_zero, Int.mul_eq_zero]
   have := r.d_pos
   constructor
   · rintro (h | h)
     · omega
     · exact h
   · exact .inr
 by_cases h : s.v = 0
 · rw [newV, if_pos (hz.2 h)]
   conv => whnf
   refine postV_two ?_
   rw [quoV, if_pos h]
 · rw [newV, if_neg (fun h2 => h (hz.1 h2)), raw_div]
   conv => whnf
   refine postV_two ?_
   rw [quoV, if_neg h]
theorem eqR (r s : Raw) : (r.neg == s.neg && ((bs r.num).toList == (bs s.num).toList && ((bs r.den).toList == (bs s.den).toList && true))) = decide (r = s) := by
 rw [Bool.eq_iff_iff]
 simp only [Bool.and_eq_true, beq_iff_eq, decide_eq_true_eq, bs_toList]
 constructor
 · rintro ⟨h1, h2, h3, _⟩
   cases r; cases s; simp_all
 · rintro rfl; exact ⟨rfl, rfl, rfl, trivial⟩
def checkV (r : Raw) : Value := .int .i64 (if r.ok then 0 else 1)
theorem c_rCheck (r : Raw) (hr : r.sm KK) : Fn PP f_rational_Check [rawV r] (checkV r) := by
 refine Fn.of TBgood mixed h_rational_Check rfl rfl (Nat.le_of_ble_eq_true rfl) ?_
 intro w
 conv => whnf
 refine DrawVC.quiet (by kernel_rfl) ?_
 conv => whnf
 refine CallVCd.fn (c_of r (Raw.big hr)) rfl ?_
 conv => whnf
 refine CallVCd.fn (c_num r hr) rfl ?_
 conv => whnf
 refine br_split ?_ ?_
 · intro h
   have h1 : ¬ r.ok := by
     intro h2
     have h3 : (!(r.neg == (Q r.v).neg && ((bs r.num).toList == (bs (Q r.v).num).toList && ((bs r.den).toList == (bs (Q r.v).den).toList && true)))) = true := h
     rw [eqR, decide_eq_true (show r = Q r.v from h2)] at h3; cases h3
   conv => whnf
   refine postV_one ?_
   rw [checkV, if_neg h1]
 · intro h
   have h1 : r.ok := by
     have h3 : (!(r.neg == (Q r.v).neg && ((bs r.num).toList == (bs (Q r.v).num).toList && ((bs r.den).toList == (bs (Q r.v).den).toList && true)))) = false := h
     rw [eqR] at h3
     have : decide (r = Q r.v) = true := by cases hd : decide (r = Q r.v) with | true => rfl | false => rw [hd] at h3; cases h3
     exact of_decide_eq_true this
   conv => whnf
   refine postV_one ?_
   rw [checkV, if_pos h1]
end Go.Sx
end
section
set_option maxRecDepth 10000
set_option maxHeartbeats 2000000
namespace Go.Sx
open Go Go.Proofs
structure Pt where
 x : Raw
 y : Raw
deriving DecidableEq
def Pt.v (p : Pt) : V := ⟨p.x.v, p.y.v⟩
def Pt.sm (k : Nat) (p : Pt) : Prop := p.x.sm k ∧ p.y.sm k
def PQ (a : V) : Pt := ⟨Q a.x, Q a.y⟩
@[simp] theorem PQ_v (a : V) : (PQ a).v = a := by simp [Pt.v, PQ]
abbrev pV (p : Pt) : Value := .agg ⟨[.bool p.x.neg, .string (bs p.x.num), .string (bs p.x.den), .bool p.y.neg, .string (bs p.y.num), .string (bs p.y.den)]⟩
def SzV (k : Nat) (a : V) : Prop := Sz k a.x ∧ Sz k a.y
theorem Raw.sm.le {r : Raw} {k m : Nat} (h : r.sm k) (hm : k ≤ m) : r.sm m := ⟨Nat.le_trans h.1 hm, Nat.le_trans h.2 hm⟩
theorem Pt.sm.le {p : Pt} {k m : Nat} (h : p.sm k) (hm : k ≤ m) : p.sm m := ⟨h.1.le hm, h.2.le hm⟩
theorem Pt.sm.sz {p : Pt} {k : Nat} (hk : 0 < k) (h : p.sm k) : SzV k p.v := ⟨Raw.sz hk h.1.1 h.1.2, Raw.sz hk h.2.1 h.2.2⟩
theorem SzV.q {k : Nat} {a : V} (h : SzV k a) : (PQ a).sm k := ⟨h.1.q, h.2.q⟩
theorem SzV.le {k m : Nat} {a : V} (h : SzV k a) (hm : k ≤ m) : SzV m a := ⟨h.1.le hm, h.2.le hm⟩
theorem SzV.add {k m : Nat} {a b : V} (h : SzV k a) (h' : SzV m b) : SzV (k + m + 1) (a + b) := ⟨h.1.add h'.1, h.2.add h'.2⟩
theorem SzV.sub {k m : Nat} {a b : V} (h : SzV k a) (h' : SzV m b) : SzV (k + m + 1) (a - b) := ⟨h.1.sub h'.1, h.2.sub h'.2⟩
theorem SzV.scale {k m : Nat} {a : V} {t : Rat} (h : SzV k a) (h' : Sz m t) : SzV (k + m) (a.scale t) := ⟨h.1.mul h', h.2.mul h'⟩
theorem SzV.cross {k m : Nat} {a b : V} (h : SzV k a) (h' : SzV m b) : Sz ((k + m) + (k + m) + 1) (a.cross b) := (h.1.mul h'.2).sub (h.2.mul h'.1)
theorem SzV.at {k m n : Nat} {a b : V} {t : Rat} (h : SzV k a) (h' : SzV m b) (ht : Sz n t) : SzV (k + ((m + k + 1) + n) + 1) (a.at b t) := h.add ((h'.sub h).scale ht)
abbrev KV : Nat := 1000000
theorem c_each (p q : Pt) (f : FuncId) (a b : Raw) (h1 : Fn PP f [rawV p.x, rawV q.x] (rawV a)) (h2 : Fn PP f [rawV p.y, rawV q.y] (rawV b)) : Fn PP f_vector_each [pV p, pV q, fnV f] (pV ⟨a, b⟩) := by
 refine Fn.of TBgood mixed h_vector_each rfl rfl (Nat.le_of_ble_eq_true rfl) ?_
 intro w
 conv => whnf
 refine DrawVC.quiet (by kernel_rfl) ?_
 conv => whnf
 refine CallVCd.fn h1 rfl ?_
 conv => whnf
 refine CallVCd.fn h2 rfl ?_
 conv => whnf
 exact postV_one rfl
theorem c_vAdd (p q : Pt) (hp : p.sm KK) (hq : q.sm KK) : Fn PP f_vector_Add [pV p, pV q] (pV (PQ (p.v + q.v))) := by
 refine Fn.of TBgood mixed h_vector_Add rfl rfl (Nat.le_of_ble_eq_true rfl) ?_
 intro w
 conv => whnf
 refine CallVC.fn (c_each p q f_rational_Add (Q (p.x.v + q.x.v)) (Q (p.y.v + q.y.v)) (c_rAdd _ _ hp.1 hq.1) (c_rAdd _ _ hp.2 hq.2)) rfl ?_
 conv => whnf
 exact postV_one rfl
theorem c_vSub (p q : Pt) (hp : p.sm KK) (hq : q.sm KK) : Fn PP f_vector_Sub [pV p, pV q] (pV (PQ (p.v - q.v))) := by
 refine Fn.of TBgood mixed h_vector_Sub rfl rfl (Nat.le_of_ble_eq_true rfl) ?_
 intro w
 conv => whnf
 refine CallVC.fn (c_each p q f_rational_Sub (Q (p.x.v - q.x.v)) (Q (p.y.v - q.y.v)) (c_rSub _ _ hp.1 hq.1) (c_rSub _ _ hp.2 hq.2)) rfl ?_
 conv => whnf
 exact postV_one rfl
theorem c_vScale (p : Pt) (t : Raw) (hp : p.sm KK) (ht : t.sm KK) : Fn PP f_vector_Scale [pV p, rawV t] (pV (PQ (p.v.scale t.v))) := by
 refine Fn.of TBgood mixed h_vector_Scale rfl rfl (Nat.le_of_ble_eq_true rfl) ?_
 intro w
 conv => whnf
 refine CallVC.fn (c_each p ⟨t, t⟩ f_rational_Mul (Q (p.x.v * t.v)) (Q (p.y.v * t.v)) (c_rMul _ _ hp.1 ht) (c_rMul _ _ hp.2 ht)) rfl ?_
 conv => whnf
 exact postV_one rfl
theorem c_vCross (p q : Pt) (hp : p.sm (10 * KV)) (hq : q.sm (10 * KV)) : Fn PP f_vector_Cross [pV p, pV q] (qV (p.v.cross q.v)) := by
 have zp := hp.sz (by decide)
 have zq := hq.sz (by decide)
 refine Fn.of TBgood mixed h_vector_Cross rfl rfl (Nat.le_of_ble_eq_true rfl) ?_
 intro w
 conv => whnf
 refine CallVC.fn (c_each p ⟨q.y, q.x⟩ f_rational_Mul (Q (p.x.v * q.y.v)) (Q (p.y.v * q.x.v)) (c_rMul _ _ (hp.1.le (by decide)) (hq.2.le (by decide))) (c_rMul _ _ (hp.2.le (by decide)) (hq.1.le (by decide)))) rfl ?_
 conv => whnf
 refine CallVC.fn (c_rSub (Q (p.x.v * q.y.v)) (Q (p.y.v * q.x.v)) ((zp.1.mul zq.2).q.le (by decide)) ((zp.2.mul zq.1).q.le (by decide))) rfl ?_
 conv => whnf
 refine postV_one ?_
 rw [Q_v, Q_v]; rfl
theorem c_vCompare (p q : Pt) (hp : p.sm KK) (hq : q.sm KK) : Fn PP f_vector_Compare [pV p, pV q] (.int .i64 (cmpV p.v q.v)) := by
 refine Fn.of TBgood mixed h_vector_Compare rfl rfl (Nat.le_of_ble_eq_true rfl) ?_
 intro w
 conv => whnf
 refine CallVC.fn (c_rCompare p.x q.x hp.1 hq.1) rfl ?_
 conv => whnf
 refine br_split ?_ ?_
 · intro h
   have h1 : cmpQ p.x.v q.x.v ≠ 0 := by intro h2; rw [h2] at h; exact absurd h (by decide)
   conv => whnf
   refine postV_one ?_
   rw [cmpV, if_pos (show cmpQ p.v.x q.v.x ≠ 0 from h1)]; rfl
 · intro h
   have h1 : cmpQ p.x.v q.x.v = 0 := by simpa using h
   conv => whnf
   refine CallVC.fn (c_rCompare p.y q.y hp.2 hq.2) rfl ?_
   conv => whnf
   refine postV_one ?_
   rw [cmpV, if_neg (show ¬ cmpQ p.v.x q.v.x ≠ 0 from fun h => h h1)]; rfl
theorem c_vAt (p q : Pt) (t : Raw) (hp : p.sm (10 * KV)) (hq : q.sm (10 * KV)) (ht : t.sm (30 * KV)) : Fn PP f_vector_At [pV p, pV q, rawV t] (pV (PQ (p.v.at q.v t.v))) := by
 have zp := hp.sz (by decide)
 have zq := hq.sz (by decide)
 have zt := Raw.sz (r := t) (k := 30 * KV) (by decide) ht.1 ht.2
 refine Fn.of TBgood mixed h_vector_At rfl rfl (Nat.le_of_ble_eq_true rfl) ?_
 intro w
 conv => whnf
 refine DrawVC.quiet (by kernel_rfl) ?_
 conv => whnf
 refine CallVCd.fn (c_vSub q p (hq.le (by decide)) (hp.le (by decide))) rfl ?_
 conv => whnf
 refine CallVCd.fn (c_vScale (PQ (q.v - p.v)) t ((zq.sub zp).q.le (by decide)) (ht.le (by decide))) rfl ?_
 rw [PQ_v]
 conv => whnf
 refine CallVCd.fn (c_vAdd p (PQ ((q.v - p.v).scale t.v)) (hp.le (by decide)) (((zq.sub zp).scale zt).q.le (by decide))) rfl ?_
 rw [PQ_v]
 conv => whnf
 exact postV_one rfl
theorem c_vOf (x y : Int) (h1 : -9223372036854775808 ≤ x) (h2 : x ≤ 9223372036854775807) (h3 : -9223372036854775808 ≤ y) (h4 : y ≤ 9223372036854775807) : Fn PP f_vector_Of [.int .i64 x, .int .i64 y] (pV (PQ ⟨x, y⟩)) := by
 refine Fn.of TBgood mixed h_vector_Of rfl rfl (Nat.le_of_ble_eq_true rfl) ?_
 intro w
 conv => whnf
 refine CallVC.fn (c_rOf x h1 h2) rfl ?_
 conv => whnf
 refine CallVC.fn (c_rOf y h3 h4) rfl ?_
 conv => whnf
 exact postV_one rfl
theorem c_Orient (a b c : Pt) (ha : a.sm (4 * KV)) (hb : b.sm (4 * KV)) (hc : c.sm (4 * KV)) : Fn PP f_predicate_Orient [pV a, pV b, pV c] (.int .i64 (cmpQ ((b.v - a.v).cross (c.v - a.v)) 0)) := by
 have za := ha.sz (by decide)
 have zb := hb.sz (by decide)
 have zc := hc.sz (by decide)
 refine Fn.of TBgood mixed h_predicate_Orient rfl rfl (Nat.le_of_ble_eq_true rfl) ?_
 intro w
 conv => whnf
 refine DrawVC.quiet (by kernel_rfl) ?_
 conv => whnf
 refine CallVCd.fn (c_vSub b a (hb.le (by decide)) (ha.le (by decide))) rfl ?_
 conv => whnf
 refine CallVCd.fn (c_vSub c a (hc.le (by decide)) (ha.le (by decide))) rfl ?_
 conv => whnf
 refine CallVCd.fn (c_vCross (PQ (b.v - a.v)) (PQ (c.v - a.v)) ((zb.sub za).q.le (by decide)) ((zc.sub za).q.le (by decide))) rfl ?_
 rw [PQ_v, PQ_v]
 conv => whnf
 refine CallVCd.fn (c_rSign (Q ((b.v - a.v).cross (c.v - a.v))) (((zb.sub za).cross (zc.sub za)).q.le (by decide))) rfl ?_
 rw [Q_v]
 conv => whnf
 exact postV_one rfl
end Go.Sx
end
