/- The law SlabEuler of the program answers true for every input, and its arguments read as before. No conditions. -/
import Derived.Test.YtjhgjniipoemgaaGreatM5
import Derived.Test.YtjhgjniipoemgaaGreatM4
import Derived.Test.YtjhgjniipoemgaaGreatRows
import Derived.WalkKit
import Derived.ProofKit
import Derived.OpenShut
import Derived.ShutString
import Derived.ChangeOld
import Derived.Below
import Derived.Carry
import Derived.Handed
set_option linter.unusedVariables false
set_option linter.unusedSimpArgs false
set_option linter.unusedSectionVars false
section
set_option maxRecDepth 10000
set_option maxHeartbeats 2000000
namespace Go.Sx
open Go Go.Proofs
def cless (a b : Cel) : Prop := a.c < b.c ∨ (a.c = b.c ∧ (a.k < b.k ∨ (a.k = b.k ∧ a.r < b.r)))
instance (a b : Cel) : Decidable (cless a b) := inferInstanceAs (Decidable (_ ∨ _))
theorem kindL_mem {s : Sl} {k c : Nat} {x : Cel} (h : x ∈ kindL s k c) : x.k = k ∧ x.c = c ∧ (x.r : Int) < cntK s k c := by
 obtain ⟨r, hr, rfl⟩ := List.mem_map.1 h
 refine ⟨rfl, rfl, ?_⟩
 have := List.mem_range.1 hr
 show (r : Int) < _
 omega
theorem kindL_asc (s : Sl) (k c : Nat) : (kindL s k c).Pairwise cless := by
 rw [kindL, List.pairwise_map]
 exact (List.pairwise_lt_range).imp (fun h => .inr ⟨rfl, .inr ⟨rfl, h⟩⟩)
theorem colF_mem {s : Sl} {c : Nat} {x : Cel} : ∀ {j : Nat}, j ≤ 4 → x ∈ colF s c j → x.c = c ∧ 4 - j ≤ x.k ∧ x.k < 4 ∧ (x.r : Int) < cntK s x.k c
 | 0, _, h => by cases h
 | j + 1, hj, h => by
   rcases List.mem_append.1 h with h | h
   · obtain ⟨h1, h2, h3⟩ := kindL_mem h
     exact ⟨h2, by omega, by omega, by rw [h1]; exact h3⟩
   · obtain ⟨h1, h2, h3⟩ := colF_mem (j := j) (by omega) h
     exact ⟨h1, by omega, h3⟩
theorem colF_asc (s : Sl) (c : Nat) : ∀ j : Nat, j ≤ 4 → (colF s c j).Pairwise cless
 | 0, _ => .nil
 | j + 1, hj => by
   refine List.pairwise_append.2 ⟨kindL_asc s _ c, colF_asc s c j (by omega), fun a ha b hb => ?_⟩
   obtain ⟨h1, h2, h3⟩ := kindL_mem ha
   obtain ⟨h4, h5, h6⟩ := colF_mem (by omega) hb
   exact .inr ⟨by omega, .inl (by omega)⟩
theorem colsL_mem {s : Sl} {x : Cel} : ∀ {n c : Nat}, x ∈ colsL s c n → c ≤ x.c ∧ x.c < c + n ∧ x.k < 4 ∧ (x.r : Int) < cntK s x.k x.c
 | 0, c, h => by cases h
 | n + 1, c, h => by
   rcases List.mem_append.1 h with h | h
   · obtain ⟨h1, h2, h3, h4⟩ := colF_mem (Nat.le_refl 4) h
     exact ⟨by omega, by omega, h3, by rw [h1]; exact h4⟩
   · obtain ⟨h1, h2, h3⟩ := colsL_mem h
     exact ⟨by omega, by omega, h3⟩
theorem colsL_asc (s : Sl) : ∀ n c : Nat, (colsL s c n).Pairwise cless
 | 0, c => .nil
 | n + 1, c => by
   refine List.pairwise_append.2 ⟨colF_asc s c 4 (Nat.le_refl _), colsL_asc s n (c + 1), fun a ha b hb => ?_⟩
   have h1 := (colF_mem (Nat.le_refl 4) ha).1
   have h2 := (colsL_mem hb).1
   exact .inl (by omega)
theorem cellsL_asc (s : Sl) {i : Nat} {a b : Cel} (ha : (cellsL s)[i]? = some a) (hb : (cellsL s)[i + 1]? = some b) : cless a b := by
 obtain ⟨h1, rfl⟩ := List.getElem?_eq_some_iff.1 ha
 obtain ⟨h2, rfl⟩ := List.getElem?_eq_some_iff.1 hb
 exact (List.pairwise_iff_getElem.1 (colsL_asc s _ _)) i (i + 1) h1 h2 (by omega)
theorem cellsL_mem {s : Sl} {x : Cel} (h : x ∈ cellsL s) : x.c < s.X.xs.length ∧ x.k < 4 ∧ (x.r : Int) < cntK s x.k x.c := by
 obtain ⟨_, h2, h3⟩ := colsL_mem h
 exact ⟨by omega, h3⟩
def sgn (k : Nat) : Int := if k = 0 ∨ k = 3 then 1 else -1
def eul : List Cel → Int
 | [] => 0
 | x :: r => sgn x.k + eul r
theorem eul_append : ∀ a b : List Cel, eul (a ++ b) = eul a + eul b
 | [], b => by simp [eul]
 | x :: a, b => by simp only [List.cons_append, eul, eul_append a b]; omega
theorem eul_const {k : Nat} : ∀ l : List Cel, (∀ x ∈ l, x.k = k) → eul l = sgn k * l.length
 | [], _ => by simp [eul]
 | x :: l, h => by
   rw [eul, eul_const l (fun y hy => h y (List.mem_cons_of_mem _ hy)), h x (List.mem_cons_self ..), List.length_cons, Int.natCast_add, Int.mul_add]
   simp; omega
theorem eul_le : ∀ l : List Cel, (eul l).natAbs ≤ l.length
 | [] => Nat.le_refl _
 | x :: l => by
   have := eul_le l
   have h2 : (sgn x.k).natAbs ≤ 1 := by unfold sgn; split <;> decide
   rw [eul, List.length_cons]; omega
theorem eul_kind (s : Sl) (k c : Nat) : eul (kindL s k c) = sgn k * (cntK s k c).toNat := by
 rw [eul_const _ (fun x hx => (kindL_mem hx).1)]; simp [kindL]
theorem eul_col (s : Sl) (c : Nat) : eul (colF s c 4) = (lineN s 0 c).toNat - (lineN s 1 c).toNat - (stripN s 2 c).toNat + (stripN s 1 c).toNat := by
 show eul (kindL s 0 c ++ (kindL s 1 c ++ (kindL s 2 c ++ (kindL s 3 c ++ [])))) = _
 rw [eul_append, eul_append, eul_append, eul_append, eul_kind, eul_kind, eul_kind, eul_kind]
 show 1 * ((lineN s 0 c).toNat : Int) + (-1 * ((lineN s 1 c).toNat : Int) + (-1 * ((stripN s 2 c).toNat : Int) + (1 * ((stripN s 1 c).toNat : Int) + 0))) = _
 omega
theorem Sl.is_len {s : Sl} (h : s.is) : s.L.xs.length = s.X.xs.length ∧ s.S.xs.length = s.X.xs.length - 1 ∧ 0 < s.X.xs.length := by
 obtain ⟨h1, h2, h3⟩ := h
 have e2 := congrArg List.length h2
 have e3 := congrArg List.length h3
 rw [stripsL_len] at e3
 simp only [List.length_map] at e2 e3
 refine ⟨e2, e3, ?_⟩
 rw [h1]
 have : s.lo.x ∈ xsL s.lo s.hi (pcsL s.lo s.hi s.sg.xs) := ascL_mem.2 (List.mem_cons_self ..)
 exact List.length_pos_of_mem this
theorem ysL_pos (lo hi : V) (ps : List Pc) (x : Rat) : 0 < (ysL lo hi ps x).length := List.length_pos_of_mem (ascL_mem.2 (List.mem_cons_self ..) : lo.y ∈ ysL lo hi ps x)
theorem Sl.is_line {s : Sl} (h : s.is) {l : Ln Rat} (hl : l ∈ s.L.xs) : ∃ x, l.xs = ysL s.lo s.hi (pcsL s.lo s.hi s.sg.xs) x := by
 have : l.xs ∈ s.L.xs.map (·.xs) := List.mem_map.2 ⟨l, hl, rfl⟩
 rw [h.2.1] at this
 obtain ⟨x, _, hx⟩ := List.mem_map.1 this
 exact ⟨x, hx.symm⟩
theorem stripsL_mem {f : Rat → Rat → List Nat} {t : List Nat} : ∀ {l : List Rat}, t ∈ stripsL f l → ∃ x y, t = f x y
 | [], h => by cases h
 | [_], h => by cases h
 | x :: y :: r, h => by
   rcases List.mem_cons.1 h with rfl | h
   · exact ⟨x, y, rfl⟩
   · exact stripsL_mem h
theorem Sl.is_strip {s : Sl} (h : s.is) {l : Ln Nat} (hl : l ∈ s.S.xs) : ∃ x y, l.xs = strpL s.lo s.hi (pcsL s.lo s.hi s.sg.xs) x y := by
 have : l.xs ∈ s.S.xs.map (·.xs) := List.mem_map.2 ⟨l, hl, rfl⟩
 rw [h.2.2] at this
 exact stripsL_mem this
theorem eul_one {s : Sl} (h : s.is) {c : Nat} (hc : c < s.X.xs.length) : eul (colF s c 4) = if c + 1 < s.X.xs.length then 0 else 1 := by
 obtain ⟨e1, e2, e3⟩ := Sl.is_len h
 rw [eul_col]
 have hcl : c < s.L.xs.length := by omega
 obtain ⟨x, hx⟩ := Sl.is_line h (List.getElem_mem hcl)
 have hp := ysL_pos s.lo s.hi (pcsL s.lo s.hi s.sg.xs) x
 rw [← hx] at hp
 have hline : ∀ d, lineN s d c = ((s.L.xs[c].xs.length : Nat) : Int) - d := fun d => by
   unfold lineN
   rw [if_pos ⟨hcl, hc⟩, List.getD_eq_getElem?_getD, List.getElem?_map, List.getElem?_eq_getElem hcl]; rfl
 rw [hline, hline]
 split
 · rename_i h1
   have hcs : c < s.S.xs.length := by omega
   have hstrip : ∀ d, stripN s d c = ((s.S.xs[c].xs.length : Nat) : Int) + d := fun d => by
     unfold stripN
     rw [if_pos ⟨hcs, h1, by omega⟩, List.getD_eq_getElem?_getD, List.getElem?_map, List.getElem?_eq_getElem hcs]; rfl
   rw [hstrip, hstrip]; omega
 · rename_i h1
   have hstrip : ∀ d, stripN s d c = 0 := fun d => by
     unfold stripN
     rw [if_neg (fun h => h1 h.2.1)]
   rw [hstrip, hstrip]; omega
theorem eul_cols {s : Sl} (h : s.is) : ∀ n c : Nat, c + (n + 1) = s.X.xs.length → eul (colsL s c (n + 1)) = 1
 | 0, c, hc => by
   show eul (colF s c 4 ++ []) = 1
   rw [List.append_nil, eul_one h (by omega), if_neg (by omega)]
 | n + 1, c, hc => by
   show eul (colF s c 4 ++ colsL s (c + 1) (n + 1)) = 1
   rw [eul_append, eul_one h (by omega), if_pos (by omega), eul_cols h n (c + 1) (by omega)]; rfl
theorem eul_cells {s : Sl} (h : s.is) : eul (cellsL s) = 1 := by
 obtain ⟨_, _, e3⟩ := Sl.is_len h
 rw [cellsL, show s.X.xs.length = (s.X.xs.length - 1) + 1 by omega]
 exact eul_cols h _ 0 (by omega)
theorem ysL_len {lo hi : V} {ps : List Pc} {x : Rat} : (ysL lo hi ps x).length ≤ 2 + 3 * ps.length := by
 refine Nat.le_trans (ascL_len _) ?_
 have := ord_len x ps
 simp only [List.length_cons]; omega
theorem strpL_len {lo hi : V} {ps : List Pc} {l r : Rat} : (strpL lo hi ps l r).length ≤ ps.length := by
 refine Nat.le_trans (fstL_len _) ?_
 rw [(sortC_perm _).length_eq]
 exact List.length_filterMap_le _ _
theorem pcsL_len {lo hi : V} {E : List (V × V)} : (pcsL lo hi E).length ≤ E.length := pcsF_len ..
theorem cntK_le {s : Sl} {B : Nat} (hL : ∀ l ∈ s.L.xs, l.xs.length ≤ B) (hS : ∀ l ∈ s.S.xs, l.xs.length ≤ B) (k c : Nat) : cntK s k c ≤ B + 2 := by
 have h1 : ∀ d, lineN s d c ≤ B + 2 := fun d => by
   unfold lineN; split
   · rename_i h
     have := hL _ (List.getElem_mem h.1)
     rw [List.getD_eq_getElem?_getD, List.getElem?_map, List.getElem?_eq_getElem h.1]
     simp only [Option.map_some, Option.getD_some]; omega
   · omega
 have h2 : ∀ d, d ≤ 2 → stripN s d c ≤ B + 2 := fun d hd => by
   unfold stripN; split
   · rename_i h
     have := hS _ (List.getElem_mem h.1)
     rw [List.getD_eq_getElem?_getD, List.getElem?_map, List.getElem?_eq_getElem h.1]
     simp only [Option.map_some, Option.getD_some]; omega
   · omega
 match k with
 | 0 => exact h1 0
 | 1 => exact h1 1
 | 2 => exact h2 2 (by omega)
 | _ + 3 => exact h2 1 (by omega)
theorem colF_len {s : Sl} {B c : Nat} (h : ∀ k, cntK s k c ≤ B) : ∀ j, (colF s c j).length ≤ j * B
 | 0 => by simp [colF]
 | j + 1 => by
   have h1 := colF_len h j
   have h2 := h (3 - j)
   rw [colF, List.length_append, Nat.succ_mul]
   simp only [kindL, List.length_map, List.length_range]
   omega
theorem colsL_len {s : Sl} {B : Nat} (h : ∀ k c, cntK s k c ≤ B) : ∀ n c, (colsL s c n).length ≤ n * (4 * B)
 | 0, c => by simp [colsL]
 | n + 1, c => by
   have h1 := colsL_len h n (c + 1)
   have h2 := colF_len (c := c) (fun k => h k c) 4
   rw [colsL, List.length_append, Nat.succ_mul]
   omega
theorem Sl.is_small {s : Sl} (h : s.is) (hE : s.sg.xs.length ≤ 8) : s.small ∧ (cellsL s).length ≤ 1000000000 := by
 obtain ⟨e1, e2, e3⟩ := Sl.is_len h
 have hp : (pcsL s.lo s.hi s.sg.xs).length ≤ 8 := Nat.le_trans pcsL_len hE
 have hX : s.X.xs.length ≤ 6418 := by
   rw [h.1]
   refine Nat.le_trans (ascL_len _) ?_
   have := absG_len (pcsL s.lo s.hi s.sg.xs) (pcsL s.lo s.hi s.sg.xs).length (by omega)
   simp only [List.length_cons]; omega
 have hL : ∀ l ∈ s.L.xs, l.xs.length ≤ 26 := fun l hl => by
   obtain ⟨x, hx⟩ := Sl.is_line h hl
   rw [hx]; exact Nat.le_trans ysL_len (by omega)
 have hS : ∀ l ∈ s.S.xs, l.xs.length ≤ 26 := fun l hl => by
   obtain ⟨x, y, hx⟩ := Sl.is_strip h hl
   rw [hx]; exact Nat.le_trans strpL_len (by omega)
 refine ⟨⟨by omega, by omega, by omega, fun l hl => Nat.le_trans (hL l hl) (by decide), fun l hl => Nat.le_trans (hS l hl) (by decide), by omega⟩, ?_⟩
 have hc := colsL_len (B := 28) (fun k c => cntK_le hL hS k c) s.X.xs.length 0
 refine Nat.le_trans hc ?_
 exact Nat.le_trans (Nat.mul_le_mul_right _ hX) (by decide)
theorem ysL_sz {lo hi : V} {ps : List Pc} {x : Rat} (hlo : SzV K0 lo) (hhi : SzV K0 hi) (hps : PcsOk ps) (hx : Sz KX x) : ∀ y ∈ ysL lo hi ps x, Sz 200000 y := fun y hy => by
 rw [ysL, ascL_mem] at hy
 rcases List.mem_cons.1 hy with rfl | hy
 · exact hlo.2.le (by decide)
 rcases List.mem_cons.1 hy with rfl | hy
 · exact hhi.2.le (by decide)
 obtain ⟨p, hp, hy⟩ := List.mem_flatMap.1 hy
 exact ordP_sz (hps p hp).1 hx y hy
theorem Sl.is_szX {s : Sl} (h : s.is) (hz : s.sz) : s.szX := by
 have hps : PcsOk (pcsL s.lo s.hi s.sg.xs) := pcsL_ok hz.lo hz.hi (fun e he => (hz.sg e he).1)
 have hX : ∀ x ∈ s.X.xs, Sz KX x := fun x hx => by rw [h.1] at hx; exact xsL_sz hz.lo hz.hi hps x hx
 refine ⟨hX, fun l hl => ?_⟩
 have : l.xs ∈ s.L.xs.map (·.xs) := List.mem_map.2 ⟨l, hl, rfl⟩
 rw [h.2.1] at this
 obtain ⟨x, hx, e⟩ := List.mem_map.1 this
 rw [← e]
 exact ysL_sz hz.lo hz.hi hps (hX x hx)
end Go.Sx
end
section
set_option maxRecDepth 10000
set_option maxHeartbeats 2000000
namespace Go.Sx
open Go Go.Proofs
theorem Sl.F_F' {s : Sl} {R : Res} (h : R ∈ s.F) : R ∈ s.F' ∨ R = s.sg.R sgq := by
 rcases List.mem_append.1 h with h | h
 · exact .inl (List.mem_append_left _ h)
 · simp only [List.mem_cons, List.not_mem_nil, or_false] at h
   rcases h with rfl | rfl | rfl | rfl
   · exact .inl (List.mem_append_right _ (by simp))
   · exact .inl (List.mem_append_right _ (by simp))
   · exact .inl (List.mem_append_right _ (by simp))
   · exact .inr rfl
theorem F'_ok {lo hi : V} {E : List (V × V)} {A : Option Addr} {c : Nat} (s : BuildOk lo hi E A c) : ∀ R ∈ s.1.F', R.ok := fun R hR => by
 rcases List.mem_append.1 hR with hR | hR
 · rcases List.mem_append.1 hR with hR | hR
   · obtain ⟨l, _, rfl⟩ := List.mem_map.1 hR; exact SlRes.ok _ _
   · obtain ⟨l, _, rfl⟩ := List.mem_map.1 hR; exact SlRes.ok _ _
 · simp only [List.mem_cons, List.not_mem_nil, or_false] at hR
   rcases hR with rfl | rfl | rfl <;> exact SlRes.ok _ _
theorem pt_V {a b : Int} {x y : Rat} (hx : (a : Rat) = x) (hy : (b : Rat) = y) : pV (pt a b) = pV (PQ ⟨x, y⟩) := by rw [← hx, ← hy]
abbrev zP : List Value := [.bool false, .string ⟨#[]⟩, .string ⟨#[]⟩, .bool false, .string ⟨#[]⟩, .string ⟨#[]⟩]
theorem boxC_aw : bxV ⟨PQ ⟨0, 0⟩, PQ ⟨4, 4⟩⟩ = .agg ⟨zP ++ ptC (PQ ⟨4, 4⟩)⟩ := by
 rw [show PQ (⟨0, 0⟩ : V) = ⟨Q 0, Q 0⟩ from rfl, Q_zero]; rfl
def cn (i k : Nat) : Nat := (awCells.take i).countP (fun x => x.k == k)
theorem cn_succ {i : Nat} {x : Cel} (h : awCells[i]? = some x) (k : Nat) : cn (i + 1) k = cn i k + (if x.k = k then 1 else 0) := by
 rw [cn, take_snoc' h, List.countP_append, cn]
 congr 1
 by_cases hk : x.k = k <;> simp [hk]
theorem cn_le (i k : Nat) : cn i k ≤ 27 := by
 refine Nat.le_trans (List.countP_le_length) ?_
 rw [List.length_take]; exact Nat.min_le_right _ _
theorem awK : ∀ x ∈ awCells, x.k < 4 := by decide
theorem c_awake16 : Fn PP f_narrowslaw16_awake [] (.bool true) := by
 have h44 := c_pt 4 4 (by decide) (by decide)
 have h11 := c_pt 1 1 (by decide) (by decide)
 have h33 := c_pt 3 3 (by decide) (by decide)
 have h23 := c_pt 2 3 (by decide) (by decide)
 rw [pt_V (x := 4) (y := 4) (by decide) (by decide)] at h44
 rw [pt_V (x := 1) (y := 1) (by decide) (by decide)] at h11
 rw [pt_V (x := 3) (y := 3) (by decide) (by decide)] at h33
 rw [pt_V (x := 2) (y := 3) (by decide) (by decide)] at h23
 have h := FnM.ofS (re := []) (R := retsV (.bool true)) (post := postV (.bool true)) TBgood mixed h_narrowslaw16_awake rfl rfl (Nat.le_of_ble_eq_true rfl) (by simp) (fun w l st E w' hp hm => postV_ok hp hm) (vs := []) ?_
 · exact ⟨h.enters, fun w _ => h.calls w (by simp [facts])⟩
 intro w _
 refine WPS.peel TBgood mixed ?_
 conv => whnf
 refine WPS.peel TBgood mixed ?_
 conv => whnf
 refine cf h44 ?_
 conv => whnf
 refine WPS.seq ?_
 have hbuild : ∀ b : Nat, FnM PP f_slab_Build [.agg ⟨zP ++ ptC (PQ ⟨4, 4⟩)⟩, .slice (some ⟨b, 0, none⟩) 1 1] (facts [SlRes (some ⟨b, 0, none⟩) (rowV sgq awE)]) (retsE (ι := BuildOk ⟨0, 0⟩ ⟨4, 4⟩ awE (some ⟨b, 0, none⟩) 1) (fun s => .tuple #[s.1.V, .int .i64 0]) (fun s => s.1.F')) := fun b => by
   rw [← boxC_aw]
   exact c_BuildOk ⟨0, 0⟩ ⟨4, 4⟩ (some ⟨b, 0, none⟩) 1 awE ⟨⟨by decide, by decide⟩, ⟨by decide, by decide⟩⟩ ⟨⟨by decide, by decide⟩, ⟨by decide, by decide⟩⟩ (by decide) (by decide) (fun e he => by
     rw [List.mem_singleton] at he
     subst he
     exact ⟨⟨⟨⟨by decide, by decide⟩, ⟨by decide, by decide⟩⟩, ⟨⟨by decide, by decide⟩, ⟨by decide, by decide⟩⟩⟩, by decide⟩) (by decide)
 refine WPS.drawS TBgood mixed [(10, 2, [8])] (10 + 4294967296 * 6) [0, 1, 2, 3, 4] 5 9 [6, 7, 8, 9, 10, 11] [6, 7, 8, 10, 11] (K := fun s => ∃ d : Sl, AwS d ∧ SLe ⟨w, [], b_narrowslaw16_awake.ntmps⟩ s ⟨[(0, .o (.v (.bool false))), (2, .o (.p 2 0)), (3, .o (.v (.int .i64 0)))], [(2, slM d)], d.F⟩) (by kernel_rfl) ?_ ?_
 · conv => whnf
   refine cd h11 ?_
   conv => whnf
   refine cd h33 ?_
   conv => whnf
   constructor
   · conv => whnf
     refine CallVC.fzB 16 rfl (fun b => ?_)
     have hb := hbuild b
     refine CallVC.e hb.enters (CallV.facts hb rfl (fun R hR => by rw [List.mem_singleton.1 hR]; exact List.mem_cons_self ..)) (fun i => F'_ok i) (fun d _ => ?_)
     obtain ⟨d, e1, e2, e3, e4, e5⟩ := d
     have e6 : Ln.R sgq d.sg = SlRes (some ⟨b, 0, none⟩) (rowV sgq awE) := by rw [e3]; rfl
     conv => whnf
     refine ⟨d, ⟨e1, e2, by rw [e3], e4⟩, SLe.id ⟨rfl, rfl, rfl, trivial⟩ ⟨⟨_, rfl, .refl _⟩, trivial⟩ (fun R hR => ?_)⟩
     rcases Sl.F_F' hR with h | h
     · exact List.mem_append_left _ h
     · rw [h, e6]; exact List.mem_append_right _ (List.mem_cons_self ..)
   · conv => whnf
     refine CallVC.fzB 16 rfl (fun b => ?_)
     have hb := hbuild b
     refine CallVC.e hb.enters (CallV.facts hb rfl (fun R hR => by rw [List.mem_singleton.1 hR]; exact List.mem_cons_self ..)) (fun i => F'_ok i) (fun d _ => ?_)
     obtain ⟨d, e1, e2, e3, e4, e5⟩ := d
     have e6 : Ln.R sgq d.sg = SlRes (some ⟨b, 0, none⟩) (rowV sgq awE) := by rw [e3]; rfl
     conv => whnf
     refine ⟨d, ⟨e1, e2, by rw [e3], e4⟩, SLe.id ⟨rfl, rfl, rfl, trivial⟩ ⟨⟨_, rfl, .refl _⟩, trivial⟩ (fun R hR => ?_)⟩
     rcases Sl.F_F' hR with h | h
     · exact List.mem_append_left _ h
     · rw [h, e6]; exact List.mem_append_right _ (List.mem_cons_self ..)
 rintro s1 ⟨d, hd, hle⟩
 refine WPS.le ?_ hle
 obtain ⟨hX, hL, hS⟩ := hd.xs
 have lX : d.X.xs.length = 4 := by rw [hX]; rfl
 have lL : d.L.xs.length = 4 := by have := congrArg List.length hL; simpa using this
 have lS : d.S.xs.length = 3 := by have := congrArg List.length hS; simpa using this
 obtain ⟨t, ht⟩ : ∃ t, d.S.xs[1]? = some t := ⟨_, List.getElem?_eq_getElem (by omega)⟩
 have htx : t.xs = [0] := by
   have := congrArg (fun l : List (List Nat) => l[1]?) hS
   simp only [List.getElem?_map, ht, Option.map_some] at this
   exact Option.some.inj this
 refine WPS.pure (p := d.S.A.isSome = true) (fun w' hR => slres_some (hR _ Sl.F_S) (by rw [rowV_length Ln.C_len]; omega)) (fun hAS => ?_)
 refine WPS.peel TBgood mixed ?_
 conv => whnf
 refine br_false (show ((d.X.xs.length : Int) != 4) = false by rw [lX]; rfl) ?_
 conv => whnf
 refine br_false (show ((d.L.xs.length : Int) != 4) = false by rw [lL]; rfl) ?_
 conv => whnf
 refine br_false (show ((d.S.xs.length : Int) != 3) = false by rw [lS]; rfl) ?_
 conv => whnf
 refine ⟨⟨by omega, by rw [lS]; decide, hAS⟩, ?_⟩
 conv => whnf
 refine LoadVC.elem (A := d.S.A) (xs := d.S.xs) (j := 1) Ln.C Ln.C_len Sl.F_S rfl (by rw [lS]; decide) (by decide) (fun _ => rfl) ?_
 intro t' ht'
 obtain rfl : t' = t := by rw [show (1 : Int).toNat = 1 from rfl, ht] at ht'; exact (Option.some.inj ht').symm
 conv => whnf
 refine CallVC.fzB 45 rfl (fun b => ?_)
 have he := c_EqInt t'.A (some ⟨b, 0, none⟩) t'.c 1 t'.xs [0] (by rw [htx]; decide)
 rw [decide_eq_true htx] at he
 refine cfs he ?_ rfl (fun R hR => ?_)
 rotate_left
 · simp only [List.mem_cons, List.not_mem_nil, or_false] at hR
   rcases hR with rfl | rfl
   · exact List.mem_cons_of_mem _ (Sl.F_s (List.mem_of_getElem? ht))
   · exact List.mem_cons_self ..
 conv => whnf
 refine WPS.peel TBgood mixed ?_
 conv => whnf
 have hc := c_slCells d hd.small (by rw [hd.cells]; decide)
 rw [hd.cells] at hc
 refine WPS.of TBgood mixed ?_
 conv => whnf
 refine CallVC.o 51 hc.enters (CallV.facts hc rfl (fun R hR => List.mem_cons_of_mem _ hR)) rfl rfl ?_
 conv => whnf
 refine sexec_loop (ι := Nat) (fun i => ⟨[(2, .o (.p 2 0)), (4, .o (.p 4 0)), (51, .o (.w 51)), (52, .o (.v (.int .i64 27))), (53, .o (.v (.int .i64 i)))],
     [(2, slM d), (4, .box [.v (.int .i64 (cn i 0)), .v (.int .i64 (cn i 1)), .v (.int .i64 (cn i 2)), .v (.int .i64 (cn i 3))] t_ar4_int), (51, .own t_api_Cell 3 27 (rowV Cel.C awCells))], d.F⟩)
   (fun i => i ≤ 27) (fun i => 27 - i) 0 (Nat.zero_le _) (SLe.id ⟨rfl, rfl, rfl, rfl, rfl, trivial⟩ ⟨⟨_, rfl, .refl _⟩, ⟨_, rfl, .refl _⟩, ⟨_, rfl, .refl _⟩, trivial⟩ (fun R hR => List.mem_cons_of_mem _ hR)) ?_
 intro i hi0
 conv => whnf
 by_cases hi : i < 27
 · refine br_true (decide_eq_true (show (i : Int) < 27 by omega)) ?_
   obtain ⟨x, hx⟩ : ∃ x, awCells[i]? = some x := ⟨_, List.getElem?_eq_getElem (show i < awCells.length from hi)⟩
   conv => whnf
   refine ⟨by show (0 : Int) ≤ (i : Int) ∧ (i : Int) < 27; omega, ?_⟩
   conv => whnf
   refine RowVC.elem Cel.C Cel.C_len (k := i) (by show (i : Int).toNat * 3 = i * 3; rw [Int.toNat_natCast]) hi (by decide) (fun h => by cases h) ?_
   intro x' hx'
   obtain rfl : x' = x := by rw [hx] at hx'; exact (Option.some.inj hx').symm
   have hk := awK x' (List.mem_of_getElem? hx)
   obtain ⟨k, c, r⟩ := x'
   have l0 := cn_le i 0
   have l1 := cn_le i 1
   have l2 := cn_le i 2
   have l3 := cn_le i 3
   have hk' : k = 0 ∨ k = 1 ∨ k = 2 ∨ k = 3 := by simp only at hk; omega
   rcases hk' with rfl | rfl | rfl | rfl
   · have hwk : IntKind.i64.wrap ((cn i 0 : Int) + 1) = ((cn i 0 + 1 : Nat) : Int) := by rw [wrap_i64 (by omega) (by omega)]; rfl
     have c0 : cn (i + 1) 0 = cn i 0 + 1 := cn_succ hx 0
     have c1 : cn (i + 1) 1 = cn i 1 := cn_succ hx 1
     have c2 : cn (i + 1) 2 = cn i 2 := cn_succ hx 2
     have c3 : cn (i + 1) 3 = cn i 3 := cn_succ hx 3
     conv => whnf
     refine ⟨⟨show (0 : Int) ≤ (0 : Int) by decide, show (0 : Int) < 4 by decide⟩, ?_⟩
     conv => whnf
     refine ⟨⟨show (0 : Int) ≤ (0 : Int) by decide, show (0 : Int) < 4 by decide⟩, ?_⟩
     conv => whnf
     refine ⟨i + 1, by show i + 1 ≤ 27; omega, by show 27 - (i + 1) < 27 - i; omega, SLe.id ⟨rfl, rfl, rfl, rfl, some_wrap hi (by omega), trivial⟩ ⟨⟨_, rfl, .refl _⟩, ⟨_, rfl, ?_⟩, ⟨_, rfl, .refl _⟩, trivial⟩ (fun R hR => hR)⟩
     rw [c0, c1, c2, c3, ← hwk]; exact .refl _
   · have hwk : IntKind.i64.wrap ((cn i 1 : Int) + 1) = ((cn i 1 + 1 : Nat) : Int) := by rw [wrap_i64 (by omega) (by omega)]; rfl
     have c0 : cn (i + 1) 0 = cn i 0 := cn_succ hx 0
     have c1 : cn (i + 1) 1 = cn i 1 + 1 := cn_succ hx 1
     have c2 : cn (i + 1) 2 = cn i 2 := cn_succ hx 2
     have c3 : cn (i + 1) 3 = cn i 3 := cn_succ hx 3
     conv => whnf
     refine ⟨⟨show (0 : Int) ≤ (1 : Int) by decide, show (1 : Int) < 4 by decide⟩, ?_⟩
     conv => whnf
     refine ⟨⟨show (0 : Int) ≤ (1 : Int) by decide, show (1 : Int) < 4 by decide⟩, ?_⟩
     conv => whnf
     refine ⟨i + 1, by show i + 1 ≤ 27; omega, by show 27 - (i + 1) < 27 - i; omega, SLe.id ⟨rfl, rfl, rfl, rfl, some_wrap hi (by omega), trivial⟩ ⟨⟨_, rfl, .refl _⟩, ⟨_, rfl, ?_⟩, ⟨_, rfl, .refl _⟩, trivial⟩ (fun R hR => hR)⟩
     rw [c0, c1, c2, c3, ← hwk]; exact .refl _
   · have hwk : IntKind.i64.wrap ((cn i 2 : Int) + 1) = ((cn i 2 + 1 : Nat) : Int) := by rw [wrap_i64 (by omega) (by omega)]; rfl
     have c0 : cn (i + 1) 0 = cn i 0 := cn_succ hx 0
     have c1 : cn (i + 1) 1 = cn i 1 := cn_succ hx 1
     have c2 : cn (i + 1) 2 = cn i 2 + 1 := cn_succ hx 2
     have c3 : cn (i + 1) 3 = cn i 3 := cn_succ hx 3
     conv => whnf
     refine ⟨⟨show (0 : Int) ≤ (2 : Int) by decide, show (2 : Int) < 4 by decide⟩, ?_⟩
     conv => whnf
     refine ⟨⟨show (0 : Int) ≤ (2 : Int) by decide, show (2 : Int) < 4 by decide⟩, ?_⟩
     conv => whnf
     refine ⟨i + 1, by show i + 1 ≤ 27; omega, by show 27 - (i + 1) < 27 - i; omega, SLe.id ⟨rfl, rfl, rfl, rfl, some_wrap hi (by omega), trivial⟩ ⟨⟨_, rfl, .refl _⟩, ⟨_, rfl, ?_⟩, ⟨_, rfl, .refl _⟩, trivial⟩ (fun R hR => hR)⟩
     rw [c0, c1, c2, c3, ← hwk]; exact .refl _
   · have hwk : IntKind.i64.wrap ((cn i 3 : Int) + 1) = ((cn i 3 + 1 : Nat) : Int) := by rw [wrap_i64 (by omega) (by omega)]; rfl
     have c0 : cn (i + 1) 0 = cn i 0 := cn_succ hx 0
     have c1 : cn (i + 1) 1 = cn i 1 := cn_succ hx 1
     have c2 : cn (i + 1) 2 = cn i 2 := cn_succ hx 2
     have c3 : cn (i + 1) 3 = cn i 3 + 1 := cn_succ hx 3
     conv => whnf
     refine ⟨⟨show (0 : Int) ≤ (3 : Int) by decide, show (3 : Int) < 4 by decide⟩, ?_⟩
     conv => whnf
     refine ⟨⟨show (0 : Int) ≤ (3 : Int) by decide, show (3 : Int) < 4 by decide⟩, ?_⟩
     conv => whnf
     refine ⟨i + 1, by show i + 1 ≤ 27; omega, by show 27 - (i + 1) < 27 - i; omega, SLe.id ⟨rfl, rfl, rfl, rfl, some_wrap hi (by omega), trivial⟩ ⟨⟨_, rfl, .refl _⟩, ⟨_, rfl, ?_⟩, ⟨_, rfl, .refl _⟩, trivial⟩ (fun R hR => hR)⟩
     rw [c0, c1, c2, c3, ← hwk]; exact .refl _
 refine br_false (decide_eq_false (show ¬ (i : Int) < 27 by omega)) ?_
 obtain rfl : i = 27 := by have : i ≤ 27 := hi0; omega
 have hcen := c_slCenter d ⟨3, 1, 1⟩ hd.small hd.sz (Sl.is_szX hd.is hd.sz) (by decide) (by rw [hd.cnt]; decide)
 rw [hd.cen] at hcen
 conv => whnf
 refine cfs hcen ?_
 conv => whnf
 have v0 : cn 27 0 = 10 := by decide
 have v1 : cn 27 1 = 6 := by decide
 have v2 : cn 27 2 = 7 := by decide
 have v3 : cn 27 3 = 4 := by decide
 refine DrawVC.quiet (by kernel_rfl) ?_
 conv => whnf
 refine cd h23 ?_
 conv => whnf
 exact postV_one (congrArg Value.bool ((eqPV ⟨2, 3⟩ ⟨2, 3⟩).trans (decide_eq_true rfl)))
end Go.Sx
end
section
set_option maxRecDepth 10000
set_option maxHeartbeats 2000000
namespace Go.Sx
open Go Go.Proofs
theorem c_large (p : Pt) : Fn PP f_narrowsref16_large [pV p] (.bool (bigP 10 p)) := by
 refine Fn.of TBgood mixed h_narrowsref16_large rfl rfl (Nat.le_of_ble_eq_true rfl) ?_
 intro w
 unfold bigP
 conv => whnf
 by_cases h1 : 10 < p.x.num.length
 · refine br_true (decide_eq_true (show ((p.x.num.length : Nat) : Int) > 10 by omega)) ?_
   rw [decide_eq_true h1]
   conv => whnf
   exact postV_one rfl
 refine br_false (decide_eq_false (show ¬ ((p.x.num.length : Nat) : Int) > 10 by omega)) ?_
 rw [decide_eq_false h1]
 conv => whnf
 by_cases h2 : 10 < p.x.den.length
 · refine br_true (decide_eq_true (show ((p.x.den.length : Nat) : Int) > 10 by omega)) ?_
   rw [decide_eq_true h2]
   conv => whnf
   exact postV_one rfl
 refine br_false (decide_eq_false (show ¬ ((p.x.den.length : Nat) : Int) > 10 by omega)) ?_
 rw [decide_eq_false h2]
 conv => whnf
 by_cases h3 : 10 < p.y.num.length
 · refine br_true (decide_eq_true (show ((p.y.num.length : Nat) : Int) > 10 by omega)) ?_
   rw [decide_eq_true h3]
   conv => whnf
   exact postV_one rfl
 refine br_false (decide_eq_false (show ¬ ((p.y.num.length : Nat) : Int) > 10 by omega)) ?_
 rw [decide_eq_false h3]
 conv => whnf
 refine postV_one (congrArg Value.bool ?_)
 show decide (((p.y.den.length : Nat) : Int) > 10) = (false || (false || (false || decide (10 < p.y.den.length))))
 rw [Bool.false_or, Bool.false_or, Bool.false_or]
 exact decide_eq_decide.2 (by omega)
def bigE (e : Pt × Pt) : Bool := bigP 10 e.1 || bigP 10 e.2
def grt16 (b : Bx) (l : List (Pt × Pt)) : Bool := (decide (8 < l.length) && decide (l.length ≤ 400)) || (decide (405 < l.length) || (bigP 10 b.lo || (bigP 10 b.hi || l.any bigE)))
theorem c_Great16 (b : Bx) (A : Option Addr) (c : Nat) (l : List (Pt × Pt)) : FnM PP f_narrowsref16_Great [bxV b, .slice A l.length c] (facts [SlRes A (rowV sgC l)]) (retsV (.bool (grt16 b l))) := by
 refine FnM.ofS TBgood mixed h_narrowsref16_Great rfl rfl (Nat.le_of_ble_eq_true rfl) (by simp [SlRes.ok]) (fun w l st E w' hp hm => postV_ok hp hm) ?_
 intro w hw
 have hA : 0 < l.length → ∃ b o, A = some ⟨b, o, none⟩ := fun h => by
   have h1 := slres_some (facts_one hw) (by rw [rowV_length sgC_len]; omega)
   obtain ⟨a, rfl⟩ := Option.isSome_iff_exists.1 h1
   obtain ⟨b, o, rfl⟩ := slf_addr (facts_one hw) (by intro h2; have := congrArg List.length h2; rw [rowV_length sgC_len] at this; simp at this; omega)
   exact ⟨b, o, rfl⟩
 obtain ⟨n, hn⟩ : ∃ n, n = l.length := ⟨_, rfl⟩
 have hg : grt16 b l = ((decide (8 < n) && decide (n ≤ 400)) || (decide (405 < n) || (bigP 10 b.lo || (bigP 10 b.hi || l.any bigE)))) := by rw [hn]; rfl
 rw [← hn] at hA ⊢
 have lo := c_large b.lo
 have hi := c_large b.hi
 obtain ⟨x, hx⟩ : ∃ x, x = bigP 10 b.lo := ⟨_, rfl⟩
 obtain ⟨y, hy⟩ : ∃ y, y = bigP 10 b.hi := ⟨_, rfl⟩
 rw [← hx] at lo hg
 rw [← hy] at hi hg
 refine WPS.peel TBgood mixed ?_
 conv => whnf
 refine WPS.cut TBgood mixed (ι := Unit) (fun _ => ⟨[(1, .o (.v (.slice A n c)))], [], [SlRes A (rowV sgC l)]⟩) (fun _ => n ≤ 405 ∧ grt16 b l = l.any bigE) ?_ ?_
 · have two : ∀ n8 : Prop, (n8 → True) → True := fun _ _ => trivial
   conv => whnf
   by_cases h8 : 8 < n
   · refine br_true (decide_eq_true (show (n : Int) > 8 by omega)) ?_
     conv => whnf
     by_cases h400 : n ≤ 400
     · refine br_true (decide_eq_true (show (n : Int) ≤ 400 by omega)) ?_
       have hgt : grt16 b l = true := by rw [hg, decide_eq_true h8, decide_eq_true h400]; rfl
       conv => whnf
       rw [hgt]
       exact postV_one rfl
     refine br_false (decide_eq_false (show ¬ (n : Int) ≤ 400 by omega)) ?_
     conv => whnf
     by_cases h405 : 405 < n
     · refine br_true (decide_eq_true (show (n : Int) > 405 by omega)) ?_
       have hgt : grt16 b l = true := by rw [hg, decide_eq_true h405]; simp
       conv => whnf
       rw [hgt]
       exact postV_one rfl
     refine br_false (decide_eq_false (show ¬ (n : Int) > 405 by omega)) ?_
     conv => whnf
     refine cf lo ?_
     cases x with
     | true =>
       have hgt : grt16 b l = true := by rw [hg]; simp
       conv => whnf
       rw [hgt]
       exact postV_one rfl
     | false =>
       conv => whnf
       refine cf hi ?_
       cases y with
       | true =>
         have hgt : grt16 b l = true := by rw [hg]; simp
         conv => whnf
         rw [hgt]
         exact postV_one rfl
       | false =>
         conv => whnf
         refine ⟨(), ⟨by omega, ?_⟩, SLe.id ⟨rfl, trivial⟩ trivial (fun R hR => hR)⟩
         rw [hg, decide_eq_false h405, ← Bool.decide_and, decide_eq_false (show ¬ (8 < n ∧ n ≤ 400) by omega)]; simp
   refine br_false (decide_eq_false (show ¬ (n : Int) > 8 by omega)) ?_
   conv => whnf
   by_cases h405 : 405 < n
   · refine br_true (decide_eq_true (show (n : Int) > 405 by omega)) ?_
     have hgt : grt16 b l = true := by rw [hg, decide_eq_true h405]; simp
     conv => whnf
     rw [hgt]
     exact postV_one rfl
   refine br_false (decide_eq_false (show ¬ (n : Int) > 405 by omega)) ?_
   conv => whnf
   refine cf lo ?_
   cases x with
   | true =>
     have hgt : grt16 b l = true := by rw [hg]; simp
     conv => whnf
     rw [hgt]
     exact postV_one rfl
   | false =>
     conv => whnf
     refine cf hi ?_
     cases y with
     | true =>
       have hgt : grt16 b l = true := by rw [hg]; simp
       conv => whnf
       rw [hgt]
       exact postV_one rfl
     | false =>
       conv => whnf
       refine ⟨(), ⟨by omega, ?_⟩, SLe.id ⟨rfl, trivial⟩ trivial (fun R hR => hR)⟩
       rw [hg, decide_eq_false h405, ← Bool.decide_and, decide_eq_false (show ¬ (8 < n ∧ n ≤ 400) by omega)]; simp
 rintro _ ⟨h405, hgl⟩
 rw [hgl]
 refine WPS.of TBgood mixed ?_
 conv => whnf
 refine sexec_loop (ι := Nat) (fun i => ⟨[(1, .o (.v (.slice A n c))), (5, .o (.v (.int .i64 i)))], [], [SlRes A (rowV sgC l)]⟩)
   (fun i => i ≤ n ∧ (l.take i).any bigE = false) (fun i => n - i) 0 ⟨Nat.zero_le _, rfl⟩ (SLe.id ⟨rfl, rfl, trivial⟩ trivial (fun R hR => hR)) ?_
 rintro i ⟨hi0, hi1⟩
 conv => whnf
 by_cases hin : i < n
 rotate_left
 · refine br_false (decide_eq_false (show ¬ (i : Int) < (n : Int) by omega)) ?_
   rw [List.take_of_length_le (by omega)] at hi1
   conv => whnf
   exact postV_one (congrArg Value.bool hi1.symm)
 refine br_true (decide_eq_true (show (i : Int) < (n : Int) by omega)) ?_
 obtain ⟨e, he⟩ : ∃ e, l[i]? = some e := ⟨_, List.getElem?_eq_getElem (by omega)⟩
 obtain ⟨ba, oa, rfl⟩ := hA (by omega)
 have hT : ∀ t, bigE e = t → (l.take (i + 1)).any bigE = t := fun t ht => by rw [take_snoc' he, List.any_append, hi1]; simpa using ht
 have hany : bigE e = true → l.any bigE = true := fun h => List.any_eq_true.2 ⟨e, List.mem_of_getElem? he, h⟩
 have h1 := c_large e.1
 have h2 := c_large e.2
 have hadd : Option.map (fun a : Addr => a.add ((i : Int).toNat * ty58.size)) (some ⟨ba, oa, none⟩) = some ⟨ba, oa + i * 12, none⟩ := by
   show some ((⟨ba, oa, none⟩ : Addr).add ((i : Int).toNat * 12)) = _
   rw [Int.toNat_natCast, Addr.add_lit]
 have hfl : ∀ z, (some ⟨ba, oa + i * 12 + z, none⟩ : Option Addr) = (some (⟨ba, oa, none⟩ : Addr)).map (fun a => a.add (i * 12 + z)) := fun z => by
   rw [Option.map_some, Addr.add_lit, Nat.add_assoc]
 conv => whnf
 refine ⟨⟨by omega, by omega, rfl⟩, ?_⟩
 rw [hadd]
 conv => whnf
 refine LoadVC.fld (o := 0) sgC sgC_len (List.mem_singleton.2 rfl) he (hfl 0) (by decide) (by decide) (fun h => by cases h) ?_
 conv => whnf
 refine cf h1 ?_
 cases hb1 : bigP 10 e.1 with
 | true =>
   have := hany (by rw [bigE, hb1]; rfl)
   conv => whnf
   exact postV_one (congrArg Value.bool this.symm)
 | false =>
   conv => whnf
   refine ⟨⟨by omega, by omega, rfl⟩, ?_⟩
   rw [hadd]
   conv => whnf
   refine LoadVC.fld (o := 6) sgC sgC_len (List.mem_singleton.2 rfl) he (hfl 6) (by decide) (by decide) (fun h => by cases h) ?_
   conv => whnf
   refine cf h2 ?_
   cases hb2 : bigP 10 e.2 with
   | true =>
     have := hany (by rw [bigE, hb1, hb2]; rfl)
     conv => whnf
     exact postV_one (congrArg Value.bool this.symm)
   | false =>
     conv => whnf
     exact ⟨i + 1, ⟨by omega, hT false (by rw [bigE, hb1, hb2]; rfl)⟩, by show n - (i + 1) < n - i; omega, SLe.id ⟨rfl, some_wrap hin (by omega), trivial⟩ trivial (fun R hR => hR)⟩
theorem grt_sm {b : Bx} {l : List (Pt × Pt)} (h : grt16 b l = false) : b.sm K0 ∧ (∀ e ∈ l, e.1.sm K0 ∧ e.2.sm K0) ∧ (l.length ≤ 8 ∨ 400 < l.length) ∧ l.length ≤ 405 := by
 unfold grt16 at h
 simp only [Bool.or_eq_false_iff, Bool.and_eq_false_iff, decide_eq_false_iff_not] at h
 obtain ⟨h1, h2, h3, h4, h5⟩ := h
 refine ⟨⟨(bigP_sm h3).le (by decide), (bigP_sm h4).le (by decide)⟩, fun e he => ?_, by omega, by omega⟩
 have := (List.any_eq_false.1 h5) e he
 have h6 : bigE e = false := by simpa using this
 unfold bigE at h6
 rw [Bool.or_eq_false_iff] at h6
 exact ⟨(bigP_sm h6.1).le (by decide), (bigP_sm h6.2).le (by decide)⟩
theorem c_lbuildNo (b : Bx) (A : Option Addr) (c : Nat) (l : List (Pt × Pt)) (h : grt16 b l = true ∨ 8 < l.length ∨ bldE b l ≠ 0) :
   FnM PP f_narrowslaw16_build [bxV b, .slice A l.length c] (facts [SlRes A (rowV sgC l)]) (retsV (.tuple #[.agg ⟨slZ⟩, .bool false])) := by
 refine FnS.of TBgood mixed h_narrowslaw16_build rfl rfl (Nat.le_of_ble_eq_true rfl) (by simp [SlRes.ok]) ?_
 intro w hw
 have hg := c_Great16 b A c l
 conv => whnf
 refine cfs hg ?_
 cases hgr : grt16 b l with
 | true =>
   conv => whnf
   exact postV_two rfl
 | false =>
   obtain ⟨h1, h2, h3, h4⟩ := grt_sm hgr
   conv => whnf
   by_cases h8 : 8 < l.length
   · refine br_true (decide_eq_true (show (l.length : Int) > 8 by omega)) ?_
     conv => whnf
     exact postV_two rfl
   refine br_false (decide_eq_false (show ¬ (l.length : Int) > 8 by omega)) ?_
   have he : bldE b l ≠ 0 := by rcases h with h | h | h; (rw [hgr] at h; cases h); exact absurd h h8; exact h
   have hb := c_BuildErr b A c l h1 h2 (by omega) he
   conv => whnf
   refine cfs hb ?_
   conv => whnf
   refine postV_two ?_
   show Value.tuple #[.agg ⟨slZ⟩, .bool (bldE b l == 0)] = _
   rw [show (bldE b l == 0) = false from by simpa using he]
theorem c_lbuildOk (lo hi : V) (E : List (V × V)) (A : Option Addr) (c : Nat) (hb : grt16 ⟨PQ lo, PQ hi⟩ (E.map fun e => (PQ e.1, PQ e.2)) = false) (h8 : E.length ≤ 8) (hx : lo.x < hi.x) (hy : lo.y < hi.y) (hE : ∀ e ∈ E, (SzV K0 e.1 ∧ SzV K0 e.2) ∧ e.1 ≠ e.2) (hlo : SzV K0 lo) (hhi : SzV K0 hi) :
   FnM PP f_narrowslaw16_build [bxV ⟨PQ lo, PQ hi⟩, .slice A E.length c] (facts [SlRes A (rowV sgq E)]) (retsE (ι := BuildOk lo hi E A c) (fun s => .tuple #[s.1.V, .bool true]) (fun s => s.1.F')) := by
 refine FnE.of TBgood mixed h_narrowslaw16_build rfl rfl (Nat.le_of_ble_eq_true rfl) (by simp [SlRes.ok]) ?_
 intro w hw
 have hg := c_Great16 ⟨PQ lo, PQ hi⟩ A c (E.map fun e => (PQ e.1, PQ e.2))
 rw [hb, List.length_map, show rowV sgC (E.map fun e => (PQ e.1, PQ e.2)) = rowV sgq E from rowV_map ..] at hg
 have hbu := c_BuildOk lo hi A c E hlo hhi hx hy hE (by omega)
 conv => whnf
 refine cfs hg ?_
 conv => whnf
 refine br_false (decide_eq_false (show ¬ (E.length : Int) > 8 by omega)) ?_
 conv => whnf
 refine CallVC.e hbu.enters (CallV.facts hbu rfl (fun R h => h)) (fun i => F'_ok i) (fun d hd => ?_)
 conv => whnf
 intro N E1 w' hm
 exact ⟨d, rfl, fun R hR => (hm.res R (List.mem_append_left _ hR)).2.1, hd⟩
theorem c_Less16 (a b : Cel) : Fn PP f_narrowsref16_Less [a.V, b.V] (.bool (decide (cless a b))) := by
 refine Fn.of TBgood mixed h_narrowsref16_Less rfl rfl (Nat.le_of_ble_eq_true rfl) ?_
 intro w
 unfold cless
 conv => whnf
 by_cases h1 : a.c = b.c
 rotate_left
 · refine br_true (show (!((a.c : Int) == (b.c : Int))) = true by rw [Bool.not_eq_true', beq_eq_false_iff_ne]; omega) ?_
   conv => whnf
   exact postV_one (congrArg Value.bool (decide_eq_decide.2 (show (a.c : Int) < (b.c : Int) ↔ _ by omega)))
 refine br_false (show (!((a.c : Int) == (b.c : Int))) = false by rw [Bool.not_eq_false', beq_iff_eq]; omega) ?_
 conv => whnf
 by_cases h2 : a.k = b.k
 rotate_left
 · refine br_true (show (!((a.k : Int) == (b.k : Int))) = true by rw [Bool.not_eq_true', beq_eq_false_iff_ne]; omega) ?_
   conv => whnf
   exact postV_one (congrArg Value.bool (decide_eq_decide.2 (show (a.k : Int) < (b.k : Int) ↔ _ by omega)))
 refine br_false (show (!((a.k : Int) == (b.k : Int))) = false by rw [Bool.not_eq_false', beq_iff_eq]; omega) ?_
 conv => whnf
 exact postV_one (congrArg Value.bool (decide_eq_decide.2 (show (a.r : Int) < (b.r : Int) ↔ _ by omega)))
end Go.Sx
end
section
/- Arguments of the laws: boxes, slices of segments. -/
set_option maxRecDepth 10000
set_option maxHeartbeats 2000000
namespace Go.Sx
open Go Go.Proofs Go.ChangeShapes Go.WideShapes Go.RowKit Go.Deep
section
variable {H : Type} {enc : TypeId × Value → H} {w : World} {base : Nat} {spare : Nat → Bool} {held : Bool} {fuel : Nat} {cs : List Value} {x : DataW H × List MemPlace}
theorem cells_Box : PP.cellsOf t_api_Box = 12 := by kernel_rfl
theorem trod_box (h : DataW.trod enc PP w base spare held fuel t_api_Box cs = some x) : ∃ e : Pt × Pt, cs = sgC e := by
 obtain ⟨xs, n, _, _, hlen, hxl, hf⟩ := DataW.trod_struct (TBgood t_api_Box _ rfl).1.und h
 rw [cells_Box] at hlen
 obtain ⟨y0, h0⟩ := get_some (show 0 < xs.length by rw [hxl]; decide)
 obtain ⟨y1, h1⟩ := get_some (show 1 < xs.length by rw [hxl]; decide)
 have g0 : DataW.trod enc PP w base spare held n t_api_Point ((cs.drop 0).take (PP.cellsOf t_api_Point)) = xs[0]? := hf 0 _ rfl
 have g1 : DataW.trod enc PP w base spare held n t_api_Point ((cs.drop 6).take (PP.cellsOf t_api_Point)) = xs[1]? := hf 1 _ rfl
 rw [h0] at g0; rw [h1] at g1
 rw [cells_Point] at g0 g1
 obtain ⟨p, e0⟩ := trod_pt g0
 obtain ⟨q, e1⟩ := trod_pt g1
 refine ⟨(p, q), ?_⟩
 rw [List.take_of_length_le (by rw [List.length_drop]; omega)] at e1
 rw [List.drop_zero] at e0
 rw [sgC, ← e0, ← e1, List.take_append_drop]
theorem open_box {r : Reach} {b : Nat} {v : Value} {d : DataW H} {ps : List MemPlace} (hv : Value.okWide PP w r b t_api_Box v) (h : DataW.Trod enc PP w base spare held t_api_Box v d ps) : ∃ s : Bx, v = bxV s := by
 obtain ⟨cs, rfl, _⟩ := okWide_struct (TBgood t_api_Box _ rfl).1.und hv
 obtain ⟨fuel, hf⟩ := h
 obtain ⟨e, hr⟩ := trod_box hf
 exact ⟨⟨e.1, e.2⟩, by cases cs; exact congrArg (fun l : List Value => Value.agg ⟨l⟩) hr⟩
theorem open_sgs {r : Reach} {b : Nat} {v : Value} {d : DataW H} {ps : List MemPlace} (hv : Value.okWide PP w r b t_sl_api_Segment v) (h : DataW.Trod enc PP w base spare held t_sl_api_Segment v d ps) :
   ∃ (A : Option Addr) (c : Nat) (l : List (Pt × Pt)), v = .slice A l.length c ∧ l.length ≤ c ∧ SlF A (rowV sgC l) w := by
 obtain ⟨a, len, cap, rfl⟩ := okWide_slice (TBgood t_sl_api_Segment _ rfl).1.und hv
 obtain ⟨fuel, hf⟩ := h
 obtain ⟨A, c, l, e, h1, h2⟩ := open_row sgC sgC_len (by decide) (TBgood t_sl_api_Segment _ rfl).1.und cells_Segment trod_sg hf
 exact ⟨A, c, l, List.head_eq_of_cons_eq e, h1, h2⟩
end
end Go.Sx
end
section
/- The laws of slab. -/
set_option maxRecDepth 10000
set_option maxHeartbeats 2000000
namespace Go.Sx
open Go Go.Proofs
structure Bld (b : Bx) (l : List (Pt × Pt)) (lo hi : V) (E : List (V × V)) : Prop where
 hb : b = ⟨PQ lo, PQ hi⟩
 hl : l = E.map fun e => (PQ e.1, PQ e.2)
 grt : grt16 b l = false
 len : E.length ≤ 8
 x : lo.x < hi.x
 y : lo.y < hi.y
 zlo : SzV K0 lo
 zhi : SzV K0 hi
 E : ∀ e ∈ E, (SzV K0 e.1 ∧ SzV K0 e.2) ∧ e.1 ≠ e.2
theorem PQ_sz {a : V} (h : (PQ a).sm K0) : SzV K0 a := by
 have := h.sz (k := K0) (by decide)
 rwa [PQ_v] at this
theorem Bld.of {b : Bx} {l : List (Pt × Pt)} (h : ¬ (grt16 b l = true ∨ 8 < l.length ∨ bldE b l ≠ 0)) : ∃ lo hi E, Bld b l lo hi E := by
 have h1 : grt16 b l = false := by
   cases hg : grt16 b l with
   | true => exact absurd (.inl hg) h
   | false => rfl
 have h2 : ¬ 8 < l.length := fun k => h (.inr (.inl k))
 have h3 : bldE b l = 0 := Classical.byContradiction fun k => h (.inr (.inr k))
 obtain ⟨lo, hi, E, rfl, hx, hy, rfl, hE, hl⟩ := bldE_zero h3
 obtain ⟨hb, hs, _, _⟩ := grt_sm h1
 refine ⟨lo, hi, E, rfl, rfl, h1, by rw [List.length_map] at h2; omega, hx, hy, PQ_sz hb.1, PQ_sz hb.2, fun e he => ?_⟩
 have := hs (PQ e.1, PQ e.2) (List.mem_map.2 ⟨e, he, rfl⟩)
 exact ⟨⟨PQ_sz this.1, PQ_sz this.2⟩, hE e he⟩
theorem w_SlabEuler (b : Bx) (A : Option Addr) (c : Nat) (l : List (Pt × Pt)) (hlc : l.length ≤ c) :
   FnM PP f_narrowslaw16_SlabEuler [bxV b, .slice A l.length c] (facts [SlRes A (rowV sgC l)]) (retsV (.bool true)) := by
 refine FnS.of TBgood mixed h_narrowslaw16_SlabEuler rfl rfl (Nat.le_of_ble_eq_true rfl) (by simp [SlRes.ok]) ?_
 intro w hw
 by_cases hno : grt16 b l = true ∨ 8 < l.length ∨ bldE b l ≠ 0
 · have hn := c_lbuildNo b A c l hno
   conv => whnf
   refine cfs hn ?_
   conv => whnf
   refine cf c_awake16 ?_
   conv => whnf
   exact postV_one rfl
 obtain ⟨lo, hi, E, hB⟩ := Bld.of hno
 obtain ⟨rfl, rfl, hg, hlen, hx, hy, hlo, hhi, hE⟩ := hB
 have hb := c_lbuildOk lo hi E A c hg hlen hx hy hE hlo hhi
 rw [List.length_map, show rowV sgC (E.map fun e => (PQ e.1, PQ e.2)) = rowV sgq E from rowV_map ..]
 conv => whnf
 refine CallVC.e hb.enters (CallV.facts hb rfl (fun R h => h)) (fun i => F'_ok i) (fun d _ => ?_)
 obtain ⟨d, e1, e2, e3, his, e5⟩ := d
 have e6 : Ln.R sgq d.sg = SlRes A (rowV sgq E) := by rw [e3]; rfl
 have hF : ∀ R ∈ d.F, R ∈ d.F' ++ [SlRes A (rowV sgq E)] := fun R hR => by
   rcases Sl.F_F' hR with h | h
   · exact List.mem_append_left _ h
   · rw [h, e6]; exact List.mem_append_right _ (List.mem_cons_self ..)
 obtain ⟨hsm, hcl⟩ := Sl.is_small his (by rw [e3]; exact hlen)
 have hce := c_slCells d hsm hcl
 obtain ⟨re, hre⟩ : ∃ re, re = d.F' ++ [SlRes A (rowV sgq E)] := ⟨_, rfl⟩
 obtain ⟨cells, hcells⟩ : ∃ cs, cs = cellsL d := ⟨_, rfl⟩
 have heul := eul_cells his
 rw [← hcells] at hce hcl heul
 rw [← hre] at hF
 conv => whnf
 refine CallVC.o 21 hce.enters (CallV.facts hce rfl (fun R h => by have := hF R h; rw [hre] at this; exact this)) rfl rfl ?_
 conv => whnf
 obtain ⟨n, hn⟩ : ∃ n, n = cells.length := ⟨_, rfl⟩
 rw [← hn] at hcl
 refine sexec_loop (ι := Nat) (fun i => ⟨[(5, .o (.p 5 0)), (7, .o (.v (.int .i64 (eul (cells.take i))))), (8, .o (.w 21)), (22, .o (.w 21)), (23, .o (.v (.int .i64 n))), (24, .o (.v (.int .i64 i)))],
     [(5, slM d), (21, .own t_api_Cell 3 n (rowV Cel.C cells))], re⟩)
   (fun i => i ≤ n) (fun i => n - i) 0 (Nat.zero_le _) (SLe.id ⟨rfl, rfl, rfl, rfl, by rw [hn]; rfl, rfl, trivial⟩ ⟨⟨_, rfl, .refl _⟩, ⟨_, rfl, by rw [hn]; exact .refl _⟩, trivial⟩ (fun R hR => by rw [hre] at hR; exact hR)) ?_
 intro i hi0
 have hi0 : i ≤ n := hi0
 conv => whnf
 by_cases hi : i < n
 rotate_left
 · refine br_false (decide_eq_false (show ¬ (i : Int) < (n : Int) by omega)) ?_
   conv => whnf
   refine br_true (show (eul (cells.take i) == 1) = true by rw [List.take_of_length_le (by omega), heul]; rfl) ?_
   conv => whnf
   refine cf c_awake16 ?_
   conv => whnf
   exact postV_one rfl
 refine br_true (decide_eq_true (show (i : Int) < (n : Int) by omega)) ?_
 obtain ⟨x, hx⟩ : ∃ x, cells[i]? = some x := ⟨_, List.getElem?_eq_getElem (by omega)⟩
 have hxm : x ∈ cellsL d := by rw [← hcells]; exact List.mem_of_getElem? hx
 obtain ⟨m1, m2, m3⟩ := cellsL_mem hxm
 have his' := c_slIs d x hsm ⟨m2, by have := hsm.1; omega⟩
 rw [decide_eq_true m3] at his'
 conv => whnf
 refine ⟨by show (0 : Int) ≤ (i : Int) ∧ (i : Int) < n; omega, ?_⟩
 conv => whnf
 refine RowVC.elem Cel.C Cel.C_len (k := i) (by show (i : Int).toNat * 3 = i * 3; rw [Int.toNat_natCast]) (by omega) (by decide) (fun h => by cases h) ?_
 intro x' hx'
 obtain rfl : x' = x := by rw [hx] at hx'; exact (Option.some.inj hx').symm
 conv => whnf
 have hsum : eul (cells.take (i + 1)) = eul (cells.take i) + sgn x'.k := by rw [take_snoc' hx, eul_append]; simp [eul]
 have hel := eul_le (cells.take i)
 rw [List.length_take] at hel
 have hless : 0 < i → ∃ y, cells[i - 1]? = some y ∧ decide (cless y x') = true := fun h => by
   obtain ⟨y, hy⟩ : ∃ y, cells[i - 1]? = some y := ⟨_, List.getElem?_eq_getElem (by omega)⟩
   exact ⟨y, hy, decide_eq_true (cellsL_asc d (by rw [← hcells]; exact hy) (by rw [← hcells, show i - 1 + 1 = i from Nat.sub_add_cancel h]; exact hx))⟩
 have hwp : 0 < i → IntKind.i64.wrap ((i : Int) - 1) = ((i - 1 : Nat) : Int) := fun h => by rw [wrap_i64 (by omega) (by omega)]; omega
 have hk' : x'.k = 0 ∨ x'.k = 1 ∨ x'.k = 2 ∨ x'.k = 3 := by omega
 obtain ⟨k, cc, r⟩ := x'
 replace hsum : eul (cells.take (i + 1)) = eul (cells.take i) + sgn k := hsum
 replace hk' : k = 0 ∨ k = 1 ∨ k = 2 ∨ k = 3 := hk'
 rcases hk' with rfl | rfl | rfl | rfl
 · refine DrawVC.quiet (by kernel_rfl) ?_
   conv => whnf
   refine cds his' ?_ rfl (fun R h => hF R h)
   conv => whnf
   by_cases hi1 : 0 < i
   · obtain ⟨y, hy, hl⟩ := hless hi1
     have hle := c_Less16 y ⟨0, cc, r⟩
     rw [hl] at hle
     refine br_true (decide_eq_true (show (i : Int) > 0 by omega)) ?_
     conv => whnf
     refine ⟨by show 0 ≤ IntKind.i64.wrap ((i : Int) - 1) ∧ IntKind.i64.wrap ((i : Int) - 1) < n; rw [hwp hi1]; omega, ?_⟩
     conv => whnf
     refine RowVC.elem Cel.C Cel.C_len (k := i - 1) (by show (IntKind.i64.wrap ((i : Int) - 1)).toNat * 3 = (i - 1) * 3; rw [hwp hi1, Int.toNat_natCast]) (by omega) (by decide) (fun h => by cases h) ?_
     intro y' hy'
     obtain rfl : y' = y := by rw [hy] at hy'; exact (Option.some.inj hy').symm
     conv => whnf
     refine cd hle ?_
     have hand : IntKind.i64.wrap ((BitVec.ofInt IntKind.i64.bits ((⟨0, cc, r⟩ : Cel).k : Int) &&& BitVec.ofInt IntKind.i64.bits 3).toNat : Int) = 0 := by
       show IntKind.i64.wrap ((BitVec.ofInt 64 0 &&& BitVec.ofInt 64 3).toNat : Int) = 0
       decide
     conv => whnf
     rw [hand]
     refine ⟨show (0 : Int) ≤ 0 ∧ (0 : Int) < 4 by decide, ?_⟩
     conv => whnf
     refine ⟨i + 1, by show i + 1 ≤ n; omega, by show n - (i + 1) < n - i; omega, SLe.id ⟨rfl, ?_, rfl, rfl, rfl, some_wrap hi (by omega), trivial⟩ ⟨⟨_, rfl, .refl _⟩, ⟨_, rfl, .refl _⟩, trivial⟩ (fun R hR => hR)⟩
     show some (SV.o (.v (.int .i64 (IntKind.i64.wrap (eul (cells.take i) + 1))))) = some (SV.o (.v (.int .i64 (eul (cells.take (i + 1))))))
     rw [hsum, show sgn 0 = 1 from rfl, wrap_i64 (by omega) (by omega)]
   · refine br_false (decide_eq_false (show ¬ (i : Int) > 0 by omega)) ?_
     have hand : IntKind.i64.wrap ((BitVec.ofInt IntKind.i64.bits ((⟨0, cc, r⟩ : Cel).k : Int) &&& BitVec.ofInt IntKind.i64.bits 3).toNat : Int) = 0 := by
       show IntKind.i64.wrap ((BitVec.ofInt 64 0 &&& BitVec.ofInt 64 3).toNat : Int) = 0
       decide
     conv => whnf
     rw [hand]
     refine ⟨show (0 : Int) ≤ 0 ∧ (0 : Int) < 4 by decide, ?_⟩
     conv => whnf
     refine ⟨i + 1, by show i + 1 ≤ n; omega, by show n - (i + 1) < n - i; omega, SLe.id ⟨rfl, ?_, rfl, rfl, rfl, some_wrap hi (by omega), trivial⟩ ⟨⟨_, rfl, .refl _⟩, ⟨_, rfl, .refl _⟩, trivial⟩ (fun R hR => hR)⟩
     show some (SV.o (.v (.int .i64 (IntKind.i64.wrap (eul (cells.take i) + 1))))) = some (SV.o (.v (.int .i64 (eul (cells.take (i + 1))))))
     rw [hsum, show sgn 0 = 1 from rfl, wrap_i64 (by omega) (by omega)]
 · refine DrawVC.quiet (by kernel_rfl) ?_
   conv => whnf
   refine cds his' ?_ rfl (fun R h => hF R h)
   conv => whnf
   by_cases hi1 : 0 < i
   · obtain ⟨y, hy, hl⟩ := hless hi1
     have hle := c_Less16 y ⟨1, cc, r⟩
     rw [hl] at hle
     refine br_true (decide_eq_true (show (i : Int) > 0 by omega)) ?_
     conv => whnf
     refine ⟨by show 0 ≤ IntKind.i64.wrap ((i : Int) - 1) ∧ IntKind.i64.wrap ((i : Int) - 1) < n; rw [hwp hi1]; omega, ?_⟩
     conv => whnf
     refine RowVC.elem Cel.C Cel.C_len (k := i - 1) (by show (IntKind.i64.wrap ((i : Int) - 1)).toNat * 3 = (i - 1) * 3; rw [hwp hi1, Int.toNat_natCast]) (by omega) (by decide) (fun h => by cases h) ?_
     intro y' hy'
     obtain rfl : y' = y := by rw [hy] at hy'; exact (Option.some.inj hy').symm
     conv => whnf
     refine cd hle ?_
     have hand : IntKind.i64.wrap ((BitVec.ofInt IntKind.i64.bits ((⟨1, cc, r⟩ : Cel).k : Int) &&& BitVec.ofInt IntKind.i64.bits 3).toNat : Int) = 1 := by
       show IntKind.i64.wrap ((BitVec.ofInt 64 1 &&& BitVec.ofInt 64 3).toNat : Int) = 1
       decide
     conv => whnf
     rw [hand]
     refine ⟨show (0 : Int) ≤ 1 ∧ (1 : Int) < 4 by decide, ?_⟩
     conv => whnf
     refine ⟨i + 1, by show i + 1 ≤ n; omega, by show n - (i + 1) < n - i; omega, SLe.id ⟨rfl, ?_, rfl, rfl, rfl, some_wrap hi (by omega), trivial⟩ ⟨⟨_, rfl, .refl _⟩, ⟨_, rfl, .refl _⟩, trivial⟩ (fun R hR => hR)⟩
     show some (SV.o (.v (.int .i64 (IntKind.i64.wrap (eul (cells.take i) + (-1)))))) = some (SV.o (.v (.int .i64 (eul (cells.take (i + 1))))))
     rw [hsum, show sgn 1 = (-1) from rfl, wrap_i64 (by omega) (by omega)]
   · refine br_false (decide_eq_false (show ¬ (i : Int) > 0 by omega)) ?_
     have hand : IntKind.i64.wrap ((BitVec.ofInt IntKind.i64.bits ((⟨1, cc, r⟩ : Cel).k : Int) &&& BitVec.ofInt IntKind.i64.bits 3).toNat : Int) = 1 := by
       show IntKind.i64.wrap ((BitVec.ofInt 64 1 &&& BitVec.ofInt 64 3).toNat : Int) = 1
       decide
     conv => whnf
     rw [hand]
     refine ⟨show (0 : Int) ≤ 1 ∧ (1 : Int) < 4 by decide, ?_⟩
     conv => whnf
     refine ⟨i + 1, by show i + 1 ≤ n; omega, by show n - (i + 1) < n - i; omega, SLe.id ⟨rfl, ?_, rfl, rfl, rfl, some_wrap hi (by omega), trivial⟩ ⟨⟨_, rfl, .refl _⟩, ⟨_, rfl, .refl _⟩, trivial⟩ (fun R hR => hR)⟩
     show some (SV.o (.v (.int .i64 (IntKind.i64.wrap (eul (cells.take i) + (-1)))))) = some (SV.o (.v (.int .i64 (eul (cells.take (i + 1))))))
     rw [hsum, show sgn 1 = (-1) from rfl, wrap_i64 (by omega) (by omega)]
 · refine DrawVC.quiet (by kernel_rfl) ?_
   conv => whnf
   refine cds his' ?_ rfl (fun R h => hF R h)
   conv => whnf
   by_cases hi1 : 0 < i
   · obtain ⟨y, hy, hl⟩ := hless hi1
     have hle := c_Less16 y ⟨2, cc, r⟩
     rw [hl] at hle
     refine br_true (decide_eq_true (show (i : Int) > 0 by omega)) ?_
     conv => whnf
     refine ⟨by show 0 ≤ IntKind.i64.wrap ((i : Int) - 1) ∧ IntKind.i64.wrap ((i : Int) - 1) < n; rw [hwp hi1]; omega, ?_⟩
     conv => whnf
     refine RowVC.elem Cel.C Cel.C_len (k := i - 1) (by show (IntKind.i64.wrap ((i : Int) - 1)).toNat * 3 = (i - 1) * 3; rw [hwp hi1, Int.toNat_natCast]) (by omega) (by decide) (fun h => by cases h) ?_
     intro y' hy'
     obtain rfl : y' = y := by rw [hy] at hy'; exact (Option.some.inj hy').symm
     conv => whnf
     refine cd hle ?_
     have hand : IntKind.i64.wrap ((BitVec.ofInt IntKind.i64.bits ((⟨2, cc, r⟩ : Cel).k : Int) &&& BitVec.ofInt IntKind.i64.bits 3).toNat : Int) = 2 := by
       show IntKind.i64.wrap ((BitVec.ofInt 64 2 &&& BitVec.ofInt 64 3).toNat : Int) = 2
       decide
     conv => whnf
     rw [hand]
     refine ⟨show (0 : Int) ≤ 2 ∧ (2 : Int) < 4 by decide, ?_⟩
     conv => whnf
     refine ⟨i + 1, by show i + 1 ≤ n; omega, by show n - (i + 1) < n - i; omega, SLe.id ⟨rfl, ?_, rfl, rfl, rfl, some_wrap hi (by omega), trivial⟩ ⟨⟨_, rfl, .refl _⟩, ⟨_, rfl, .refl _⟩, trivial⟩ (fun R hR => hR)⟩
     show some (SV.o (.v (.int .i64 (IntKind.i64.wrap (eul (cells.take i) + (-1)))))) = some (SV.o (.v (.int .i64 (eul (cells.take (i + 1))))))
     rw [hsum, show sgn 2 = (-1) from rfl, wrap_i64 (by omega) (by omega)]
   · refine br_false (decide_eq_false (show ¬ (i : Int) > 0 by omega)) ?_
     have hand : IntKind.i64.wrap ((BitVec.ofInt IntKind.i64.bits ((⟨2, cc, r⟩ : Cel).k : Int) &&& BitVec.ofInt IntKind.i64.bits 3).toNat : Int) = 2 := by
       show IntKind.i64.wrap ((BitVec.ofInt 64 2 &&& BitVec.ofInt 64 3).toNat : Int) = 2
       decide
     conv => whnf
     rw [hand]
     refine ⟨show (0 : Int) ≤ 2 ∧ (2 : Int) < 4 by decide, ?_⟩
     conv => whnf
     refine ⟨i + 1, by show i + 1 ≤ n; omega, by show n - (i + 1) < n - i; omega, SLe.id ⟨rfl, ?_, rfl, rfl, rfl, some_wrap hi (by omega), trivial⟩ ⟨⟨_, rfl, .refl _⟩, ⟨_, rfl, .refl _⟩, trivial⟩ (fun R hR => hR)⟩
     show some (SV.o (.v (.int .i64 (IntKind.i64.wrap (eul (cells.take i) + (-1)))))) = some (SV.o (.v (.int .i64 (eul (cells.take (i + 1))))))
     rw [hsum, show sgn 2 = (-1) from rfl, wrap_i64 (by omega) (by omega)]
 · refine DrawVC.quiet (by kernel_rfl) ?_
   conv => whnf
   refine cds his' ?_ rfl (fun R h => hF R h)
   conv => whnf
   by_cases hi1 : 0 < i
   · obtain ⟨y, hy, hl⟩ := hless hi1
     have hle := c_Less16 y ⟨3, cc, r⟩
     rw [hl] at hle
     refine br_true (decide_eq_true (show (i : Int) > 0 by omega)) ?_
     conv => whnf
     refine ⟨by show 0 ≤ IntKind.i64.wrap ((i : Int) - 1) ∧ IntKind.i64.wrap ((i : Int) - 1) < n; rw [hwp hi1]; omega, ?_⟩
     conv => whnf
     refine RowVC.elem Cel.C Cel.C_len (k := i - 1) (by show (IntKind.i64.wrap ((i : Int) - 1)).toNat * 3 = (i - 1) * 3; rw [hwp hi1, Int.toNat_natCast]) (by omega) (by decide) (fun h => by cases h) ?_
     intro y' hy'
     obtain rfl : y' = y := by rw [hy] at hy'; exact (Option.some.inj hy').symm
     conv => whnf
     refine cd hle ?_
     have hand : IntKind.i64.wrap ((BitVec.ofInt IntKind.i64.bits ((⟨3, cc, r⟩ : Cel).k : Int) &&& BitVec.ofInt IntKind.i64.bits 3).toNat : Int) = 3 := by
       show IntKind.i64.wrap ((BitVec.ofInt 64 3 &&& BitVec.ofInt 64 3).toNat : Int) = 3
       decide
     conv => whnf
     rw [hand]
     refine ⟨show (0 : Int) ≤ 3 ∧ (3 : Int) < 4 by decide, ?_⟩
     conv => whnf
     refine ⟨i + 1, by show i + 1 ≤ n; omega, by show n - (i + 1) < n - i; omega, SLe.id ⟨rfl, ?_, rfl, rfl, rfl, some_wrap hi (by omega), trivial⟩ ⟨⟨_, rfl, .refl _⟩, ⟨_, rfl, .refl _⟩, trivial⟩ (fun R hR => hR)⟩
     show some (SV.o (.v (.int .i64 (IntKind.i64.wrap (eul (cells.take i) + 1))))) = some (SV.o (.v (.int .i64 (eul (cells.take (i + 1))))))
     rw [hsum, show sgn 3 = 1 from rfl, wrap_i64 (by omega) (by omega)]
   · refine br_false (decide_eq_false (show ¬ (i : Int) > 0 by omega)) ?_
     have hand : IntKind.i64.wrap ((BitVec.ofInt IntKind.i64.bits ((⟨3, cc, r⟩ : Cel).k : Int) &&& BitVec.ofInt IntKind.i64.bits 3).toNat : Int) = 3 := by
       show IntKind.i64.wrap ((BitVec.ofInt 64 3 &&& BitVec.ofInt 64 3).toNat : Int) = 3
       decide
     conv => whnf
     rw [hand]
     refine ⟨show (0 : Int) ≤ 3 ∧ (3 : Int) < 4 by decide, ?_⟩
     conv => whnf
     refine ⟨i + 1, by show i + 1 ≤ n; omega, by show n - (i + 1) < n - i; omega, SLe.id ⟨rfl, ?_, rfl, rfl, rfl, some_wrap hi (by omega), trivial⟩ ⟨⟨_, rfl, .refl _⟩, ⟨_, rfl, .refl _⟩, trivial⟩ (fun R hR => hR)⟩
     show some (SV.o (.v (.int .i64 (IntKind.i64.wrap (eul (cells.take i) + 1))))) = some (SV.o (.v (.int .i64 (eul (cells.take (i + 1))))))
     rw [hsum, show sgn 3 = 1 from rfl, wrap_i64 (by omega) (by omega)]
end Go.Sx
end
section
/-
 The law SlabEuler of the program answers true for every input and leaves its arguments as they were; no conditions.
-/
namespace Go.Proofs.YtjhgjniipoemgaaGreat
open Go.Sx Go.ChangeShapes Go.WideShapes Go.ChangeAt Go.RowKit
set_option maxRecDepth 100000 in
theorem lifted_slabEuler (os : Os) (started : os.Started) (H : Type) (enc : TypeId × Value → H) :
   ReturnsInHanded {} Tryz.checked os 4 .any (Rows.slabEulerSpec.pre6 enc Tryz.prog Tryz.f4 Rows.slabEulerRow.domain false) (Rows.slabEulerSpec.post enc Tryz.prog Tryz.f4 false true false false) := by
 refine returnsInHanded_of_change (C := Tryz.checked) ownP started (by kernel_rfl) Tryz.func4
   (ChangeSpec.witness6 (enc := enc) (C := Tryz.checked) false ⟨#[], #[.agg #[.bool false, .string ByteArray.empty, .string ByteArray.empty, .bool false, .string ByteArray.empty, .string ByteArray.empty, .bool false, .string ByteArray.empty, .string ByteArray.empty, .bool false, .string ByteArray.empty, .string ByteArray.empty], .slice none 0 0], []⟩ 8 (by kernel_rfl) (by kernel_rfl) (by kernel_rfl) (by kernel_rfl)) ?_
 intro W base args ds gs before hval0 hW hcnd _
 have hval : ∀ (j : Nat) t v, Tryz.f4.params[j]? = some t → args[j]? = some v → Value.okWide Tryz.prog W .any base t v := hval0
 have hW' := hW
 obtain ⟨p, q, hA0, hV, rfl, hfz, hnd⟩ := hW
 have hA : DataW.TrodAll enc Tryz.prog W 0 (fun _ => true) true Tryz.f4.params.toList args.toList ds p := hA0
 rw [Tryz.params4] at hA hval
 obtain ⟨v0, vs0, d0, ds0, p0, q0, hargs, rfl, rfl, h0, r0⟩ := trodAll_cons hA
 obtain ⟨v1, vs1, d1, ds1, p1, q1, rfl, rfl, rfl, h1, r1⟩ := trodAll_cons r0
 obtain ⟨rfl, rfl, rfl⟩ := trodAll_nil r1
 obtain rfl : args = #[v0, v1] := by cases args; simp_all
 obtain ⟨rfl, rfl⟩ := trodVars_none hV
 have lt0 : ∀ x ∈ p0, x.block < W.heap.size := by obtain ⟨m, hm⟩ := h0; exact DataW.trod_lt m _ _ _ hm
 have k0 : DataW.Trod enc PP W 0 (fun _ => true) true t_api_Box v0 d0 p0 := h0
 obtain ⟨a0, rfl⟩ := open_box (hval 0 _ v0 rfl rfl) k0
 have lt1 : ∀ x ∈ p1, x.block < W.heap.size := by obtain ⟨m, hm⟩ := h1; exact DataW.trod_lt m _ _ _ hm
 have k1 : DataW.Trod enc PP W 0 (fun _ => true) true t_sl_api_Segment v1 d1 p1 := h1
 obtain ⟨A1, c1, a1, rfl, l1, F1⟩ := open_sgs (hval 1 _ v1 rfl rfl) k1
 clear hA0 hval0
 refine ((w_SlabEuler a0 A1 c1 a1 l1).calls W (factsOne F1)).mono fun e W' ⟨he, bel0⟩ => ?_
 subst he
 have bel := bel0.b
 exact ⟨_, rfl, _, _, _, [], _, [], hW', trodAll_mk1 (shut_bool u_bool _), (trodAll_cons_mk (Below.trod laidOut (by kernel_rfl) (of_decide_eq_true (by kernel_rfl)) k0 bel lt0) (trodAll_cons_mk (Below.trod laidOut (by kernel_rfl) (of_decide_eq_true (by kernel_rfl)) k1 bel lt1) trodAll_mk0)), rfl, bel.frame _, fun h => by cases h⟩
theorem slabEuler_holds : Rows.SlabEulerSaid :=
 OpenClaim.holds_of_wide 4 Tryz.f4 rfl rfl rfl rfl rfl rfl rfl ⟨rfl, rfl, rfl, rfl, rfl⟩ rfl rfl rfl rfl rfl (by kernel_rfl) Tryz.func4 (by kernel_rfl)
   (of_decide_eq_true (by kernel_rfl)) (by unfold Func.isWrapper; first | (rw [if_pos (by decide +kernel)]; kernel_rfl) | (rw [if_neg (by decide +kernel)]; exact ⟨rfl, rfl⟩))
   (fun os started H enc _ => lifted_slabEuler os started H enc)
end Go.Proofs.YtjhgjniipoemgaaGreat
end
#print axioms Go.Proofs.YtjhgjniipoemgaaGreat.slabEuler_holds
