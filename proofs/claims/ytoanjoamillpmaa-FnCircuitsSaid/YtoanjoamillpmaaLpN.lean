/-
  The way of the solver, where equations stand beside others that have nothing to do with them.
-/
import Derived.Test.YtoanjoamillpmaaLpM
import Derived.Test.YtoanjoamillpmaaLpA

namespace Go.Fw.T1
open Go.Proofs
theorem pwQ_pos (b : CQ) : 0 ≤ pwQ b := by
  have h : ∀ {k : FloatKind} {q : Rat}, 0 ≤ q → 0 ≤ rnd k q := fun {k q} h => by
    have hu := unit_pos k
    have h1 : 0 ≤ q * unit k := Rat.mul_nonneg h (Rat.le_of_lt hu)
    have h2 : 0 ≤ (q * unit k).num := Rat.num_nonneg.2 h1
    have h3 : 0 ≤ rI k (q * unit k).num (q * unit k).den := by
      unfold rI Go.Fw.sg
      rw [decide_eq_false (by omega), if_neg (by decide)]
      omega
    have h4 : (0 : Rat) ≤ (rI k (q * unit k).num (q * unit k).den : Rat) := Rat.intCast_nonneg.2 h3
    rw [← rnd_unit] at h4
    refine Rat.le_of_mul_le_mul_right (c := unit k) ?_ hu
    grind
  unfold pwQ p64Q two64 r32 r64
  exact h (h (Rat.add_nonneg (h (sqn _)) (h (sqn _))))
theorem bits_ext {m : Nat} (n : Nat) (Z : List (List CQ)) : ∀ (rs : List (List CQ)) (b : List CQ), 2 ≤ b.length → (∀ q, q ∈ rs → 2 ≤ q.length) → bitsQ (rs.map (extR m) ++ Z.map (extZ (n + 1))) (extR m b) = bitsQ rs b ++ List.replicate Z.length false
  | [], b, hb, _ => by
    have hz : ∀ (Z : List (List CQ)), bitsQ (Z.map (extZ (n + 1))) (extR m b) = List.replicate Z.length false := by
      intro Z
      induction Z with
      | nil => rfl
      | cons z Z ih =>
        have h0 := pwQ_pos (hdq b)
        rw [List.map_cons, bitsQ, show hdq (extZ (n + 1) z) = (0, 0) from rfl, pw_z, ext_hd hb, if_neg (by grind), ih]
        rfl
    exact hz Z
  | r :: rs, b, hb, hq => by
    have h1 := hq r List.mem_cons_self
    have h2 : ∀ q, q ∈ rs → 2 ≤ q.length := fun q hqm => hq q (List.mem_cons_of_mem _ hqm)
    rw [List.map_cons, List.cons_append, bitsQ, bitsQ, ext_hd hb, ext_hd h1]
    by_cases hc : pwQ (hdq b) < pwQ (hdq r)
    · rw [if_pos hc, if_pos hc, bits_ext n Z rs r h1 h2]; rfl
    · rw [if_neg hc, if_neg hc, bits_ext n Z rs b hb h2]; rfl
def jwQ (m : Nat) (Z : List (List CQ)) : Nat → List (List CQ) → List Bool
  | 0, _ => waysQ m Z
  | _ + 1, [] => []
  | n + 1, r :: rs => bitsQ rs r ++ (List.replicate Z.length false ++ jwQ m Z n ((oth r rs (pickQ rs 1 r 0).2).map (redQ (pickQ rs 1 r 0).1)))
theorem ways_join {m : Nat} {Z : List (List CQ)} (hZr : ∀ z, z ∈ Z → z.length = m + 1) (hZp : ∀ z, z ∈ Z → ∀ a, a ∈ z → Rp a) :
    ∀ (n : Nat) (R : List (List CQ)), R.length = n → (∀ r, r ∈ R → r.length = n + 1) → (∀ r, r ∈ R → ∀ a, a ∈ r → Rp a) → SafeQ n R → (1 ≤ m) → waysQ (n + m) (joinQ n m R Z) = jwQ m Z n R := by
  intro n
  induction n with
  | zero =>
    intro R hR _ _ _ _
    have : R = [] := List.eq_nil_of_length_eq_zero hR
    subst this
    have e : joinQ 0 m [] Z = Z := by
      unfold joinQ
      have : extZ 0 = id := funext fun z => rfl
      rw [this]; simp
    rw [e, Nat.zero_add]
    rfl
  | succ n ih =>
    intro R hR hrow hrp hs hm
    obtain ⟨r, rs, rfl⟩ : ∃ r rs, R = r :: rs := by
      cases R with
      | nil => simp at hR
      | cons r rs => exact ⟨r, rs, rfl⟩
    obtain ⟨s1, s2, s3, s4, s5, s6⟩ := hs
    have h2 : ∀ q, q ∈ r :: rs → 2 ≤ q.length := fun q hq => by rw [hrow q hq]; omega
    have hpick := pick_ext (m := m) n Z rs 1 r 0 (h2 r List.mem_cons_self) (fun q hq => h2 q (List.mem_cons_of_mem _ hq)) s3
    have hbits := bits_ext (m := m) n Z rs r (h2 r List.mem_cons_self) (fun q hq => h2 q (List.mem_cons_of_mem _ hq))
    have hbm := pick_mem r rs
    have hle := pick_le rs r
    have ej : joinQ (n + 1) m (r :: rs) Z = extR m r :: (rs.map (extR m) ++ Z.map (extZ (n + 1))) := rfl
    have hw : waysQ (n + 1 + m) (joinQ (n + 1) m (r :: rs) Z) = waysQ (n + m + 1) (extR m r :: (rs.map (extR m) ++ Z.map (extZ (n + 1)))) := by rw [ej, show n + 1 + m = n + m + 1 by omega]
    rw [hw]
    simp only [waysQ, jwQ]
    rw [hpick, hbits, List.append_assoc]
    dsimp only
    generalize hj : (pickQ rs 1 r 0).2 = j at *
    generalize hb : (pickQ rs 1 r 0).1 = b at *
    have hbl := hrow b hbm
    have hoth : oth (extR m r) (rs.map (extR m) ++ Z.map (extZ (n + 1))) j = (oth r rs j).map (extR m) ++ Z.map (extZ (n + 1)) := by
      rw [oth_ext _ _ _ _ (by simpa using hle), ← oth_map]
    have hred : (oth (extR m r) (rs.map (extR m) ++ Z.map (extZ (n + 1))) j).map (redQ (extR m b)) = joinQ n m ((oth r rs j).map (redQ b)) Z := by
      rw [hoth, List.map_append, List.map_map, List.map_map]
      unfold joinQ
      rw [List.map_map]
      congr 1
      · refine List.map_congr_left fun q hq => ?_
        exact red_ext (by omega) (by rw [hrow q (oth_mem hq), hbl])
      · refine List.map_congr_left fun z hz => ?_
        exact red_extZ hbl (hZr z hz) (hZp z hz)
    have hlen' : ((oth r rs j).map (redQ b)).length = n := by rw [List.length_map, oth_len]; simpa using hR
    have hrow' : ∀ q, q ∈ (oth r rs j).map (redQ b) → q.length = n + 1 := fun q hq => by
      obtain ⟨q0, hq0, rfl⟩ := List.mem_map.1 hq
      obtain ⟨a, t, e, ht⟩ := ne_cons (hrow q0 (oth_mem hq0))
      obtain ⟨a', t', e', ht'⟩ := ne_cons hbl
      unfold redQ
      rw [List.length_zipWith, e, e']
      simp only [tl, ht, ht']
      omega
    have hrp' : ∀ q, q ∈ (oth r rs j).map (redQ b) → ∀ a, a ∈ q → Rp a := fun q hq => by
      obtain ⟨q0, _, rfl⟩ := List.mem_map.1 hq
      exact rp_red
    rw [hred, ih _ hlen' hrow' hrp' s5 hm]
theorem bitsQ_len : ∀ (rs : List (List CQ)) (b : List CQ), (bitsQ rs b).length = rs.length
  | [], _ => rfl
  | r :: rs, b => by
    rw [bitsQ]
    split
    · rw [List.length_cons, List.length_cons, bitsQ_len rs r]
    · rw [List.length_cons, List.length_cons, bitsQ_len rs b]
theorem jw_1 {Z : List (List CQ)} (hZ : Z.length = 2) (hw : waysQ 2 Z = [false]) : ∀ (R : List (List CQ)), R.length = 1 → jwQ 2 Z 1 R = [false, false, false]
  | [r], _ => by
    simp only [jwQ, bitsQ]
    rw [hZ, hw]
    rfl
theorem jw_2 {Z : List (List CQ)} (hZ : Z.length = 2) (hw : waysQ 2 Z = [false]) : ∀ (R : List (List CQ)), R.length = 2 → ∃ a, jwQ 2 Z 2 R = [a, false, false, false, false, false]
  | [r, s], _ => by
    have hb := bitsQ_len [s] r
    have hl : ((oth r [s] (pickQ [s] 1 r 0).2).map (redQ (pickQ [s] 1 r 0).1)).length = 1 := by rw [List.length_map, oth_len]; rfl
    rw [jwQ, jw_1 hZ hw _ hl, hZ]
    generalize bitsQ [s] r = l at *
    match l, hb with
    | [a], _ => exact ⟨a, rfl⟩
theorem jw_3 {Z : List (List CQ)} (hZ : Z.length = 2) (hw : waysQ 2 Z = [false]) : ∀ (R : List (List CQ)), R.length = 3 → ∃ a b c, jwQ 2 Z 3 R = [a, b, false, false, c, false, false, false, false, false]
  | [r, s, t], _ => by
    have hb := bitsQ_len [s, t] r
    have hl : ((oth r [s, t] (pickQ [s, t] 1 r 0).2).map (redQ (pickQ [s, t] 1 r 0).1)).length = 2 := by rw [List.length_map, oth_len]; rfl
    obtain ⟨c, hc⟩ := jw_2 hZ hw _ hl
    rw [jwQ, hc, hZ]
    generalize bitsQ [s, t] r = l at *
    match l, hb with
    | [a, b], _ => exact ⟨a, b, c, rfl⟩
theorem jw_ok {n : Nat} {Z : List (List CQ)} (hZ : Z.length = 2) (hw : waysQ 2 Z = [false]) (hn : n = 1 ∨ n = 2 ∨ n = 3) {R : List (List CQ)} (hR : R.length = n) : wayOk (n + 2) (jwQ 2 Z n R) = true := by
  rcases hn with rfl | rfl | rfl
  · rw [jw_1 hZ hw R hR]; rfl
  · obtain ⟨a, e⟩ := jw_2 hZ hw R hR
    rw [e]; rfl
  · obtain ⟨a, b, c, e⟩ := jw_3 hZ hw R hR
    rw [e]; rfl
end Go.Fw.T1

/-
  A drawn circuit joined with a transformer: the first current's number is the same.
-/
namespace Go.Fw.T1
open Go.Proofs
theorem zR_at {n i j : Nat} {r : Nat → Nat} (hj : j < n) : zR n r (i * n + j) = bif Nat.beq i j then r i else can .f32 0 := by
  unfold zR; rw [ix_div hj, ix_mod hj]
theorem zI_at {n i j w : Nat} {g c : Nat → Nat} (hj : j < n) : zI n g c w (i * n + j) = bif Nat.beq i j then fop .sub .f32 (fop .mul .f32 w (c (i * n + j))) (fop .quo .f32 (g i) w) else fop .mul .f32 w (c (i * n + j)) := by
  unfold zI; rw [ix_div hj, ix_mod hj]
theorem beq_f {i j : Nat} (h : i ≠ j) : Nat.beq i j = false := by
  cases e : Nat.beq i j
  · rfl
  · exact absurd (Nat.eq_of_beq_eq_true e) h
section
variable {n : Nat} {R G L : Nat → Nat} {W : Nat} {i j : Nat}
abbrev jR (n : Nat) (R : Nat → Nat) : Nat → Nat := jn n R tRw
abbrev jG (n : Nat) (G : Nat → Nat) : Nat → Nat := jn n G tGw
noncomputable abbrev jL (n : Nat) (L : Nat → Nat) : Nat → Nat := joinC n 2 L tCw
theorem jL_at (hj : j < n + 2) : jL n L (i * (n + 2) + j) = jv n 2 L tCw i j := joinC_at hj
theorem jR_lo (hi : i < n) : jR n R i = R i := jn_lo hi
theorem jG_lo (hi : i < n) : jG n G i = G i := jn_lo hi
theorem jR_hi : jR n R (n + i) = tRw i := by
  have h : jR n R (n + i) = tRw (n + i - n) := jn_hi (by omega)
  rw [h, show n + i - n = i by omega]
theorem jG_hi : jG n G (n + i) = tGw i := by
  have h : jG n G (n + i) = tGw (n + i - n) := jn_hi (by omega)
  rw [h, show n + i - n = i by omega]
noncomputable def jE (n : Nat) (R G L : Nat → Nat) (W i j : Nat) : C := (zR (n + 2) (jR n R) (i * (n + 2) + j), zI (n + 2) (jG n G) (jL n L) W (i * (n + 2) + j))
theorem jE_lo (hi : i < n) (hj : j < n) : jE n R G L W i j = (zR n R (i * n + j), zI n G L W (i * n + j)) := by
  unfold jE
  rw [zR_at (by omega), zI_at (by omega), zR_at hj, zI_at hj, jL_at (by omega), jv_lo hi hj, jR_lo hi, jG_lo hi]
theorem jE_mix (hj : j < n + 2) (h : (i < n ∧ n ≤ j) ∨ (n ≤ i ∧ j < n)) : jE n R G L W i j = (can .f32 0, fop .mul .f32 W (can .f32 0)) := by
  unfold jE
  rw [zR_at hj, zI_at hj, jL_at hj, jv_mix h, beq_f (by omega)]
  rfl
theorem jE_hi (hj : j < 2) : jE n R G L W (n + i) (n + j) = (zR 2 tRw (i * 2 + j), zI 2 tGw tCw W (i * 2 + j)) := by
  unfold jE
  rw [zR_at (by omega), zI_at (by omega), zR_at hj, zI_at hj, jL_at (by omega), jv_hi (by omega) (by omega), jR_hi, jG_hi]
  have e1 : n + i - n = i := by omega
  have e2 : n + j - n = j := by omega
  rw [e1, e2]
  by_cases h : i = j
  · subst h; rw [Nat.beq_refl, Nat.beq_refl]
  · rw [beq_f h, beq_f (by omega)]
end
def table (N : Nat) (f : Nat → Nat → CQ) (g : Nat → CQ) : List (List CQ) := (List.range N).map fun i => (List.range N).map (f i) ++ [g i]
theorem rows_table (N : Nat) (x y u v : Nat → Nat) : (rowsW N x y u v).map vrow = table N (fun i j => vq (x (i * N + j), y (i * N + j))) (fun i => vq (u i, v i)) := by
  unfold rowsW table
  rw [List.map_map]
  refine List.map_congr_left fun i _ => ?_
  show (lRow N x y u v i).map vq = _
  unfold lRow
  rw [List.map_append, List.map_map]
  rfl
theorem table_congr {N : Nat} {f f' : Nat → Nat → CQ} {g : Nat → CQ} (h : ∀ i j, i < N → j < N → f i j = f' i j) : table N f g = table N f' g := by
  unfold table
  refine List.map_congr_left fun i hi => ?_
  have hi := List.mem_range.1 hi
  congr 1
  exact List.map_congr_left fun j hj => h i j hi (List.mem_range.1 hj)
def joinF (n : Nat) (a t : Nat → Nat → CQ) (i j : Nat) : CQ := if i < n then (if j < n then a i j else (0, 0)) else (if j < n then (0, 0) else t (i - n) (j - n))
theorem join_table {n : Nat} (hn : n = 1 ∨ n = 2 ∨ n = 3) (a t : Nat → Nat → CQ) (g : Nat → CQ) (hg : ∀ i, n ≤ i → g i = (0, 0)) : table (n + 2) (joinF n a t) g = joinQ n 2 (table n a g) (table 2 t fun _ => (0, 0)) := by
  rcases hn with rfl | rfl | rfl
  · have e : table 3 (joinF 1 a t) g = [[a 0 0, (0, 0), (0, 0), g 0], [(0, 0), t 0 0, t 0 1, g 1], [(0, 0), t 1 0, t 1 1, g 2]] := rfl
    rw [e, hg 1 (by omega), hg 2 (by omega)]; rfl
  · have e : table 4 (joinF 2 a t) g = [[a 0 0, a 0 1, (0, 0), (0, 0), g 0], [a 1 0, a 1 1, (0, 0), (0, 0), g 1], [(0, 0), (0, 0), t 0 0, t 0 1, g 2], [(0, 0), (0, 0), t 1 0, t 1 1, g 3]] := rfl
    rw [e, hg 2 (by omega), hg 3 (by omega)]; rfl
  · have e : table 5 (joinF 3 a t) g = [[a 0 0, a 0 1, a 0 2, (0, 0), (0, 0), g 0], [a 1 0, a 1 1, a 1 2, (0, 0), (0, 0), g 1], [a 2 0, a 2 1, a 2 2, (0, 0), (0, 0), g 2], [(0, 0), (0, 0), (0, 0), t 0 0, t 0 1, g 3], [(0, 0), (0, 0), (0, 0), t 1 0, t 1 1, g 4]] := rfl
    rw [e, hg 3 (by omega), hg 4 (by omega)]; rfl
theorem can1v : Val .f32 (can .f32 1065353216) 1 := Val.of_vof (by decide +kernel)
theorem eUV0 : CV (eU 0, eV 0) (1, 0) := ⟨can1v, can0v⟩
theorem eUVs {i : Nat} (h : 0 < i) : (eU i, eV i) = (0, 0) := by
  unfold eU eV
  rw [decide_eq_false (by simp; omega)]
theorem eUV_fq (i : Nat) : Fq (eU i, eV i) := by
  by_cases h : i = 0
  · subst h; exact cv_fq eUV0
  · rw [eUVs (by omega)]; exact fq_00
theorem eUV_z {i : Nat} (h : 0 < i) : vq (eU i, eV i) = (0, 0) := by rw [eUVs h]; exact vq_00
theorem eUV_vok (n : Nat) : Vok n eU eV 1 := fun i _ => by
  by_cases h : i = 0
  · subst h
    refine ⟨cv_fq eUV0, ?_, ?_⟩
    · rw [wv_eq eUV0.1]; decide +kernel
    · rw [wv_eq eUV0.2]; decide +kernel
  · have e := eUV_z (i := i) (by omega)
    have e1 : wv (eU i) = 0 := congrArg Prod.fst e
    have e2 : wv (eV i) = 0 := congrArg Prod.snd e
    refine ⟨eUV_fq i, ?_, ?_⟩
    · rw [e1]; decide +kernel
    · rw [e2]; decide +kernel
section
variable {n : Nat} {R G L : Nat → Nat} {W : Nat}
theorem Dr.wval (h : Dr n R G L W) : ∃ p, p < 12 ∧ W = dR p ∧ Val .f32 W ((1 + (p : Rat)) / 4) := by
  obtain ⟨p, hp, e⟩ := h.w
  exact ⟨p, hp, e, by rw [e]; exact dR_val hp⟩
theorem mix_cv (h : Dr n R G L W) : CV (can .f32 0, fop .mul .f32 W (can .f32 0)) (0, 0) := by
  obtain ⟨p, hp, e, hv⟩ := h.wval
  refine ⟨can0v, ?_⟩
  have := hv.mulR can0v (X := 1) (near_ab (by rw [Rat.mul_zero, ab_zero]; decide)) (by decide +kernel)
  rw [Rat.mul_zero, rnd_zero] at this
  exact this
theorem jE_fq (h : Dr n R G L W) {i j : Nat} (hi : i < n + 2) (hj : j < n + 2) : Fq (jE n R G L W i j) := by
  by_cases hin : i < n
  · by_cases hjn : j < n
    · rw [jE_lo hin hjn]; exact (h.entry hin hjn).1
    · rw [jE_mix hj (.inl ⟨hin, by omega⟩)]; exact cv_fq (mix_cv h)
  · by_cases hjn : j < n
    · rw [jE_mix hj (.inr ⟨by omega, hjn⟩)]; exact cv_fq (mix_cv h)
    · obtain ⟨p, hp, e, _⟩ := h.wval
      obtain ⟨b, _, hen, _⟩ := tr_entry hp
      have e1 : i = n + (i - n) := by omega
      have e2 : j = n + (j - n) := by omega
      rw [e1, e2, jE_hi (by omega), e]
      exact (hen (i - n) (j - n) (by omega) (by omega)).1
theorem jE_vq (h : Dr n R G L W) {i j : Nat} (hi : i < n + 2) (hj : j < n + 2) : vq (jE n R G L W i j) = joinF n (fun i j => vq (zR n R (i * n + j), zI n G L W (i * n + j))) (fun i j => vq (zR 2 tRw (i * 2 + j), zI 2 tGw tCw W (i * 2 + j))) i j := by
  unfold joinF
  by_cases hin : i < n
  · by_cases hjn : j < n
    · rw [jE_lo hin hjn, if_pos hin, if_pos hjn]
    · rw [jE_mix hj (.inl ⟨hin, by omega⟩), if_pos hin, if_neg hjn]; exact cv_eq (mix_cv h)
  · by_cases hjn : j < n
    · rw [jE_mix hj (.inr ⟨by omega, hjn⟩), if_neg hin, if_pos hjn]; exact cv_eq (mix_cv h)
    · rw [if_neg hin, if_neg hjn]
      have e1 : i = n + (i - n) := by omega
      have e2 : j = n + (j - n) := by omega
      have := jE_hi (R := R) (G := G) (L := L) (W := W) (n := n) (i := i - n) (j := j - n) (by omega)
      rw [← e1, ← e2] at this
      rw [this]
theorem joined_rows (h : Dr n R G L W) (hn : n = 1 ∨ n = 2 ∨ n = 3) : (rowsW (n + 2) (zR (n + 2) (jR n R)) (zI (n + 2) (jG n G) (jL n L) W) eU eV).map vrow = joinQ n 2 ((rowsW n (zR n R) (zI n G L W) eU eV).map vrow) (rowsT W) := by
  rw [rows_table, rows_table]
  unfold rowsT
  rw [rows_table, ← join_table' hn]
  exact table_congr fun i j hi hj => jE_vq h hi hj
where
  join_table' (hn : n = 1 ∨ n = 2 ∨ n = 3) : table (n + 2) (joinF n (fun i j => vq (zR n R (i * n + j), zI n G L W (i * n + j))) (fun i j => vq (zR 2 tRw (i * 2 + j), zI 2 tGw tCw W (i * 2 + j)))) (fun i => vq (eU i, eV i)) = joinQ n 2 (table n (fun i j => vq (zR n R (i * n + j), zI n G L W (i * n + j))) (fun i => vq (eU i, eV i))) (table 2 (fun i j => vq (zR 2 tRw (i * 2 + j), zI 2 tGw tCw W (i * 2 + j))) fun _ => vq (0, 0)) := by
    rw [vq_00]
    exact join_table hn _ _ _ fun i hi => eUV_z (by omega)
theorem joined_rowF (h : Dr n R G L W) : ∀ r, r ∈ rowsW (n + 2) (zR (n + 2) (jR n R)) (zI (n + 2) (jG n G) (jL n L) W) eU eV → RowF r := fun r hr a ha => by
  obtain ⟨i, hi, rfl⟩ := row_mem hr
  rcases row_at ha with ⟨j, hj, rfl⟩ | rfl
  · exact jE_fq h hi hj
  · exact eUV_fq i
theorem joined (h : Dr n R G L W) (hn : n = 1 ∨ n = 2 ∨ n = 3) (hc : Cur n R G L W eU eV 1) : curOk (n + 2) (jR n R) (jG n G) (jL n L) W eU eV = true ∧ Fq (xq (n + 2) (jR n R) (jG n G) (jL n L) W eU eV 0) ∧ vq (xq (n + 2) (jR n R) (jG n G) (jL n L) W eU eV 0) = vq (xq n R G L W eU eV 0) := by
  obtain ⟨p, hp, e, _⟩ := h.wval
  obtain ⟨z1, z2, z3, z4, z5, z6, z7⟩ := tr_rows hp
  rw [← e] at z1 z2 z3 z4 z5 z6 z7
  have hlenR : ((rowsW n (zR n R) (zI n G L W) eU eV).map vrow).length = n := by simp [rowsW]
  have hrow : ∀ r, r ∈ (rowsW n (zR n R) (zI n G L W) eU eV).map vrow → r.length = n + 1 := fun r hr => by
    obtain ⟨q, hq, rfl⟩ := List.mem_map.1 hr
    obtain ⟨i, hi, rfl⟩ := row_mem hq
    unfold vrow
    rw [List.length_map, row_len]
  have hrp : ∀ r, r ∈ (rowsW n (zR n R) (zI n G L W) eU eV).map vrow → ∀ a, a ∈ r → Rp a := fun r hr a ha => by
    obtain ⟨q, hq, rfl⟩ := List.mem_map.1 hr
    obtain ⟨w, hw, rfl⟩ := List.mem_map.1 ha
    exact rp_cv (hc.hF q hq w hw)
  obtain ⟨s1, s2⟩ := join_sol z1 z2 z3 z4 z5 z6 (by omega) n _ hlenR hrow hrp hc.safe hc.len
  have hw := ways_join z1 z2 n _ hlenR hrow hrp hc.safe (by omega)
  rw [← joined_rows h hn] at s1 s2 hw
  have hF := joined_rowF (n := n) (R := R) (G := G) (L := L) (W := W) h
  obtain ⟨w1, w2⟩ := sol_words hF s1
  have hway : lwS (n + 2) (zR (n + 2) (jR n R)) (zI (n + 2) (jG n G) (jL n L) W) eU eV = jwQ 2 (rowsT W) n ((rowsW n (zR n R) (zI n G L W) eU eV).map vrow) := by
    unfold lwS
    rw [ways_v _ _ hF s1, hw]
  refine ⟨?_, (w2 0).1, ?_⟩
  · unfold curOk
    rw [hway, jw_ok (by unfold rowsT; simp [rowsW]) z7 hn hlenR, w1]
    rfl
  · have h0 := (w2 0).2
    have h1 := hc.val 0
    rw [h1]
    refine h0.trans ?_
    rw [s2]
    have hl := hc.len
    generalize solQ n ((rowsW n (zR n R) (zI n G L W) eU eV).map vrow) = l at *
    cases l with
    | nil => simp at hl; omega
    | cons a l => rfl
end
end Go.Fw.T1

/-
  Impedances of ports: alone and joined.
-/
namespace Go.Fw.T1
open Go.Proofs
abbrev oneC : C := (can .f32 1065353216, can .f32 0)
theorem oneC_cv : CV oneC (1, 0) := ⟨can1v, can0v⟩
section
variable {n : Nat} {R G L : Nat → Nat} {W : Nat}
theorem Dr.b0 (h : Dr n R G L W) (h1 : 1 ≤ n) {j : Nat} (hj : 0 < j) : N (0, bP n G L W 0 j) ≤ 19 := by
  unfold bP
  by_cases hjn : j < n
  · rw [if_pos ⟨by omega, hjn⟩, ← h.zo (by omega) hjn (by omega)]
    exact (h.entry (by omega) hjn).2
  · rw [if_neg (fun c => hjn c.2), N00]; decide
theorem port_val (h : Dr n R G L W) (hn : n = 1 ∨ n = 2 ∨ n = 3) (hc : Cur n R G L W eU eV 1) : 1 / 10000 ≤ (vq (xq n R G L W eU eV 0)).1 ∧ N (vq (xq n R G L W eU eV 0)) ≤ 25 := by
  have hs := hc.sol
  have e0 : vP n eU eV 0 = (1, 0) := by unfold vP; rw [if_pos (by omega)]; exact cv_eq eUV0
  have e1 : vP n eU eV 1 = (0, 0) := by
    unfold vP
    by_cases h1 : 1 < n
    · rw [if_pos h1]; exact eUV_z (by omega)
    · rw [if_neg h1]
  have e2 : vP n eU eV 2 = (0, 0) := by
    unfold vP
    by_cases h1 : 2 < n
    · rw [if_pos h1]; exact eUV_z (by omega)
    · rw [if_neg h1]
  unfold SolP at hs
  rw [e0, e1, e2] at hs
  have hr : rP n R 0 = wv (R 0) := by unfold rP; rw [if_pos (by omega)]
  have hb : bP n G L W 0 0 = wv (zI n G L W (0 * n + 0)) := by unfold bP; rw [if_pos ⟨by omega, by omega⟩]
  have k0 : N (rP n R 0, bP n G L W 0 0) ≤ 19 := by
    rw [hr, hb, ← h.zd (i := 0) (by omega)]
    exact (h.entry (by omega) (by omega)).2
  have hp := hs.port k0 (h.b0 (by omega) (by omega)) (h.b0 (by omega) (by omega))
  rw [xP_at (by omega)] at hp
  exact hp
end
section
variable {x : C}
theorem port_of (hx : Fq x) (h1 : 1 / 10000 ≤ (vq x).1) (h2 : N (vq x) ≤ 25) : covOk oneC x = true ∧ Fq (cov oneC x) ∧ vq (cov oneC x) = ovQ (1, 0) (vq x) ∧ dE ≤ sq (ovQ (1, 0) (vq x)) ∧ N (ovQ (1, 0) (vq x)) ≤ 100000 := by
  have s1 := sqn (vq x).2
  have s2 := Rat.mul_le_mul_of_nonneg_right h1 (show 0 ≤ (vq x).1 by grind)
  have s3 := Rat.mul_le_mul_of_nonneg_left h1 (show (0 : Rat) ≤ 1 / 10000 by decide +kernel)
  have kd : dE ≤ 1 / 10000 * (1 / 10000) := by decide +kernel
  have hd : dE ≤ sq (vq x) := by unfold sq; grind
  have k25 : (25 : Rat) ≤ big := by decide +kernel
  have n1 : N (vq oneC) ≤ big := by rw [cv_eq oneC_cv, N_e0]; decide +kernel
  obtain ⟨o1, o2, o3⟩ := fq_ov (cv_fq oneC_cv) hx n1 (Rat.le_trans h2 k25) hd
  rw [cv_eq oneC_cv] at o2
  have oe := ov_err (1, 0) (vq x) hd
  rw [N_e0] at oe
  have oe' := oe
  rw [N_swap] at oe'
  have t := N_tri oe'
  rw [N_e0] at t
  have hu := uE_pos
  have ht := tE_pos
  have tx : N (vq x) * tE ≤ 25 * tE := Rat.mul_le_mul_of_nonneg_right h2 (Rat.le_of_lt ht)
  have k : 1 * (2 * uE) + 25 * tE ≤ 1 / 100 := by decide +kernel
  have hm := N_mul (ovQ (1, 0) (vq x)) (vq x)
  have hm2 := Rat.mul_le_mul_of_nonneg_left h2 (N_nonneg (ovQ (1, 0) (vq x)))
  have hN : 1 / 30 ≤ N (ovQ (1, 0) (vq x)) := by grind
  have hr := ov_rough (a := (1, 0)) (b := vq x) (δ := 1 / 10000) hd (by decide +kernel) (by
    have a1 := ab_nonneg (vq x).2
    have a2 := le_ab (vq x).1
    unfold N; grind)
  rw [N_e0] at hr
  have hsq := N_sq (ovQ (1, 0) (vq x))
  have hsq2 := sq_N (ovQ (1, 0) (vq x))
  have hN2 := Rat.mul_le_mul_of_nonneg_right hN (N_nonneg (ovQ (1, 0) (vq x)))
  have kd2 : dE * 2000 ≤ 1 := by decide +kernel
  exact ⟨o3, o1, o2, by grind, by grind⟩
theorem size_of {a b : Nat} (hz : Fq (a, b)) (h1 : dE ≤ sq (vq (a, b))) (h2 : N (vq (a, b)) ≤ 100000) : szOk a b = true ∧ ∃ s, Val .f32 (sz a b) s ∧ 0 ≤ s ∧ s ≤ 1000000000000 := by
  have hb : N (vq (a, b)) ≤ big := Rat.le_trans h2 (by decide +kernel)
  have hp := p64_val hz hb
  dsimp only at hp
  obtain ⟨q1, q2⟩ := p64_near h1
  have hd := dE_pos
  have kd : (1 : Rat) / 2 ^ 200 ≤ dE * (1 / 2) := by decide +kernel
  obtain ⟨s, s1, s2, s3⟩ := hp.root64 (.inr (by grind))
  have sqb := N_sq (vq (a, b))
  have nb : N (vq (a, b)) * N (vq (a, b)) ≤ 100000 * 100000 := Rat.le_trans (Rat.mul_le_mul_of_nonneg_right h2 (N_nonneg _)) (Rat.mul_le_mul_of_nonneg_left h2 (by decide))
  have ke : 4 * eE ≤ 1 / 2 := by decide +kernel
  have n1 := ab_near (p64Q (vq (a, b)) - sq (vq (a, b)))
  have m1 := Rat.mul_le_mul_of_nonneg_left ke (sq_nonneg (vq (a, b)))
  have hP : p64Q (vq (a, b)) ≤ 20000000000 := by unfold Near at n1; grind
  have hP0 : 0 ≤ p64Q (vq (a, b)) := by have := sq_nonneg (vq (a, b)); grind
  have k53 : 8 * e53 ≤ 1 := by decide +kernel
  have m2 := Rat.mul_le_mul_of_nonneg_left k53 hP0
  have hss : s * s ≤ 40000000000 := by unfold Near at s3; grind
  have hs : s ≤ 40000000001 := by
    by_cases h : s ≤ 1
    · grind
    · have := Rat.mul_le_mul_of_nonneg_right (show 1 ≤ s by grind) s2
      grind
  have hm : (40000000001 : Rat) ≤ most := by decide +kernel
  obtain ⟨r1, r2⟩ := s1.narrowR (near_ab (show ab s ≤ 40000000001 by rw [ab_pos_eq s2]; exact hs)) hm
  refine ⟨r2, _, r1, rnd_nonneg s2, ?_⟩
  have e := r32_e s
  rw [ab_pos_eq s2] at e
  have ku : uE ≤ 1 := by decide +kernel
  have kt : tE ≤ 1 := by decide +kernel
  have m3 := Rat.mul_le_mul_of_nonneg_left ku s2
  have n2 := ab_near (r32 s - s)
  have e' : rnd .f32 s = r32 s := rfl
  rw [e']
  unfold Near at n2
  grind
theorem can_0001 : Val .f64 (can .f64 4562254508917369340) (1152921504606847 / 2 ^ 60) := Val.of_vof (by decide +kernel)
theorem apart_ok {a b c d : Nat} (hz : Fq (a, b)) (hz' : Fq (c, d)) (he : vq (a, b) = vq (c, d)) (h1 : dE ≤ sq (vq (a, b))) (h2 : N (vq (a, b)) ≤ 100000) :
    (forder .f64 (off a b c d) (fop .mul .f64 (can .f64 4562254508917369340) (fop .add .f64 (can .f64 4607182418800017408) (fcvt .f32 .f64 (sz a b)))) == some .lt) = true := by
  have hN : N (csub (vq (a, b)) (vq (c, d))) ≤ 0 := by
    rw [← he]
    have : csub (vq (a, b)) (vq (a, b)) = (0, 0) := by unfold csub; congr 1 <;> grind
    rw [this, N00]
    exact Rat.le_refl
  obtain ⟨o, ho, hle⟩ := off_val hz hz' hN (by decide +kernel)
  dsimp only at ho
  obtain ⟨_, s, s1, s2, s3⟩ := size_of hz h1 h2
  have km : (1000000000000 : Rat) * 4 ≤ most := by decide +kernel
  have p1 : ab (1 + s) ≤ most := by rw [ab_pos_eq (by grind)]; grind
  have a1 : Val .f64 (fop .add .f64 (can .f64 4607182418800017408) (fcvt .f32 .f64 (sz a b))) (r64 (1 + s)) := one64.addR s1.widen (near_ab p1) Rat.le_refl
  have q1 := r64_ge (show 0 ≤ 1 + s by grind)
  have q2 := r64_le (d := 1 + s) (show ab (1 + s) ≤ 1 + s by rw [ab_pos_eq (by grind)]; exact Rat.le_refl)
  have he := eE_pos
  have hs := sE_pos
  have ke : eE ≤ 1 / 1000000 := by decide +kernel
  have ks : sE ≤ 1 / 1000000 := by decide +kernel
  have hle1 := Rat.mul_le_mul_of_nonneg_left ke (show 0 ≤ 1 + s by grind)
  generalize hM : r64 (1 + s) = M at *
  have kc2 : (9 : Rat) / 10000 ≤ 1152921504606847 / 2 ^ 60 := by decide +kernel
  have kc3 : (1152921504606847 : Rat) / 2 ^ 60 ≤ 1 / 50 := by decide +kernel
  have c0001 := can_0001
  generalize (1152921504606847 : Rat) / 2 ^ 60 = cc at *
  have hM0 : 0 ≤ M := by grind
  have r1 := Rat.mul_le_mul_of_nonneg_right kc2 hM0
  have r2 := Rat.mul_le_mul_of_nonneg_right kc3 hM0
  have hcM : ab (cc * M) = cc * M := ab_pos_eq (Rat.mul_nonneg (by grind) hM0)
  have a2 := c0001.mulR a1 (near_ab (show ab (cc * M) ≤ most by rw [hcM]; grind)) Rat.le_refl
  have q3 := r64_ge (show 0 ≤ cc * M by rw [← hcM]; exact ab_nonneg _)
  have q5 : cc * M * eE ≤ cc * M * (1 / 1000000) := Rat.mul_le_mul_of_nonneg_left ke (by rw [← hcM]; exact ab_nonneg _)
  refine ylt_val ho a2 ?_
  have e' : rnd .f64 (cc * M) = r64 (cc * M) := rfl
  rw [e']
  clear a2 a1 c0001 hcM ho
  grind
end
section
variable {n : Nat} {R G L : Nat → Nat} {W : Nat}
theorem po_eq (n : Nat) (R G L : Nat → Nat) (W : Nat) : cov oneC (xq n R G L W eU eV 0) = (poR n R G L W, poI n R G L W) := by kernel_rfl
theorem poOk_eq (n : Nat) (R G L : Nat → Nat) (W : Nat) : poOk n R G L W = (curOk n R G L W eU eV && covOk oneC (xq n R G L W eU eV 0)) := by kernel_rfl
theorem ports0 (h : Dr n R G L W) (hn : n = 1 ∨ n = 2 ∨ n = 3) : poOk n R G L W = true ∧ poOk (n + 2) (jR n R) (jG n G) (jL n L) W = true ∧ Fq (poR n R G L W, poI n R G L W) ∧ Fq (poR (n + 2) (jR n R) (jG n G) (jL n L) W, poI (n + 2) (jR n R) (jG n G) (jL n L) W) ∧
    vq (poR n R G L W, poI n R G L W) = vq (poR (n + 2) (jR n R) (jG n G) (jL n L) W, poI (n + 2) (jR n R) (jG n G) (jL n L) W) ∧ dE ≤ sq (vq (poR n R G L W, poI n R G L W)) ∧ N (vq (poR n R G L W, poI n R G L W)) ≤ 100000 := by
  have hc := cur h hn (eUV_vok n) (by decide) (by decide)
  obtain ⟨h1, h2⟩ := port_val h hn hc
  obtain ⟨j1, j2, j3⟩ := joined h hn hc
  obtain ⟨o1, o2, o3, o4, o5⟩ := port_of (hc.fq 0) h1 h2
  obtain ⟨p1, p2, p3, _, _⟩ := port_of j2 (by rw [j3]; exact h1) (by rw [j3]; exact h2)
  rw [j3] at p3
  rw [← o3] at o4 o5
  have oo := o3.trans p3.symm
  rw [poOk_eq, poOk_eq, hc.ok, j1, o1, p1, ← po_eq, ← po_eq]
  exact ⟨rfl, rfl, o2, p2, oo, o4, o5⟩
theorem ports (h : Dr n R G L W) (hn : n = 1 ∨ n = 2 ∨ n = 3) : poOk n R G L W = true ∧ poOk (n + 2) (jR n R) (jG n G) (jL n L) W = true ∧ szOk (poR n R G L W) (poI n R G L W) = true ∧
    (forder .f64 (off (poR n R G L W) (poI n R G L W) (poR (n + 2) (jR n R) (jG n G) (jL n L) W) (poI (n + 2) (jR n R) (jG n G) (jL n L) W)) (fop .mul .f64 (can .f64 4562254508917369340) (fop .add .f64 (can .f64 4607182418800017408) (fcvt .f32 .f64 (sz (poR n R G L W) (poI n R G L W))))) == some .lt) = true := by
  obtain ⟨a1, a2, a3, a4, a5, a6, a7⟩ := ports0 h hn
  have b1 := (size_of a3 a6 a7).1
  have b2 := apart_ok a3 a4 a5 a6 a7
  exact ⟨a1, a2, b1, b2⟩
end
end Go.Fw.T1

/-
  Drawn circuits are valid; what is joined and dropped again is the same.
-/
namespace Go.Fw.T1
open Go.Proofs
theorem fin_val {x : Nat} {a : Rat} (h : Val .f32 x a) : fin x = true := by
  unfold fin
  have h0 := h.subR h (X := 1) (near_ab (by rw [show a - a = 0 by grind, ab_zero]; decide)) (by decide +kernel)
  rw [show a - a = 0 by grind, rnd_zero] at h0
  rw [forder_eq h0 can0v]
  rfl
theorem least_val {x : Nat} {a : Rat} (h : Val .f32 x a) (h0 : 0 ≤ a) : least x = true := by
  unfold least ge0
  rw [fin_val h, cond_true]
  by_cases hz : a = 0
  · rw [hz] at h; rw [forder_eq h can0v]; rfl
  · rw [forder_gt h can0v (by grind)]; rfl
theorem above_val {x : Nat} {a : Rat} (h : Val .f32 x a) (h0 : 0 < a) : above x = true := by
  unfold above gt0
  rw [fin_val h, cond_true, forder_gt h can0v h0]
  rfl
set_option maxRecDepth 100000 in
theorem dG_all : allUpTo (fun p => isV .f32 (vof .f32 (dG p)) ((p : Rat) / 2)) 9 = true := by decide +kernel
theorem dG_val {p : Nat} (h : p < 9) : Val .f32 (dG p) ((p : Rat) / 2) := Val.of_vof (allUpTo_iff.1 dG_all p h)
section
variable {n : Nat} {R G L : Nat → Nat} {W : Nat}
theorem Dr.valid (h : Dr n R G L W) (hn : n = 1 ∨ n = 2 ∨ n = 3) : Go.Fw.T1.valid n n (n * n) R G L = true := by
  unfold Go.Fw.T1.valid
  simp only [Bool.and_eq_true, allUpTo_iff, Bool.not_eq_true']
  refine ⟨decide_eq_true ⟨by omega, by omega, rfl, rfl⟩, fun i hi => ⟨?_, fun j hj => ?_⟩⟩
  · obtain ⟨hr, r0, _⟩ := h.rv hi
    obtain ⟨p, hp, e⟩ := h.g i hi
    have hg := dG_val hp
    rw [← e] at hg
    have p0 : (0 : Rat) ≤ (p : Rat) := Rat.natCast_nonneg
    obtain ⟨hl, l0, _⟩ := h.lv hi
    unfold badrow
    rw [least_val hr (by grind), least_val hg (by grind), forder_gt hl can0v (by grind)]
    rfl
  · unfold badsym
    obtain ⟨hl, _⟩ := h.la hi hj
    rw [fin_val hl, ← h.s i j hi hj, forder_eq hl hl]
    rfl
theorem Dr.imp (h : Dr n R G L W) (hn : n = 1 ∨ n = 2 ∨ n = 3) : impOk n n (n * n) R G L W = true := by
  obtain ⟨p, hp, _, hw⟩ := h.wval
  have p0 : (0 : Rat) ≤ (p : Rat) := Rat.natCast_nonneg
  unfold impOk
  rw [h.valid hn, above_val hw (by grind)]
  rfl
theorem Dr.join (h : Dr n R G L W) (hn : n = 1 ∨ n = 2 ∨ n = 3) : joinOk n n (n * n) 2 2 4 R G L tRw tGw tCw = true := by
  have ht : Go.Fw.T1.valid 2 2 4 tRw tGw tCw = true := tr_valid
  unfold joinOk
  rw [h.valid hn, cond_true, ht, cond_true]
  exact decide_eq_true (by omega)
theorem Dr.validJ (h : Dr n R G L W) (hn : n = 1 ∨ n = 2 ∨ n = 3) : Go.Fw.T1.valid (n + 2) (n + 2) ((n + 2) * (n + 2)) (jR n R) (jG n G) (jL n L) = true := by
  have ht : Go.Fw.T1.valid 2 2 4 tRw tGw tCw = true := tr_valid
  exact valid_join (h.valid hn) ht (by omega)
theorem Dr.impJ (h : Dr n R G L W) (hn : n = 1 ∨ n = 2 ∨ n = 3) : impOk (n + 2) (n + 2) ((n + 2) * (n + 2)) (jR n R) (jG n G) (jL n L) W = true := by
  obtain ⟨p, hp, _, hw⟩ := h.wval
  have p0 : (0 : Rat) ≤ (p : Rat) := Rat.natCast_nonneg
  unfold impOk
  rw [h.validJ hn, above_val hw (by grind)]
  rfl
theorem inn_ok {n a : Nat} (h : a < n) (hn : n ≤ 6) : inn n (Int.ofNat a) = true := by
  unfold inn
  have e : IntKind.i64.wrap (Int.ofNat n - 1) = Int.ofNat (n - 1) := by
    rw [show Int.ofNat n - 1 = Int.ofNat (n - 1) by simp; omega]
    exact wrap_nat (by omega)
  rw [e, decide_eq_true (show Int.ofNat a ≥ 0 from Int.natCast_nonneg a), cond_true]
  exact decide_eq_true (by simp; omega)
theorem dropNo_f {n gn cn a : Nat} {r g c : Nat → Nat} (hv : Go.Fw.T1.valid n gn cn r g c = true) (h : a < n) (hn : n ≤ 6) (h2 : 2 ≤ n) : (!dropNo n gn cn r g c (Int.ofNat a)) = true := by
  unfold dropNo
  rw [hv, inn_ok h hn, decide_eq_false (show ¬ Int.ofNat n < 2 by simp; omega)]
  rfl
theorem Dr.drop1 (h : Dr n R G L W) (hn : n = 1 ∨ n = 2 ∨ n = 3) : (!dropNo (n + 2) (n + 2) ((n + 2) * (n + 2)) (jR n R) (jG n G) (jL n L) (Int.ofNat (n + 1))) = true :=
  dropNo_f (h.validJ hn) (by omega) (by omega) (by omega)
theorem dn_last (n : Nat) : dn (n + 1) (n + 2) = n + 1 := by
  unfold dn
  rw [lt_blt (by omega)]
  rfl
theorem Dr.drop2 (h : Dr n R G L W) (hn : n = 1 ∨ n = 2 ∨ n = 3) : (!dropNo (n + 1) (n + 1) ((n + 1) * (n + 1)) (dropR (n + 1) (jR n R)) (dropR (n + 1) (jG n G)) (dropC (n + 1) (n + 2) (jL n L)) (Int.ofNat n)) = true := by
  have hv := valid_drop (a := n + 1) (h.validJ hn) (by omega) (by omega)
  rw [dn_last, show n + 2 - 1 = n + 1 by omega] at hv
  exact dropNo_f hv (by omega) (by omega) (by omega)
theorem same82_self (x : Nat) : same82 x x = true := by
  unfold same82
  have e := nan_eq x
  cases hx : nan x
  · rw [hx] at e
    have : forder .f32 x x = some .eq := by
      have hx' := hx
      unfold nan at hx'
      simpa using hx'
    rw [this]
    simp
  · rfl
theorem up_lo {a p : Nat} (h : p < a) : up a p = p := by unfold up; rw [lt_blt h]
theorem dropR_lo {a p : Nat} {r : Nat → Nat} (h : p < a) : dropR a r p = r p := by unfold dropR; rw [up_lo h]
theorem dropC_lo {n i j : Nat} {c : Nat → Nat} (hi : i < n) (hj : j < n) : dropC n (n + 1) c (i * n + j) = c (i * (n + 1) + j) := by
  unfold dropC
  rw [show n + 1 - 1 = n by omega, ix_div hj, ix_mod hj, up_lo hi, up_lo hj]
theorem sameL_all {f : Nat → Bool} {n : Nat} (h : ∀ k, k < n → f k = true) : sameL f n n = true := by
  unfold sameL
  rw [ne_nat, decide_eq_true rfl]
  exact allUpTo_iff.2 h
theorem same_R : sameL (fun k => same82 (dropR n (dropR (n + 1) (jR n R)) k) (R k)) n n = true := sameL_all fun k hk => by
  rw [dropR_lo hk, dropR_lo (by omega), jR_lo hk]
  exact same82_self _
theorem same_G : sameL (fun k => same82 (dropR n (dropR (n + 1) (jG n G)) k) (G k)) n n = true := sameL_all fun k hk => by
  rw [dropR_lo hk, dropR_lo (by omega), jG_lo hk]
  exact same82_self _
theorem same_L : sameL (fun k => same82 (dropC n (n + 1) (dropC (n + 1) (n + 2) (jL n L)) k) (L k)) (n * n) (n * n) = true := sameL_all fun k hk => by
  have hn : 0 < n := by
    rcases Nat.eq_zero_or_pos n with h | h
    · subst h; simp at hk
    · exact h
  have e : k = k / n * n + k % n := (Nat.div_add_mod' k n).symm
  have hj : k % n < n := Nat.mod_lt _ hn
  have hi : k / n < n := Nat.div_lt_of_lt_mul hk
  generalize k / n = i at *
  generalize k % n = j at *
  subst e
  rw [dropC_lo hi hj, dropC_lo (n := n + 1) (by omega) (by omega), jL_at (by omega), jv_lo hi hj]
  exact same82_self _
end
end Go.Fw.T1

/-
  What is drawn: words of the circuit and of the volts.
-/
namespace Go.Fw.T1
open Go.Proofs
section
variable {la : Nat} {b : Nat → Nat} (hb : ∀ i, b i < 256)
include hb
theorem dw_R (k : Nat) : ∃ p, p < 8 ∧ q4 (IntKind.i64.wrap (Int.ofNat 1 + pkAt la b k 8)) = dR p := by
  obtain ⟨p, hp, e⟩ := q_add (la := la) (b := b) (k := k) (m := 8) (c := 1) (fun i _ => hb i) (by omega) (by omega) (by omega)
  exact ⟨p, hp, by rw [e]; rfl⟩
theorem dw_G (k : Nat) : ∃ p, p < 9 ∧ q2 (pkAt la b k 9) = dG p := by
  obtain ⟨p, hp, e⟩ := pk_ex (la := la) (b := b) (fun i _ => hb i) k (m := 9) (by omega)
  exact ⟨p, hp, by rw [e]; rfl⟩
theorem dw_L (k : Nat) : ∃ p, p < 8 ∧ q2 (IntKind.i64.wrap (Int.ofNat 4 + pkAt la b k 8)) = dL p := by
  obtain ⟨p, hp, e⟩ := q_add (la := la) (b := b) (k := k) (m := 8) (c := 4) (fun i _ => hb i) (by omega) (by omega) (by omega)
  exact ⟨p, hp, by rw [e]; rfl⟩
theorem dw_O (k : Nat) : ∃ p, p < 7 ∧ q4 (IntKind.i64.wrap (pkAt la b k 7 - Int.ofNat 3)) = dO p := by
  obtain ⟨p, hp, e⟩ := q_sub7 (la := la) (b := b) (k := k) (fun i _ => hb i)
  exact ⟨p, hp, by rw [e]; rfl⟩
theorem dw_V (k : Nat) : ∃ p, p < 17 ∧ q4 (IntKind.i64.wrap (pkAt la b k 17 - Int.ofNat 8)) = dV p := by
  obtain ⟨p, hp, e⟩ := q_sub17 (la := la) (b := b) (k := k) (fun i _ => hb i)
  exact ⟨p, hp, by rw [e]; rfl⟩
theorem bAt_ex4 (i : Nat) (hi : i < 1000) {n : Nat} (hn : 0 < n) : ∃ v, v < n ∧ bAtI la b i n = Int.ofNat v := by
  unfold bAtI
  by_cases h : i < la
  · refine ⟨b i % n, Nat.mod_lt _ hn, ?_⟩
    rw [lt_dec h, wrap_nat (by have := hb i; omega)]
    rfl
  · refine ⟨(i * 37 + 11) % n, Nat.mod_lt _ hn, ?_⟩
    rw [ge_dec (by omega)]
    show (IntKind.i64.wrap (IntKind.i64.wrap (Int.ofNat (i * 37)) + Int.ofNat 11)).tmod (Int.ofNat n) = _
    rw [wrap_nat (x := i * 37) (by omega)]
    show (IntKind.i64.wrap (Int.ofNat (i * 37 + 11))).tmod (Int.ofNat n) = _
    rw [wrap_nat (x := i * 37 + 11) (by omega)]
    rfl
theorem dw_W : ∃ p, p < 12 ∧ q4 (IntKind.i64.wrap (1 + bAtI la b 0 12)) = dR p := by
  obtain ⟨v, hv, e⟩ := bAt_ex4 (la := la) hb 0 (by omega) (n := 12) (by omega)
  refine ⟨v, hv, ?_⟩
  rw [e]
  show q4 (IntKind.i64.wrap (Int.ofNat (1 + v))) = _
  rw [wrapN (by omega)]
  rfl
theorem dr1 {W : Nat} (hW : ∃ p, p < 12 ∧ W = dR p) : Dr 1 (r18_0 la b) (g18_0 la b) (l18_0 la b) W := by
  refine ⟨fun i hi => ?_, fun i hi => ?_, fun i hi => ?_, fun i j hi hj hij => by omega, fun i j hi hj => ?_, hW⟩
  · obtain rfl : i = 0 := by omega
    exact dw_R hb 4
  · obtain rfl : i = 0 := by omega
    exact dw_G hb 2
  · obtain rfl : i = 0 := by omega
    exact dw_L hb 3
  · obtain rfl : i = 0 := by omega
    obtain rfl : j = 0 := by omega
    rfl
theorem dr2 {W : Nat} (hW : ∃ p, p < 12 ∧ W = dR p) : Dr 2 (r18_1 la b) (g18_1 la b) (l18_1 la b) W := by
  refine ⟨fun i hi => ?_, fun i hi => ?_, fun i hi => ?_, fun i j hi hj hij => ?_, fun i j hi hj => ?_, hW⟩
  · match i, hi with
    | 0, _ => exact dw_R hb 8
    | 1, _ => exact dw_R hb 9
  · match i, hi with
    | 0, _ => exact dw_G hb 2
    | 1, _ => exact dw_G hb 5
  · match i, hi with
    | 0, _ => exact dw_L hb 3
    | 1, _ => exact dw_L hb 6
  · match i, j, hi, hj with
    | 0, 0, _, _ => exact absurd rfl hij
    | 0, 1, _, _ => exact dw_O hb 7
    | 1, 0, _, _ => exact dw_O hb 7
    | 1, 1, _, _ => exact absurd rfl hij
  · match i, j, hi, hj with
    | 0, 0, _, _ => rfl
    | 0, 1, _, _ => rfl
    | 1, 0, _, _ => rfl
    | 1, 1, _, _ => rfl
theorem dr3 {W : Nat} (hW : ∃ p, p < 12 ∧ W = dR p) : Dr 3 (r18_2 la b) (g18_2 la b) (l18_2 la b) W := by
  refine ⟨fun i hi => ?_, fun i hi => ?_, fun i hi => ?_, fun i j hi hj hij => ?_, fun i j hi hj => ?_, hW⟩
  · match i, hi with
    | 0, _ => exact dw_R hb 13
    | 1, _ => exact dw_R hb 14
    | 2, _ => exact dw_R hb 15
  · match i, hi with
    | 0, _ => exact dw_G hb 2
    | 1, _ => exact dw_G hb 5
    | 2, _ => exact dw_G hb 9
  · match i, hi with
    | 0, _ => exact dw_L hb 3
    | 1, _ => exact dw_L hb 6
    | 2, _ => exact dw_L hb 10
  · match i, j, hi, hj with
    | 0, 0, _, _ => exact absurd rfl hij
    | 0, 1, _, _ => exact dw_O hb 7
    | 0, 2, _, _ => exact dw_O hb 11
    | 1, 0, _, _ => exact dw_O hb 7
    | 1, 1, _, _ => exact absurd rfl hij
    | 1, 2, _, _ => exact dw_O hb 12
    | 2, 0, _, _ => exact dw_O hb 11
    | 2, 1, _, _ => exact dw_O hb 12
    | 2, 2, _, _ => exact absurd rfl hij
  · match i, j, hi, hj with
    | 0, 0, _, _ => rfl
    | 0, 1, _, _ => rfl
    | 0, 2, _, _ => rfl
    | 1, 0, _, _ => rfl
    | 1, 1, _, _ => rfl
    | 1, 2, _, _ => rfl
    | 2, 0, _, _ => rfl
    | 2, 1, _, _ => rfl
    | 2, 2, _, _ => rfl
omit hb in
theorem volt_ok {x y : Nat} (hx : ∃ p, p < 17 ∧ x = dV p) (hy : ∃ p, p < 17 ∧ y = dV p) : Fq (x, y) ∧ ab (wv x) ≤ 2 ∧ ab (wv y) ≤ 2 := by
  obtain ⟨p, hp, rfl⟩ := hx
  obtain ⟨q, hq, rfl⟩ := hy
  have h1 := dV_val hp
  have h2 := dV_val hq
  have k : ∀ p : Nat, p < 17 → ab (((p : Rat) - 8) / 4) ≤ 2 := fun p hp => by
    have h0 : (0 : Rat) ≤ (p : Rat) := Rat.natCast_nonneg
    have h1 : (p : Rat) ≤ 16 := Rat.natCast_le_natCast.2 (show p ≤ 16 by omega)
    exact ab_le (by unfold Near; constructor <;> grind)
  refine ⟨⟨wv_val h1, wv_val h2⟩, ?_, ?_⟩
  · rw [wv_eq h1]; exact k p hp
  · rw [wv_eq h2]; exact k q hq
theorem vo1 : Vok 1 (x19_1 la b) (y19_1 la b) 2 := fun i hi => by
  obtain rfl : i = 0 := by omega
  exact volt_ok (dw_V hb 0) (dw_V hb 1)
theorem vo2 : Vok 2 (x19_2 la b) (y19_2 la b) 2 := fun i hi => by
  match i, hi with
  | 0, _ => exact volt_ok (dw_V hb 0) (dw_V hb 1)
  | 1, _ => exact volt_ok (dw_V hb 2) (dw_V hb 3)
theorem vo3 : Vok 3 (x19_3 la b) (y19_3 la b) 2 := fun i hi => by
  match i, hi with
  | 0, _ => exact volt_ok (dw_V hb 0) (dw_V hb 1)
  | 1, _ => exact volt_ok (dw_V hb 2) (dw_V hb 3)
  | 2, _ => exact volt_ok (dw_V hb 4) (dw_V hb 5)
end
end Go.Fw.T1

/-
  The law of circuits for 1 loops: its walk.
-/
namespace Go.Fw.T1
open Go.Proofs
noncomputable def c4_0 (ga gb pa ub lng : Bool) (R G L : Nat → Nat) (W : Nat) (X Y : Nat → Nat) : Bool := (!lng) && (ga && pa && (ub && true && (gb && (impOk 1 1 1 R G L W && (impOk 1 1 1 R G L W && curOk 1 R G L W X Y && (tmAll 1 (zR 1 R) (zI 1 G L W) (cuX 1 R G L W X Y) (cuY 1 R G L W X Y) && (valid 1 1 1 R G L && nd (cpwOk (cuX 1 R G L W X Y 0, cuY 1 R G L W X Y 0) && true) true && (valid 1 1 1 R G L && ((!bif bif bif !valid 1 1 1 R G L then true else forder .f32 (loss 1 R (cuX 1 R G L W X Y) (cuY 1 R G L W X Y)) (can .f32 0) == some Ordering.lt then true else forder .f32 (sto 1 L (cuX 1 R G L W X Y) (cuY 1 R G L W X Y)) (can .f32 3129152111) == some Ordering.lt then true else forder .f64 (gap (fcvt .f32 .f64 (loss 1 R (cuX 1 R G L W X Y) (cuY 1 R G L W X Y))) (fcvt .f32 .f64 (giv 1 X Y (cuX 1 R G L W X Y) (cuY 1 R G L W X Y)))) (fop .mul .f64 (can .f64 4576918229304087675) (fop .add .f64 (can .f64 4607182418800017408) (fcvt .f32 .f64 (loss 1 R (cuX 1 R G L W X Y) (cuY 1 R G L W X Y))))) == some Ordering.gt) && (!forder .f64 (off (tmX 1 (zR 1 R) (zI 1 G L W) (cuX 1 R G L W X Y) (cuY 1 R G L W X Y) 0) (tmY 1 (zR 1 R) (zI 1 G L W) (cuX 1 R G L W X Y) (cuY 1 R G L W X Y) 0) (X 0) (Y 0)) (can .f64 4576918229304087675) == some Ordering.gt && (!decide (IntKind.i64.wrap (0 + 1) < Int.ofNat 1) && (trOk (can .f32 1073741824) (can .f32 1077936128) (can .f32 1056964608) (can .f32 1048576000) (can .f32 1056964608) && (joinOk 1 1 1 2 2 4 R G L (trR (can .f32 1048576000) (can .f32 1056964608)) (trR (can .f32 0) (can .f32 0)) (trC (can .f32 1073741824) (can .f32 1077936128) (can .f32 1056964608)) && (impOk 1 1 1 R G L W && poOk 1 R G L W && (impOk 3 3 9 (jn 1 R (trR (can .f32 1048576000) (can .f32 1056964608))) (jn 1 G (trR (can .f32 0) (can .f32 0))) (joinC 1 2 L (trC (can .f32 1073741824) (can .f32 1077936128) (can .f32 1056964608))) W && poOk 3 (jn 1 R (trR (can .f32 1048576000) (can .f32 1056964608))) (jn 1 G (trR (can .f32 0) (can .f32 0))) (joinC 1 2 L (trC (can .f32 1073741824) (can .f32 1077936128) (can .f32 1056964608))) W && (!dropNo 3 3 9 (jn 1 R (trR (can .f32 1048576000) (can .f32 1056964608))) (jn 1 G (trR (can .f32 0) (can .f32 0))) (joinC 1 2 L (trC (can .f32 1073741824) (can .f32 1077936128) (can .f32 1056964608))) (IntKind.i64.wrap (Int.ofNat 3 - Int.ofNat 1)) && (!dropNo (dn (IntKind.i64.wrap (Int.ofNat 3 - Int.ofNat 1)).toNat 3) (dn (IntKind.i64.wrap (Int.ofNat 3 - Int.ofNat 1)).toNat 3) (dn (IntKind.i64.wrap (Int.ofNat 3 - Int.ofNat 1)).toNat 3 * 2) (dropR (IntKind.i64.wrap (Int.ofNat (1 + 2) - 1)).toNat (jn 1 R (trR (can .f32 1048576000) (can .f32 1056964608)))) (dropR (IntKind.i64.wrap (Int.ofNat (1 + 2) - 1)).toNat (jn 1 G (trR (can .f32 0) (can .f32 0)))) (dropC (IntKind.i64.wrap (Int.ofNat (1 + 2) - 1)).toNat (1 + 2) (joinC 1 2 L (trC (can .f32 1073741824) (can .f32 1077936128) (can .f32 1056964608)))) (IntKind.i64.wrap (Int.ofNat (dn (IntKind.i64.wrap (Int.ofNat 3 - Int.ofNat 1)).toNat 3) - Int.ofNat 1)) && (((dn (IntKind.i64.wrap (Int.ofNat (dn (IntKind.i64.wrap (Int.ofNat 3 - Int.ofNat 1)).toNat 3) - Int.ofNat 1)).toNat (dn (IntKind.i64.wrap (Int.ofNat 3 - Int.ofNat 1)).toNat 3)).ble 4611686018427387000 && true && (((dn (IntKind.i64.wrap (Int.ofNat (dn (IntKind.i64.wrap (Int.ofNat 3 - Int.ofNat 1)).toNat 3) - Int.ofNat 1)).toNat (dn (IntKind.i64.wrap (Int.ofNat 3 - Int.ofNat 1)).toNat 3)).ble 4611686018427387000 && true || !sameL (fun k => same82 (dropR (IntKind.i64.wrap (Int.ofNat (dn (IntKind.i64.wrap (Int.ofNat 3 - Int.ofNat 1)).toNat 3) - Int.ofNat 1)).toNat (dropR (IntKind.i64.wrap (Int.ofNat (1 + 2) - 1)).toNat (jn 1 R (trR (can .f32 1048576000) (can .f32 1056964608)))) k) (R k)) (dn (IntKind.i64.wrap (Int.ofNat (dn (IntKind.i64.wrap (Int.ofNat 3 - Int.ofNat 1)).toNat 3) - Int.ofNat 1)).toNat (dn (IntKind.i64.wrap (Int.ofNat 3 - Int.ofNat 1)).toNat 3)) 1 == true) && (((dn (IntKind.i64.wrap (Int.ofNat (dn (IntKind.i64.wrap (Int.ofNat 3 - Int.ofNat 1)).toNat 3) - Int.ofNat 1)).toNat (dn (IntKind.i64.wrap (Int.ofNat 3 - Int.ofNat 1)).toNat 3) * (dn (IntKind.i64.wrap (Int.ofNat 3 - Int.ofNat 1)).toNat 3 - 1)).ble 4611686018427387000 && true || !(bif sameL (fun k => same82 (dropR (IntKind.i64.wrap (Int.ofNat (dn (IntKind.i64.wrap (Int.ofNat 3 - Int.ofNat 1)).toNat 3) - Int.ofNat 1)).toNat (dropR (IntKind.i64.wrap (Int.ofNat (1 + 2) - 1)).toNat (jn 1 R (trR (can .f32 1048576000) (can .f32 1056964608)))) k) (R k)) (dn (IntKind.i64.wrap (Int.ofNat (dn (IntKind.i64.wrap (Int.ofNat 3 - Int.ofNat 1)).toNat 3) - Int.ofNat 1)).toNat (dn (IntKind.i64.wrap (Int.ofNat 3 - Int.ofNat 1)).toNat 3)) 1 then sameL (fun k => same82 (dropR (IntKind.i64.wrap (Int.ofNat (dn (IntKind.i64.wrap (Int.ofNat 3 - Int.ofNat 1)).toNat 3) - Int.ofNat 1)).toNat (dropR (IntKind.i64.wrap (Int.ofNat (1 + 2) - 1)).toNat (jn 1 G (trR (can .f32 0) (can .f32 0)))) k) (G k)) (dn (IntKind.i64.wrap (Int.ofNat (dn (IntKind.i64.wrap (Int.ofNat 3 - Int.ofNat 1)).toNat 3) - Int.ofNat 1)).toNat (dn (IntKind.i64.wrap (Int.ofNat 3 - Int.ofNat 1)).toNat 3)) 1 else false) == true) && true)) || !true == true) && ((szOk (poR 1 R G L W) (poI 1 R G L W) || !(bif bif sameL (fun k => same82 (dropR (IntKind.i64.wrap (Int.ofNat (dn (IntKind.i64.wrap (Int.ofNat 3 - Int.ofNat 1)).toNat 3) - Int.ofNat 1)).toNat (dropR (IntKind.i64.wrap (Int.ofNat (1 + 2) - 1)).toNat (jn 1 R (trR (can .f32 1048576000) (can .f32 1056964608)))) k) (R k)) (dn (IntKind.i64.wrap (Int.ofNat (dn (IntKind.i64.wrap (Int.ofNat 3 - Int.ofNat 1)).toNat 3) - Int.ofNat 1)).toNat (dn (IntKind.i64.wrap (Int.ofNat 3 - Int.ofNat 1)).toNat 3)) 1 then sameL (fun k => same82 (dropR (IntKind.i64.wrap (Int.ofNat (dn (IntKind.i64.wrap (Int.ofNat 3 - Int.ofNat 1)).toNat 3) - Int.ofNat 1)).toNat (dropR (IntKind.i64.wrap (Int.ofNat (1 + 2) - 1)).toNat (jn 1 G (trR (can .f32 0) (can .f32 0)))) k) (G k)) (dn (IntKind.i64.wrap (Int.ofNat (dn (IntKind.i64.wrap (Int.ofNat 3 - Int.ofNat 1)).toNat 3) - Int.ofNat 1)).toNat (dn (IntKind.i64.wrap (Int.ofNat 3 - Int.ofNat 1)).toNat 3)) 1 else false then sameL (fun k => same82 (dropC (IntKind.i64.wrap (Int.ofNat (dn (IntKind.i64.wrap (Int.ofNat 3 - Int.ofNat 1)).toNat 3) - Int.ofNat 1)).toNat (dn (IntKind.i64.wrap (Int.ofNat 3 - Int.ofNat 1)).toNat 3) (dropC (IntKind.i64.wrap (Int.ofNat (1 + 2) - 1)).toNat (1 + 2) (joinC 1 2 L (trC (can .f32 1073741824) (can .f32 1077936128) (can .f32 1056964608)))) k) (L k)) (dn (IntKind.i64.wrap (Int.ofNat (dn (IntKind.i64.wrap (Int.ofNat 3 - Int.ofNat 1)).toNat 3) - Int.ofNat 1)).toNat (dn (IntKind.i64.wrap (Int.ofNat 3 - Int.ofNat 1)).toNat 3) * (dn (IntKind.i64.wrap (Int.ofNat 3 - Int.ofNat 1)).toNat 3 - 1)) 1 else false) == true) && true)))))))))))))))))))
noncomputable def v4_0 (ga gb pa ub lng : Bool) (R G L : Nat → Nat) (W : Nat) (X Y : Nat → Nat) : Bool := (bif bif bif sameL (fun k => same82 (dropR (IntKind.i64.wrap (Int.ofNat (dn (IntKind.i64.wrap (Int.ofNat 3 - Int.ofNat 1)).toNat 3) - Int.ofNat 1)).toNat (dropR (IntKind.i64.wrap (Int.ofNat (1 + 2) - 1)).toNat (jn 1 R (trR (can .f32 1048576000) (can .f32 1056964608)))) k) (R k)) (dn (IntKind.i64.wrap (Int.ofNat (dn (IntKind.i64.wrap (Int.ofNat 3 - Int.ofNat 1)).toNat 3) - Int.ofNat 1)).toNat (dn (IntKind.i64.wrap (Int.ofNat 3 - Int.ofNat 1)).toNat 3)) 1 then sameL (fun k => same82 (dropR (IntKind.i64.wrap (Int.ofNat (dn (IntKind.i64.wrap (Int.ofNat 3 - Int.ofNat 1)).toNat 3) - Int.ofNat 1)).toNat (dropR (IntKind.i64.wrap (Int.ofNat (1 + 2) - 1)).toNat (jn 1 G (trR (can .f32 0) (can .f32 0)))) k) (G k)) (dn (IntKind.i64.wrap (Int.ofNat (dn (IntKind.i64.wrap (Int.ofNat 3 - Int.ofNat 1)).toNat 3) - Int.ofNat 1)).toNat (dn (IntKind.i64.wrap (Int.ofNat 3 - Int.ofNat 1)).toNat 3)) 1 else false then sameL (fun k => same82 (dropC (IntKind.i64.wrap (Int.ofNat (dn (IntKind.i64.wrap (Int.ofNat 3 - Int.ofNat 1)).toNat 3) - Int.ofNat 1)).toNat (dn (IntKind.i64.wrap (Int.ofNat 3 - Int.ofNat 1)).toNat 3) (dropC (IntKind.i64.wrap (Int.ofNat (1 + 2) - 1)).toNat (1 + 2) (joinC 1 2 L (trC (can .f32 1073741824) (can .f32 1077936128) (can .f32 1056964608)))) k) (L k)) (dn (IntKind.i64.wrap (Int.ofNat (dn (IntKind.i64.wrap (Int.ofNat 3 - Int.ofNat 1)).toNat 3) - Int.ofNat 1)).toNat (dn (IntKind.i64.wrap (Int.ofNat 3 - Int.ofNat 1)).toNat 3) * (dn (IntKind.i64.wrap (Int.ofNat 3 - Int.ofNat 1)).toNat 3 - 1)) 1 else false then forder .f64 (off (poR 1 R G L W) (poI 1 R G L W) (poR 3 (jn 1 R (trR (can .f32 1048576000) (can .f32 1056964608))) (jn 1 G (trR (can .f32 0) (can .f32 0))) (joinC 1 2 L (trC (can .f32 1073741824) (can .f32 1077936128) (can .f32 1056964608))) W) (poI 3 (jn 1 R (trR (can .f32 1048576000) (can .f32 1056964608))) (jn 1 G (trR (can .f32 0) (can .f32 0))) (joinC 1 2 L (trC (can .f32 1073741824) (can .f32 1077936128) (can .f32 1056964608))) W)) (fop .mul .f64 (can .f64 4562254508917369340) (fop .add .f64 (can .f64 4607182418800017408) (fcvt .f32 .f64 (sz (poR 1 R G L W) (poI 1 R G L W))))) == some Ordering.lt else false)
noncomputable def wW0 (v : Int) : Nat := q4 (IntKind.i64.wrap (1 + v))
theorem walk4_0 (la lb : Nat) (a b : Nat → Nat) : autoW cfgY0 (fun _ => true) 6 (fun _ => none) [false, false, true, false, false] Try.f4 [.ro 1 la (.gen (gBy a)), .ro 1 lb (.gen (gBy b))] =
    some (c4_0 (gIs (byt (gBy a)) (gBy a)) (gIs (byt (gBy b)) (gBy b)) (decide (pkAt la (byt (gBy a)) 0 3 = Int.ofNat 0)) (allUpTo (isU8 (gBy b)) lb) (bif decide (Int.ofNat la > 1048576) then true else decide (Int.ofNat lb > 1048576)) (r18_0 la (byt (gBy a))) (g18_0 la (byt (gBy a))) (l18_0 la (byt (gBy a))) (wW0 (bAtI lb (byt (gBy b)) 0 12)) (x19_1 lb (byt (gBy b))) (y19_1 lb (byt (gBy b))), .bool (v4_0 (gIs (byt (gBy a)) (gBy a)) (gIs (byt (gBy b)) (gBy b)) (decide (pkAt la (byt (gBy a)) 0 3 = Int.ofNat 0)) (allUpTo (isU8 (gBy b)) lb) (bif decide (Int.ofNat la > 1048576) then true else decide (Int.ofNat lb > 1048576)) (r18_0 la (byt (gBy a))) (g18_0 la (byt (gBy a))) (l18_0 la (byt (gBy a))) (wW0 (bAtI lb (byt (gBy b)) 0 12)) (x19_1 lb (byt (gBy b))) (y19_1 lb (byt (gBy b))))) := by kernel_rfl
end Go.Fw.T1

/-
  The law of circuits for 2 loops: its walk.
-/
namespace Go.Fw.T1
open Go.Proofs
noncomputable def c4_1 (ga gb pa ub lng : Bool) (R G L : Nat → Nat) (W : Nat) (X Y : Nat → Nat) : Bool := (!lng) && (ga && pa && (ub && true && (gb && (impOk 2 2 4 R G L W && (impOk 2 2 4 R G L W && curOk 2 R G L W X Y && (tmAll 2 (zR 2 R) (zI 2 G L W) (cuX 2 R G L W X Y) (cuY 2 R G L W X Y) && (valid 2 2 4 R G L && nd (cpwOk (cuX 2 R G L W X Y 0, cuY 2 R G L W X Y 0) && true) (nd (cpwOk (cuX 2 R G L W X Y 1, cuY 2 R G L W X Y 1) && true) true) && (valid 2 2 4 R G L && ((!bif bif bif !valid 2 2 4 R G L then true else forder .f32 (loss 2 R (cuX 2 R G L W X Y) (cuY 2 R G L W X Y)) (can .f32 0) == some Ordering.lt then true else forder .f32 (sto 2 L (cuX 2 R G L W X Y) (cuY 2 R G L W X Y)) (can .f32 3129152111) == some Ordering.lt then true else forder .f64 (gap (fcvt .f32 .f64 (loss 2 R (cuX 2 R G L W X Y) (cuY 2 R G L W X Y))) (fcvt .f32 .f64 (giv 2 X Y (cuX 2 R G L W X Y) (cuY 2 R G L W X Y)))) (fop .mul .f64 (can .f64 4576918229304087675) (fop .add .f64 (can .f64 4607182418800017408) (fcvt .f32 .f64 (loss 2 R (cuX 2 R G L W X Y) (cuY 2 R G L W X Y))))) == some Ordering.gt) && (!forder .f64 (off (tmX 2 (zR 2 R) (zI 2 G L W) (cuX 2 R G L W X Y) (cuY 2 R G L W X Y) 0) (tmY 2 (zR 2 R) (zI 2 G L W) (cuX 2 R G L W X Y) (cuY 2 R G L W X Y) 0) (X 0) (Y 0)) (can .f64 4576918229304087675) == some Ordering.gt && (decide (IntKind.i64.wrap (0 + 1) < Int.ofNat 2) && (decide (0 ≤ IntKind.i64.wrap (0 + 1)) && decide (IntKind.i64.wrap (0 + 1) < Int.ofNat 2) && (decide (0 ≤ IntKind.i64.wrap (0 + 1)) && decide (IntKind.i64.wrap (0 + 1) < Int.ofNat 2) && true) && (!forder .f64 (off (tmX 2 (zR 2 R) (zI 2 G L W) (cuX 2 R G L W X Y) (cuY 2 R G L W X Y) (IntKind.i64.wrap (Int.ofNat 0 + Int.ofNat 1)).toNat) (tmY 2 (zR 2 R) (zI 2 G L W) (cuX 2 R G L W X Y) (cuY 2 R G L W X Y) (IntKind.i64.wrap (Int.ofNat 0 + Int.ofNat 1)).toNat) (X (IntKind.i64.wrap (Int.ofNat 0 + Int.ofNat 1)).toNat) (Y (IntKind.i64.wrap (Int.ofNat 0 + Int.ofNat 1)).toNat)) (can .f64 4576918229304087675) == some Ordering.gt && (!decide (IntKind.i64.wrap (IntKind.i64.wrap (0 + 1) + 1) < Int.ofNat 2) && (trOk (can .f32 1073741824) (can .f32 1077936128) (can .f32 1056964608) (can .f32 1048576000) (can .f32 1056964608) && (joinOk 2 2 4 2 2 4 R G L (trR (can .f32 1048576000) (can .f32 1056964608)) (trR (can .f32 0) (can .f32 0)) (trC (can .f32 1073741824) (can .f32 1077936128) (can .f32 1056964608)) && (impOk 2 2 4 R G L W && poOk 2 R G L W && (impOk 4 4 16 (jn 2 R (trR (can .f32 1048576000) (can .f32 1056964608))) (jn 2 G (trR (can .f32 0) (can .f32 0))) (joinC 2 2 L (trC (can .f32 1073741824) (can .f32 1077936128) (can .f32 1056964608))) W && poOk 4 (jn 2 R (trR (can .f32 1048576000) (can .f32 1056964608))) (jn 2 G (trR (can .f32 0) (can .f32 0))) (joinC 2 2 L (trC (can .f32 1073741824) (can .f32 1077936128) (can .f32 1056964608))) W && (!dropNo 4 4 16 (jn 2 R (trR (can .f32 1048576000) (can .f32 1056964608))) (jn 2 G (trR (can .f32 0) (can .f32 0))) (joinC 2 2 L (trC (can .f32 1073741824) (can .f32 1077936128) (can .f32 1056964608))) (IntKind.i64.wrap (Int.ofNat 4 - Int.ofNat 1)) && (!dropNo (dn (IntKind.i64.wrap (Int.ofNat 4 - Int.ofNat 1)).toNat 4) (dn (IntKind.i64.wrap (Int.ofNat 4 - Int.ofNat 1)).toNat 4) (dn (IntKind.i64.wrap (Int.ofNat 4 - Int.ofNat 1)).toNat 4 * 3) (dropR (IntKind.i64.wrap (Int.ofNat (2 + 2) - 1)).toNat (jn 2 R (trR (can .f32 1048576000) (can .f32 1056964608)))) (dropR (IntKind.i64.wrap (Int.ofNat (2 + 2) - 1)).toNat (jn 2 G (trR (can .f32 0) (can .f32 0)))) (dropC (IntKind.i64.wrap (Int.ofNat (2 + 2) - 1)).toNat (2 + 2) (joinC 2 2 L (trC (can .f32 1073741824) (can .f32 1077936128) (can .f32 1056964608)))) (IntKind.i64.wrap (Int.ofNat (dn (IntKind.i64.wrap (Int.ofNat 4 - Int.ofNat 1)).toNat 4) - Int.ofNat 1)) && (((dn (IntKind.i64.wrap (Int.ofNat (dn (IntKind.i64.wrap (Int.ofNat 4 - Int.ofNat 1)).toNat 4) - Int.ofNat 1)).toNat (dn (IntKind.i64.wrap (Int.ofNat 4 - Int.ofNat 1)).toNat 4)).ble 4611686018427387000 && true && (((dn (IntKind.i64.wrap (Int.ofNat (dn (IntKind.i64.wrap (Int.ofNat 4 - Int.ofNat 1)).toNat 4) - Int.ofNat 1)).toNat (dn (IntKind.i64.wrap (Int.ofNat 4 - Int.ofNat 1)).toNat 4)).ble 4611686018427387000 && true || !sameL (fun k => same82 (dropR (IntKind.i64.wrap (Int.ofNat (dn (IntKind.i64.wrap (Int.ofNat 4 - Int.ofNat 1)).toNat 4) - Int.ofNat 1)).toNat (dropR (IntKind.i64.wrap (Int.ofNat (2 + 2) - 1)).toNat (jn 2 R (trR (can .f32 1048576000) (can .f32 1056964608)))) k) (R k)) (dn (IntKind.i64.wrap (Int.ofNat (dn (IntKind.i64.wrap (Int.ofNat 4 - Int.ofNat 1)).toNat 4) - Int.ofNat 1)).toNat (dn (IntKind.i64.wrap (Int.ofNat 4 - Int.ofNat 1)).toNat 4)) 2 == true) && (((dn (IntKind.i64.wrap (Int.ofNat (dn (IntKind.i64.wrap (Int.ofNat 4 - Int.ofNat 1)).toNat 4) - Int.ofNat 1)).toNat (dn (IntKind.i64.wrap (Int.ofNat 4 - Int.ofNat 1)).toNat 4) * (dn (IntKind.i64.wrap (Int.ofNat 4 - Int.ofNat 1)).toNat 4 - 1)).ble 4611686018427387000 && true || !(bif sameL (fun k => same82 (dropR (IntKind.i64.wrap (Int.ofNat (dn (IntKind.i64.wrap (Int.ofNat 4 - Int.ofNat 1)).toNat 4) - Int.ofNat 1)).toNat (dropR (IntKind.i64.wrap (Int.ofNat (2 + 2) - 1)).toNat (jn 2 R (trR (can .f32 1048576000) (can .f32 1056964608)))) k) (R k)) (dn (IntKind.i64.wrap (Int.ofNat (dn (IntKind.i64.wrap (Int.ofNat 4 - Int.ofNat 1)).toNat 4) - Int.ofNat 1)).toNat (dn (IntKind.i64.wrap (Int.ofNat 4 - Int.ofNat 1)).toNat 4)) 2 then sameL (fun k => same82 (dropR (IntKind.i64.wrap (Int.ofNat (dn (IntKind.i64.wrap (Int.ofNat 4 - Int.ofNat 1)).toNat 4) - Int.ofNat 1)).toNat (dropR (IntKind.i64.wrap (Int.ofNat (2 + 2) - 1)).toNat (jn 2 G (trR (can .f32 0) (can .f32 0)))) k) (G k)) (dn (IntKind.i64.wrap (Int.ofNat (dn (IntKind.i64.wrap (Int.ofNat 4 - Int.ofNat 1)).toNat 4) - Int.ofNat 1)).toNat (dn (IntKind.i64.wrap (Int.ofNat 4 - Int.ofNat 1)).toNat 4)) 2 else false) == true) && true)) || !true == true) && ((szOk (poR 2 R G L W) (poI 2 R G L W) || !(bif bif sameL (fun k => same82 (dropR (IntKind.i64.wrap (Int.ofNat (dn (IntKind.i64.wrap (Int.ofNat 4 - Int.ofNat 1)).toNat 4) - Int.ofNat 1)).toNat (dropR (IntKind.i64.wrap (Int.ofNat (2 + 2) - 1)).toNat (jn 2 R (trR (can .f32 1048576000) (can .f32 1056964608)))) k) (R k)) (dn (IntKind.i64.wrap (Int.ofNat (dn (IntKind.i64.wrap (Int.ofNat 4 - Int.ofNat 1)).toNat 4) - Int.ofNat 1)).toNat (dn (IntKind.i64.wrap (Int.ofNat 4 - Int.ofNat 1)).toNat 4)) 2 then sameL (fun k => same82 (dropR (IntKind.i64.wrap (Int.ofNat (dn (IntKind.i64.wrap (Int.ofNat 4 - Int.ofNat 1)).toNat 4) - Int.ofNat 1)).toNat (dropR (IntKind.i64.wrap (Int.ofNat (2 + 2) - 1)).toNat (jn 2 G (trR (can .f32 0) (can .f32 0)))) k) (G k)) (dn (IntKind.i64.wrap (Int.ofNat (dn (IntKind.i64.wrap (Int.ofNat 4 - Int.ofNat 1)).toNat 4) - Int.ofNat 1)).toNat (dn (IntKind.i64.wrap (Int.ofNat 4 - Int.ofNat 1)).toNat 4)) 2 else false then sameL (fun k => same82 (dropC (IntKind.i64.wrap (Int.ofNat (dn (IntKind.i64.wrap (Int.ofNat 4 - Int.ofNat 1)).toNat 4) - Int.ofNat 1)).toNat (dn (IntKind.i64.wrap (Int.ofNat 4 - Int.ofNat 1)).toNat 4) (dropC (IntKind.i64.wrap (Int.ofNat (2 + 2) - 1)).toNat (2 + 2) (joinC 2 2 L (trC (can .f32 1073741824) (can .f32 1077936128) (can .f32 1056964608)))) k) (L k)) (dn (IntKind.i64.wrap (Int.ofNat (dn (IntKind.i64.wrap (Int.ofNat 4 - Int.ofNat 1)).toNat 4) - Int.ofNat 1)).toNat (dn (IntKind.i64.wrap (Int.ofNat 4 - Int.ofNat 1)).toNat 4) * (dn (IntKind.i64.wrap (Int.ofNat 4 - Int.ofNat 1)).toNat 4 - 1)) 4 else false) == true) && true))))))))))))))))))))))
noncomputable def v4_1 (ga gb pa ub lng : Bool) (R G L : Nat → Nat) (W : Nat) (X Y : Nat → Nat) : Bool := (bif bif bif sameL (fun k => same82 (dropR (IntKind.i64.wrap (Int.ofNat (dn (IntKind.i64.wrap (Int.ofNat 4 - Int.ofNat 1)).toNat 4) - Int.ofNat 1)).toNat (dropR (IntKind.i64.wrap (Int.ofNat (2 + 2) - 1)).toNat (jn 2 R (trR (can .f32 1048576000) (can .f32 1056964608)))) k) (R k)) (dn (IntKind.i64.wrap (Int.ofNat (dn (IntKind.i64.wrap (Int.ofNat 4 - Int.ofNat 1)).toNat 4) - Int.ofNat 1)).toNat (dn (IntKind.i64.wrap (Int.ofNat 4 - Int.ofNat 1)).toNat 4)) 2 then sameL (fun k => same82 (dropR (IntKind.i64.wrap (Int.ofNat (dn (IntKind.i64.wrap (Int.ofNat 4 - Int.ofNat 1)).toNat 4) - Int.ofNat 1)).toNat (dropR (IntKind.i64.wrap (Int.ofNat (2 + 2) - 1)).toNat (jn 2 G (trR (can .f32 0) (can .f32 0)))) k) (G k)) (dn (IntKind.i64.wrap (Int.ofNat (dn (IntKind.i64.wrap (Int.ofNat 4 - Int.ofNat 1)).toNat 4) - Int.ofNat 1)).toNat (dn (IntKind.i64.wrap (Int.ofNat 4 - Int.ofNat 1)).toNat 4)) 2 else false then sameL (fun k => same82 (dropC (IntKind.i64.wrap (Int.ofNat (dn (IntKind.i64.wrap (Int.ofNat 4 - Int.ofNat 1)).toNat 4) - Int.ofNat 1)).toNat (dn (IntKind.i64.wrap (Int.ofNat 4 - Int.ofNat 1)).toNat 4) (dropC (IntKind.i64.wrap (Int.ofNat (2 + 2) - 1)).toNat (2 + 2) (joinC 2 2 L (trC (can .f32 1073741824) (can .f32 1077936128) (can .f32 1056964608)))) k) (L k)) (dn (IntKind.i64.wrap (Int.ofNat (dn (IntKind.i64.wrap (Int.ofNat 4 - Int.ofNat 1)).toNat 4) - Int.ofNat 1)).toNat (dn (IntKind.i64.wrap (Int.ofNat 4 - Int.ofNat 1)).toNat 4) * (dn (IntKind.i64.wrap (Int.ofNat 4 - Int.ofNat 1)).toNat 4 - 1)) 4 else false then forder .f64 (off (poR 2 R G L W) (poI 2 R G L W) (poR 4 (jn 2 R (trR (can .f32 1048576000) (can .f32 1056964608))) (jn 2 G (trR (can .f32 0) (can .f32 0))) (joinC 2 2 L (trC (can .f32 1073741824) (can .f32 1077936128) (can .f32 1056964608))) W) (poI 4 (jn 2 R (trR (can .f32 1048576000) (can .f32 1056964608))) (jn 2 G (trR (can .f32 0) (can .f32 0))) (joinC 2 2 L (trC (can .f32 1073741824) (can .f32 1077936128) (can .f32 1056964608))) W)) (fop .mul .f64 (can .f64 4562254508917369340) (fop .add .f64 (can .f64 4607182418800017408) (fcvt .f32 .f64 (sz (poR 2 R G L W) (poI 2 R G L W))))) == some Ordering.lt else false)
noncomputable def wW1 (v : Int) : Nat := q4 (IntKind.i64.wrap (1 + v))
theorem walk4_1 (la lb : Nat) (a b : Nat → Nat) : autoW cfgY1 (fun _ => true) 6 (fun _ => none) [false, false, true, false, true, false, false] Try.f4 [.ro 1 la (.gen (gBy a)), .ro 1 lb (.gen (gBy b))] =
    some (c4_1 (gIs (byt (gBy a)) (gBy a)) (gIs (byt (gBy b)) (gBy b)) (decide (pkAt la (byt (gBy a)) 0 3 = Int.ofNat 1)) (allUpTo (isU8 (gBy b)) lb) (bif decide (Int.ofNat la > 1048576) then true else decide (Int.ofNat lb > 1048576)) (r18_1 la (byt (gBy a))) (g18_1 la (byt (gBy a))) (l18_1 la (byt (gBy a))) (wW1 (bAtI lb (byt (gBy b)) 0 12)) (x19_2 lb (byt (gBy b))) (y19_2 lb (byt (gBy b))), .bool (v4_1 (gIs (byt (gBy a)) (gBy a)) (gIs (byt (gBy b)) (gBy b)) (decide (pkAt la (byt (gBy a)) 0 3 = Int.ofNat 1)) (allUpTo (isU8 (gBy b)) lb) (bif decide (Int.ofNat la > 1048576) then true else decide (Int.ofNat lb > 1048576)) (r18_1 la (byt (gBy a))) (g18_1 la (byt (gBy a))) (l18_1 la (byt (gBy a))) (wW1 (bAtI lb (byt (gBy b)) 0 12)) (x19_2 lb (byt (gBy b))) (y19_2 lb (byt (gBy b))))) := by kernel_rfl
end Go.Fw.T1

/-
  The law of circuits for 3 loops: its walk.
-/
namespace Go.Fw.T1
open Go.Proofs
noncomputable def c4_2 (ga gb pa ub lng : Bool) (R G L : Nat → Nat) (W : Nat) (X Y : Nat → Nat) : Bool := (!lng) && (ga && pa && (ub && true && (gb && (impOk 3 3 9 R G L W && (impOk 3 3 9 R G L W && curOk 3 R G L W X Y && (tmAll 3 (zR 3 R) (zI 3 G L W) (cuX 3 R G L W X Y) (cuY 3 R G L W X Y) && (valid 3 3 9 R G L && nd (cpwOk (cuX 3 R G L W X Y 0, cuY 3 R G L W X Y 0) && true) (nd (cpwOk (cuX 3 R G L W X Y 1, cuY 3 R G L W X Y 1) && true) (nd (cpwOk (cuX 3 R G L W X Y 2, cuY 3 R G L W X Y 2) && true) true)) && (valid 3 3 9 R G L && ((!bif bif bif !valid 3 3 9 R G L then true else forder .f32 (loss 3 R (cuX 3 R G L W X Y) (cuY 3 R G L W X Y)) (can .f32 0) == some Ordering.lt then true else forder .f32 (sto 3 L (cuX 3 R G L W X Y) (cuY 3 R G L W X Y)) (can .f32 3129152111) == some Ordering.lt then true else forder .f64 (gap (fcvt .f32 .f64 (loss 3 R (cuX 3 R G L W X Y) (cuY 3 R G L W X Y))) (fcvt .f32 .f64 (giv 3 X Y (cuX 3 R G L W X Y) (cuY 3 R G L W X Y)))) (fop .mul .f64 (can .f64 4576918229304087675) (fop .add .f64 (can .f64 4607182418800017408) (fcvt .f32 .f64 (loss 3 R (cuX 3 R G L W X Y) (cuY 3 R G L W X Y))))) == some Ordering.gt) && (!forder .f64 (off (tmX 3 (zR 3 R) (zI 3 G L W) (cuX 3 R G L W X Y) (cuY 3 R G L W X Y) 0) (tmY 3 (zR 3 R) (zI 3 G L W) (cuX 3 R G L W X Y) (cuY 3 R G L W X Y) 0) (X 0) (Y 0)) (can .f64 4576918229304087675) == some Ordering.gt && (decide (IntKind.i64.wrap (0 + 1) < Int.ofNat 3) && (decide (0 ≤ IntKind.i64.wrap (0 + 1)) && decide (IntKind.i64.wrap (0 + 1) < Int.ofNat 3) && (decide (0 ≤ IntKind.i64.wrap (0 + 1)) && decide (IntKind.i64.wrap (0 + 1) < Int.ofNat 3) && true) && (!forder .f64 (off (tmX 3 (zR 3 R) (zI 3 G L W) (cuX 3 R G L W X Y) (cuY 3 R G L W X Y) (IntKind.i64.wrap (Int.ofNat 0 + Int.ofNat 1)).toNat) (tmY 3 (zR 3 R) (zI 3 G L W) (cuX 3 R G L W X Y) (cuY 3 R G L W X Y) (IntKind.i64.wrap (Int.ofNat 0 + Int.ofNat 1)).toNat) (X (IntKind.i64.wrap (Int.ofNat 0 + Int.ofNat 1)).toNat) (Y (IntKind.i64.wrap (Int.ofNat 0 + Int.ofNat 1)).toNat)) (can .f64 4576918229304087675) == some Ordering.gt && (decide (IntKind.i64.wrap (IntKind.i64.wrap (0 + 1) + 1) < Int.ofNat 3) && (decide (0 ≤ IntKind.i64.wrap (IntKind.i64.wrap (0 + 1) + 1)) && decide (IntKind.i64.wrap (IntKind.i64.wrap (0 + 1) + 1) < Int.ofNat 3) && (decide (0 ≤ IntKind.i64.wrap (IntKind.i64.wrap (0 + 1) + 1)) && decide (IntKind.i64.wrap (IntKind.i64.wrap (0 + 1) + 1) < Int.ofNat 3) && true) && (!forder .f64 (off (tmX 3 (zR 3 R) (zI 3 G L W) (cuX 3 R G L W X Y) (cuY 3 R G L W X Y) (IntKind.i64.wrap (IntKind.i64.wrap (Int.ofNat 0 + Int.ofNat 1) + Int.ofNat 1)).toNat) (tmY 3 (zR 3 R) (zI 3 G L W) (cuX 3 R G L W X Y) (cuY 3 R G L W X Y) (IntKind.i64.wrap (IntKind.i64.wrap (Int.ofNat 0 + Int.ofNat 1) + Int.ofNat 1)).toNat) (X (IntKind.i64.wrap (IntKind.i64.wrap (Int.ofNat 0 + Int.ofNat 1) + Int.ofNat 1)).toNat) (Y (IntKind.i64.wrap (IntKind.i64.wrap (Int.ofNat 0 + Int.ofNat 1) + Int.ofNat 1)).toNat)) (can .f64 4576918229304087675) == some Ordering.gt && (!decide (IntKind.i64.wrap (IntKind.i64.wrap (IntKind.i64.wrap (0 + 1) + 1) + 1) < Int.ofNat 3) && (trOk (can .f32 1073741824) (can .f32 1077936128) (can .f32 1056964608) (can .f32 1048576000) (can .f32 1056964608) && (joinOk 3 3 9 2 2 4 R G L (trR (can .f32 1048576000) (can .f32 1056964608)) (trR (can .f32 0) (can .f32 0)) (trC (can .f32 1073741824) (can .f32 1077936128) (can .f32 1056964608)) && (impOk 3 3 9 R G L W && poOk 3 R G L W && (impOk 5 5 25 (jn 3 R (trR (can .f32 1048576000) (can .f32 1056964608))) (jn 3 G (trR (can .f32 0) (can .f32 0))) (joinC 3 2 L (trC (can .f32 1073741824) (can .f32 1077936128) (can .f32 1056964608))) W && poOk 5 (jn 3 R (trR (can .f32 1048576000) (can .f32 1056964608))) (jn 3 G (trR (can .f32 0) (can .f32 0))) (joinC 3 2 L (trC (can .f32 1073741824) (can .f32 1077936128) (can .f32 1056964608))) W && (!dropNo 5 5 25 (jn 3 R (trR (can .f32 1048576000) (can .f32 1056964608))) (jn 3 G (trR (can .f32 0) (can .f32 0))) (joinC 3 2 L (trC (can .f32 1073741824) (can .f32 1077936128) (can .f32 1056964608))) (IntKind.i64.wrap (Int.ofNat 5 - Int.ofNat 1)) && (!dropNo (dn (IntKind.i64.wrap (Int.ofNat 5 - Int.ofNat 1)).toNat 5) (dn (IntKind.i64.wrap (Int.ofNat 5 - Int.ofNat 1)).toNat 5) (dn (IntKind.i64.wrap (Int.ofNat 5 - Int.ofNat 1)).toNat 5 * 4) (dropR (IntKind.i64.wrap (Int.ofNat (3 + 2) - 1)).toNat (jn 3 R (trR (can .f32 1048576000) (can .f32 1056964608)))) (dropR (IntKind.i64.wrap (Int.ofNat (3 + 2) - 1)).toNat (jn 3 G (trR (can .f32 0) (can .f32 0)))) (dropC (IntKind.i64.wrap (Int.ofNat (3 + 2) - 1)).toNat (3 + 2) (joinC 3 2 L (trC (can .f32 1073741824) (can .f32 1077936128) (can .f32 1056964608)))) (IntKind.i64.wrap (Int.ofNat (dn (IntKind.i64.wrap (Int.ofNat 5 - Int.ofNat 1)).toNat 5) - Int.ofNat 1)) && (((dn (IntKind.i64.wrap (Int.ofNat (dn (IntKind.i64.wrap (Int.ofNat 5 - Int.ofNat 1)).toNat 5) - Int.ofNat 1)).toNat (dn (IntKind.i64.wrap (Int.ofNat 5 - Int.ofNat 1)).toNat 5)).ble 4611686018427387000 && true && (((dn (IntKind.i64.wrap (Int.ofNat (dn (IntKind.i64.wrap (Int.ofNat 5 - Int.ofNat 1)).toNat 5) - Int.ofNat 1)).toNat (dn (IntKind.i64.wrap (Int.ofNat 5 - Int.ofNat 1)).toNat 5)).ble 4611686018427387000 && true || !sameL (fun k => same82 (dropR (IntKind.i64.wrap (Int.ofNat (dn (IntKind.i64.wrap (Int.ofNat 5 - Int.ofNat 1)).toNat 5) - Int.ofNat 1)).toNat (dropR (IntKind.i64.wrap (Int.ofNat (3 + 2) - 1)).toNat (jn 3 R (trR (can .f32 1048576000) (can .f32 1056964608)))) k) (R k)) (dn (IntKind.i64.wrap (Int.ofNat (dn (IntKind.i64.wrap (Int.ofNat 5 - Int.ofNat 1)).toNat 5) - Int.ofNat 1)).toNat (dn (IntKind.i64.wrap (Int.ofNat 5 - Int.ofNat 1)).toNat 5)) 3 == true) && (((dn (IntKind.i64.wrap (Int.ofNat (dn (IntKind.i64.wrap (Int.ofNat 5 - Int.ofNat 1)).toNat 5) - Int.ofNat 1)).toNat (dn (IntKind.i64.wrap (Int.ofNat 5 - Int.ofNat 1)).toNat 5) * (dn (IntKind.i64.wrap (Int.ofNat 5 - Int.ofNat 1)).toNat 5 - 1)).ble 4611686018427387000 && true || !(bif sameL (fun k => same82 (dropR (IntKind.i64.wrap (Int.ofNat (dn (IntKind.i64.wrap (Int.ofNat 5 - Int.ofNat 1)).toNat 5) - Int.ofNat 1)).toNat (dropR (IntKind.i64.wrap (Int.ofNat (3 + 2) - 1)).toNat (jn 3 R (trR (can .f32 1048576000) (can .f32 1056964608)))) k) (R k)) (dn (IntKind.i64.wrap (Int.ofNat (dn (IntKind.i64.wrap (Int.ofNat 5 - Int.ofNat 1)).toNat 5) - Int.ofNat 1)).toNat (dn (IntKind.i64.wrap (Int.ofNat 5 - Int.ofNat 1)).toNat 5)) 3 then sameL (fun k => same82 (dropR (IntKind.i64.wrap (Int.ofNat (dn (IntKind.i64.wrap (Int.ofNat 5 - Int.ofNat 1)).toNat 5) - Int.ofNat 1)).toNat (dropR (IntKind.i64.wrap (Int.ofNat (3 + 2) - 1)).toNat (jn 3 G (trR (can .f32 0) (can .f32 0)))) k) (G k)) (dn (IntKind.i64.wrap (Int.ofNat (dn (IntKind.i64.wrap (Int.ofNat 5 - Int.ofNat 1)).toNat 5) - Int.ofNat 1)).toNat (dn (IntKind.i64.wrap (Int.ofNat 5 - Int.ofNat 1)).toNat 5)) 3 else false) == true) && true)) || !true == true) && ((szOk (poR 3 R G L W) (poI 3 R G L W) || !(bif bif sameL (fun k => same82 (dropR (IntKind.i64.wrap (Int.ofNat (dn (IntKind.i64.wrap (Int.ofNat 5 - Int.ofNat 1)).toNat 5) - Int.ofNat 1)).toNat (dropR (IntKind.i64.wrap (Int.ofNat (3 + 2) - 1)).toNat (jn 3 R (trR (can .f32 1048576000) (can .f32 1056964608)))) k) (R k)) (dn (IntKind.i64.wrap (Int.ofNat (dn (IntKind.i64.wrap (Int.ofNat 5 - Int.ofNat 1)).toNat 5) - Int.ofNat 1)).toNat (dn (IntKind.i64.wrap (Int.ofNat 5 - Int.ofNat 1)).toNat 5)) 3 then sameL (fun k => same82 (dropR (IntKind.i64.wrap (Int.ofNat (dn (IntKind.i64.wrap (Int.ofNat 5 - Int.ofNat 1)).toNat 5) - Int.ofNat 1)).toNat (dropR (IntKind.i64.wrap (Int.ofNat (3 + 2) - 1)).toNat (jn 3 G (trR (can .f32 0) (can .f32 0)))) k) (G k)) (dn (IntKind.i64.wrap (Int.ofNat (dn (IntKind.i64.wrap (Int.ofNat 5 - Int.ofNat 1)).toNat 5) - Int.ofNat 1)).toNat (dn (IntKind.i64.wrap (Int.ofNat 5 - Int.ofNat 1)).toNat 5)) 3 else false then sameL (fun k => same82 (dropC (IntKind.i64.wrap (Int.ofNat (dn (IntKind.i64.wrap (Int.ofNat 5 - Int.ofNat 1)).toNat 5) - Int.ofNat 1)).toNat (dn (IntKind.i64.wrap (Int.ofNat 5 - Int.ofNat 1)).toNat 5) (dropC (IntKind.i64.wrap (Int.ofNat (3 + 2) - 1)).toNat (3 + 2) (joinC 3 2 L (trC (can .f32 1073741824) (can .f32 1077936128) (can .f32 1056964608)))) k) (L k)) (dn (IntKind.i64.wrap (Int.ofNat (dn (IntKind.i64.wrap (Int.ofNat 5 - Int.ofNat 1)).toNat 5) - Int.ofNat 1)).toNat (dn (IntKind.i64.wrap (Int.ofNat 5 - Int.ofNat 1)).toNat 5) * (dn (IntKind.i64.wrap (Int.ofNat 5 - Int.ofNat 1)).toNat 5 - 1)) 9 else false) == true) && true)))))))))))))))))))))))))
noncomputable def v4_2 (ga gb pa ub lng : Bool) (R G L : Nat → Nat) (W : Nat) (X Y : Nat → Nat) : Bool := (bif bif bif sameL (fun k => same82 (dropR (IntKind.i64.wrap (Int.ofNat (dn (IntKind.i64.wrap (Int.ofNat 5 - Int.ofNat 1)).toNat 5) - Int.ofNat 1)).toNat (dropR (IntKind.i64.wrap (Int.ofNat (3 + 2) - 1)).toNat (jn 3 R (trR (can .f32 1048576000) (can .f32 1056964608)))) k) (R k)) (dn (IntKind.i64.wrap (Int.ofNat (dn (IntKind.i64.wrap (Int.ofNat 5 - Int.ofNat 1)).toNat 5) - Int.ofNat 1)).toNat (dn (IntKind.i64.wrap (Int.ofNat 5 - Int.ofNat 1)).toNat 5)) 3 then sameL (fun k => same82 (dropR (IntKind.i64.wrap (Int.ofNat (dn (IntKind.i64.wrap (Int.ofNat 5 - Int.ofNat 1)).toNat 5) - Int.ofNat 1)).toNat (dropR (IntKind.i64.wrap (Int.ofNat (3 + 2) - 1)).toNat (jn 3 G (trR (can .f32 0) (can .f32 0)))) k) (G k)) (dn (IntKind.i64.wrap (Int.ofNat (dn (IntKind.i64.wrap (Int.ofNat 5 - Int.ofNat 1)).toNat 5) - Int.ofNat 1)).toNat (dn (IntKind.i64.wrap (Int.ofNat 5 - Int.ofNat 1)).toNat 5)) 3 else false then sameL (fun k => same82 (dropC (IntKind.i64.wrap (Int.ofNat (dn (IntKind.i64.wrap (Int.ofNat 5 - Int.ofNat 1)).toNat 5) - Int.ofNat 1)).toNat (dn (IntKind.i64.wrap (Int.ofNat 5 - Int.ofNat 1)).toNat 5) (dropC (IntKind.i64.wrap (Int.ofNat (3 + 2) - 1)).toNat (3 + 2) (joinC 3 2 L (trC (can .f32 1073741824) (can .f32 1077936128) (can .f32 1056964608)))) k) (L k)) (dn (IntKind.i64.wrap (Int.ofNat (dn (IntKind.i64.wrap (Int.ofNat 5 - Int.ofNat 1)).toNat 5) - Int.ofNat 1)).toNat (dn (IntKind.i64.wrap (Int.ofNat 5 - Int.ofNat 1)).toNat 5) * (dn (IntKind.i64.wrap (Int.ofNat 5 - Int.ofNat 1)).toNat 5 - 1)) 9 else false then forder .f64 (off (poR 3 R G L W) (poI 3 R G L W) (poR 5 (jn 3 R (trR (can .f32 1048576000) (can .f32 1056964608))) (jn 3 G (trR (can .f32 0) (can .f32 0))) (joinC 3 2 L (trC (can .f32 1073741824) (can .f32 1077936128) (can .f32 1056964608))) W) (poI 5 (jn 3 R (trR (can .f32 1048576000) (can .f32 1056964608))) (jn 3 G (trR (can .f32 0) (can .f32 0))) (joinC 3 2 L (trC (can .f32 1073741824) (can .f32 1077936128) (can .f32 1056964608))) W)) (fop .mul .f64 (can .f64 4562254508917369340) (fop .add .f64 (can .f64 4607182418800017408) (fcvt .f32 .f64 (sz (poR 3 R G L W) (poI 3 R G L W))))) == some Ordering.lt else false)
noncomputable def wW2 (v : Int) : Nat := q4 (IntKind.i64.wrap (1 + v))
theorem walk4_2 (la lb : Nat) (a b : Nat → Nat) : autoW cfgY2 (fun _ => true) 6 (fun _ => none) [false, false, true, false, true, false, true, false, false] Try.f4 [.ro 1 la (.gen (gBy a)), .ro 1 lb (.gen (gBy b))] =
    some (c4_2 (gIs (byt (gBy a)) (gBy a)) (gIs (byt (gBy b)) (gBy b)) (decide (pkAt la (byt (gBy a)) 0 3 = Int.ofNat 2)) (allUpTo (isU8 (gBy b)) lb) (bif decide (Int.ofNat la > 1048576) then true else decide (Int.ofNat lb > 1048576)) (r18_2 la (byt (gBy a))) (g18_2 la (byt (gBy a))) (l18_2 la (byt (gBy a))) (wW2 (bAtI lb (byt (gBy b)) 0 12)) (x19_3 lb (byt (gBy b))) (y19_3 lb (byt (gBy b))), .bool (v4_2 (gIs (byt (gBy a)) (gBy a)) (gIs (byt (gBy b)) (gBy b)) (decide (pkAt la (byt (gBy a)) 0 3 = Int.ofNat 2)) (allUpTo (isU8 (gBy b)) lb) (bif decide (Int.ofNat la > 1048576) then true else decide (Int.ofNat lb > 1048576)) (r18_2 la (byt (gBy a))) (g18_2 la (byt (gBy a))) (l18_2 la (byt (gBy a))) (wW2 (bAtI lb (byt (gBy b)) 0 12)) (x19_3 lb (byt (gBy b))) (y19_3 lb (byt (gBy b))))) := by kernel_rfl
end Go.Fw.T1

/-
  The law of circuits for each number of loops: its conditions and its answer.
-/
namespace Go.Fw.T1
open Go.Proofs
theorem kc {a b : Bool} (e : a = b) (h : b = true) : a = true := e.trans h
theorem and_i {a b : Bool} (ha : a = true) (hb : b = true) : (a && b) = true := by rw [ha, hb]; rfl
theorem or_i {a b : Bool} (ha : a = true) : (a || b) = true := by rw [ha]; rfl
theorem bif_i {a b : Bool} (ha : a = true) (hb : b = true) : (bif a then b else false) = true := by rw [ha, hb]; rfl
theorem bad_i {a b c d : Bool} (ha : a = true) (hb : b = false) (hc : c = false) (hd : d = false) : (!bif bif bif !a then true else b then true else c then true else d) = true := by rw [ha, hb, hc, hd]; rfl
section
variable {n : Nat} {R G L : Nat → Nat} {W : Nat} {X Y : Nat → Nat}
theorem law_nums (h : Dr n R G L W) (hn : n = 1 ∨ n = 2 ∨ n = 3) (hv : Vok n X Y 2) :
    curOk n R G L W X Y = true ∧ tmAll n (zR n R) (zI n G L W) (cuX n R G L W X Y) (cuY n R G L W X Y) = true ∧ lossO (cuX n R G L W X Y) (cuY n R G L W X Y) (List.range n) = true ∧
    (forder .f32 (loss n R (cuX n R G L W X Y) (cuY n R G L W X Y)) (can .f32 0) == some .lt) = false ∧ (forder .f32 (sto n L (cuX n R G L W X Y) (cuY n R G L W X Y)) (can .f32 3129152111) == some .lt) = false ∧
    (forder .f64 (gap (fcvt .f32 .f64 (loss n R (cuX n R G L W X Y) (cuY n R G L W X Y))) (fcvt .f32 .f64 (giv n X Y (cuX n R G L W X Y) (cuY n R G L W X Y)))) (fop .mul .f64 (can .f64 4576918229304087675) (fop .add .f64 (can .f64 4607182418800017408) (fcvt .f32 .f64 (loss n R (cuX n R G L W X Y) (cuY n R G L W X Y))))) == some .gt) = false ∧
    ∀ r, r < n → (!(forder .f64 (off (tmX n (zR n R) (zI n G L W) (cuX n R G L W X Y) (cuY n R G L W X Y) r) (tmY n (zR n R) (zI n G L W) (cuX n R G L W X Y) (cuY n R G L W X Y) r) (X r) (Y r)) (can .f64 4576918229304087675) == some .gt)) = true := by
  have hc := cur h hn hv (by decide) (by decide)
  obtain ⟨t1, t2⟩ := told_ok h hn hc hv
  obtain ⟨l, l1, l2, l3, l4⟩ := lost_val h hn hc
  obtain ⟨g, g1, g2⟩ := giv_val hn hc hv
  obtain ⟨s1, _, s3, _⟩ := hc.sol.sums (by decide +kernel)
  have hS0 : 0 ≤ SP (xP n R G L W X Y) := by
    have h0 := N_nonneg (xP n R G L W X Y 0)
    have h1 := N_nonneg (xP n R G L W X Y 1)
    have h2 := N_nonneg (xP n R G L W X Y 2)
    unfold SP; grind
  have hgap := gap_core (S := SP (xP n R G L W X Y)) l3 g2 s1 s3 hc.size hS0
  have hP : PP (rP n R) (xP n R G L W X Y) ≤ 99 := hc.sol.size.2.1
  have hl : l ≤ 1000 := by
    have := ab_near (l - 1 / 2 * PP (rP n R) (xP n R G L W X Y))
    unfold Near at this
    grind
  exact ⟨hc.ok, t1, l4, nlt_val l1 can0v l2, sto_ok h hn hc, gap_law l1 g1 hgap l2 hl, t2⟩
end
theorem n1 : (1 : Nat) = 1 ∨ (1 : Nat) = 2 ∨ (1 : Nat) = 3 := .inl rfl
theorem n2 : (2 : Nat) = 1 ∨ (2 : Nat) = 2 ∨ (2 : Nat) = 3 := .inr (.inl rfl)
theorem n3 : (3 : Nat) = 1 ∨ (3 : Nat) = 2 ∨ (3 : Nat) = 3 := .inr (.inr rfl)
section
variable {R G L : Nat → Nat} {W : Nat} {X Y : Nat → Nat}
theorem c4_0_ok (h : Dr 1 R G L W) (hv : Vok 1 X Y 2) : c4_0 true true true true false R G L W X Y = true := by
  obtain ⟨a1, a2, a3, a4, a5, a6, a7⟩ := law_nums h n1 hv
  obtain ⟨p1, p2, p3, p4⟩ := ports h n1
  have v1 : valid 1 1 1 R G L = true := h.valid n1
  have i1 : impOk 1 1 1 R G L W = true := h.imp n1
  unfold c4_0
  refine and_i rfl (and_i rfl (and_i rfl (and_i rfl (and_i i1 (and_i (and_i i1 a1) (and_i a2 (and_i (and_i v1 (kc (by kernel_rfl) a3)) (and_i v1 (and_i (bad_i v1 a4 a5 a6) (and_i (a7 0 (by omega)) (and_i (by kernel_rfl) ?_)))))))))))
  exact and_i tr_valid (and_i (h.join n1) (and_i (and_i i1 p1) (and_i (and_i (kc (by kernel_rfl) (h.impJ n1)) (kc (by kernel_rfl) p2)) (and_i (kc (by kernel_rfl) (h.drop1 n1)) (and_i (kc (by kernel_rfl) (h.drop2 n1)) (and_i (by kernel_rfl) (and_i (or_i p3) rfl)))))))
theorem v4_0_ok (h : Dr 1 R G L W) : v4_0 true true true true false R G L W X Y = true := by
  obtain ⟨p1, p2, p3, p4⟩ := ports h n1
  unfold v4_0
  exact bif_i (bif_i (bif_i (kc (by kernel_rfl) (same_R (n := 1) (R := R))) (kc (by kernel_rfl) (same_G (n := 1) (G := G)))) (kc (by kernel_rfl) (same_L (n := 1) (L := L)))) p4
end
end Go.Fw.T1

/-
  The law of circuits where the bytes are too many.
-/
namespace Go.Fw.T1
open Go.Proofs
theorem long4 (la lb : Nat) (a b : Nat → Nat) : autoW cfgY0 (fun _ => true) 6 (fun _ => none) [true] Try.f4 [.ro 1 la (.gen (gBy a)), .ro 1 lb (.gen (gBy b))] = some ((bif decide (Int.ofNat la > 1048576) then true else decide (Int.ofNat lb > 1048576)) && true, .bool true) := by kernel_rfl
end Go.Fw.T1

/-
  The law of circuits of two and three loops; the law.
-/
namespace Go.Fw.T1
open Go.Proofs
section
variable {R G L : Nat → Nat} {W : Nat} {X Y : Nat → Nat}
theorem c4_1_ok (h : Dr 2 R G L W) (hv : Vok 2 X Y 2) : c4_1 true true true true false R G L W X Y = true := by
  obtain ⟨a1, a2, a3, a4, a5, a6, a7⟩ := law_nums h n2 hv
  obtain ⟨p1, p2, p3, p4⟩ := ports h n2
  have v1 : valid 2 2 4 R G L = true := h.valid n2
  have i1 : impOk 2 2 4 R G L W = true := h.imp n2
  unfold c4_1
  refine and_i rfl (and_i rfl (and_i rfl (and_i rfl (and_i i1 (and_i (and_i i1 a1) (and_i a2 (and_i (and_i v1 (kc (by kernel_rfl) a3)) (and_i v1 (and_i (bad_i v1 a4 a5 a6) (and_i (a7 0 (by omega)) (and_i (by kernel_rfl) (and_i (by kernel_rfl) (and_i (kc (by kernel_rfl) (a7 1 (by omega))) (and_i (by kernel_rfl) ?_))))))))))))))
  exact and_i tr_valid (and_i (h.join n2) (and_i (and_i i1 p1) (and_i (and_i (kc (by kernel_rfl) (h.impJ n2)) (kc (by kernel_rfl) p2)) (and_i (kc (by kernel_rfl) (h.drop1 n2)) (and_i (kc (by kernel_rfl) (h.drop2 n2)) (and_i (by kernel_rfl) (and_i (or_i p3) rfl)))))))
theorem v4_1_ok (h : Dr 2 R G L W) : v4_1 true true true true false R G L W X Y = true := by
  obtain ⟨p1, p2, p3, p4⟩ := ports h n2
  unfold v4_1
  exact bif_i (bif_i (bif_i (kc (by kernel_rfl) (same_R (n := 2) (R := R))) (kc (by kernel_rfl) (same_G (n := 2) (G := G)))) (kc (by kernel_rfl) (same_L (n := 2) (L := L)))) p4
theorem c4_2_ok (h : Dr 3 R G L W) (hv : Vok 3 X Y 2) : c4_2 true true true true false R G L W X Y = true := by
  obtain ⟨a1, a2, a3, a4, a5, a6, a7⟩ := law_nums h n3 hv
  obtain ⟨p1, p2, p3, p4⟩ := ports h n3
  have v1 : valid 3 3 9 R G L = true := h.valid n3
  have i1 : impOk 3 3 9 R G L W = true := h.imp n3
  unfold c4_2
  refine and_i rfl (and_i rfl (and_i rfl (and_i rfl (and_i i1 (and_i (and_i i1 a1) (and_i a2 (and_i (and_i v1 (kc (by kernel_rfl) a3)) (and_i v1 (and_i (bad_i v1 a4 a5 a6) (and_i (a7 0 (by omega)) (and_i (by kernel_rfl) (and_i (by kernel_rfl) (and_i (kc (by kernel_rfl) (a7 1 (by omega)))
    (and_i (by kernel_rfl) (and_i (by kernel_rfl) (and_i (kc (by kernel_rfl) (a7 2 (by omega))) (and_i (by kernel_rfl) ?_)))))))))))))))))
  exact and_i tr_valid (and_i (h.join n3) (and_i (and_i i1 p1) (and_i (and_i (kc (by kernel_rfl) (h.impJ n3)) (kc (by kernel_rfl) p2)) (and_i (kc (by kernel_rfl) (h.drop1 n3)) (and_i (kc (by kernel_rfl) (h.drop2 n3)) (and_i (by kernel_rfl) (and_i (or_i p3) rfl)))))))
theorem v4_2_ok (h : Dr 3 R G L W) : v4_2 true true true true false R G L W X Y = true := by
  obtain ⟨p1, p2, p3, p4⟩ := ports h n3
  unfold v4_2
  exact bif_i (bif_i (bif_i (kc (by kernel_rfl) (same_R (n := 3) (R := R))) (kc (by kernel_rfl) (same_G (n := 3) (G := G)))) (kc (by kernel_rfl) (same_L (n := 3) (L := L)))) p4
end
theorem u8_all4 {la : Nat} {b : Nat → Nat} (hb : ∀ i, b i < 256) : allUpTo (isU8 (gBy b)) la = true := allUpTo_iff.2 fun i _ => by
  show (decide (0 ≤ Int.ofNat (b i)) && decide (Int.ofNat (b i) < 256)) = true
  have := hb i
  rw [decide_eq_true (show 0 ≤ Int.ofNat (b i) from Int.natCast_nonneg _), decide_eq_true (show Int.ofNat (b i) < 256 by simp; omega)]; rfl
theorem byt_gBy (b : Nat → Nat) : byt (gBy b) = b := by
  funext i
  rfl
theorem pk3 {la : Nat} {b : Nat → Nat} (hb : ∀ i, b i < 256) : pkAt la b 0 3 = Int.ofNat 0 ∨ pkAt la b 0 3 = Int.ofNat 1 ∨ pkAt la b 0 3 = Int.ofNat 2 := by
  obtain ⟨p, hp, e⟩ := pk_ex (la := la) (b := b) (fun i _ => hb i) 0 (m := 3) (by omega)
  rw [e]
  match p, hp with
  | 0, _ => exact .inl rfl
  | 1, _ => exact .inr (.inl rfl)
  | 2, _ => exact .inr (.inr rfl)
theorem law4 {la lc : Nat} {b c : Nat → Nat} (hb : ∀ i, b i < 256) (hc : ∀ i, c i < 256) : PureCall Try.prog 4 [.ro 1 la (.gen fun i => .int .u8 (Int.ofNat (b i))), .ro 1 lc (.gen fun i => .int .u8 (Int.ofNat (c i)))] (.bool true) := by
  by_cases h : la ≤ 1048576 ∧ lc ≤ 1048576
  · have hlng : (bif decide (Int.ofNat la > 1048576) then true else decide (Int.ofNat lc > 1048576)) = false := by
      rw [decide_eq_false (show ¬ Int.ofNat la > 1048576 by simp; omega), decide_eq_false (show ¬ Int.ofNat lc > 1048576 by simp; omega)]; rfl
    have gb := gIs_gB b
    have gc := gIs_gB c
    have u8 := u8_all4 (la := lc) hc
    rcases pk3 (la := la) hb with hp | hp | hp
    · have hw := walk4_0 la lc b c
      rw [byt_gBy, byt_gBy, gb, gc, u8, hlng, decide_eq_true hp] at hw
      have hd := dr1 (la := la) hb (dw_W (la := lc) hc)
      have hW : wW0 (bAtI lc c 0 12) = q4 (IntKind.i64.wrap (1 + bAtI lc c 0 12)) := rfl
      rw [hW, v4_0_ok hd] at hw
      exact autoW_ok cfgY0_ok Try.func4 (by kernel_rfl) (lp_none _) hw (c4_0_ok hd (vo1 hc))
    · have hw := walk4_1 la lc b c
      rw [byt_gBy, byt_gBy, gb, gc, u8, hlng, decide_eq_true hp] at hw
      have hd := dr2 (la := la) hb (dw_W (la := lc) hc)
      have hW : wW1 (bAtI lc c 0 12) = q4 (IntKind.i64.wrap (1 + bAtI lc c 0 12)) := rfl
      rw [hW, v4_1_ok hd] at hw
      exact autoW_ok cfgY1_ok Try.func4 (by kernel_rfl) (lp_none _) hw (c4_1_ok hd (vo2 hc))
    · have hw := walk4_2 la lc b c
      rw [byt_gBy, byt_gBy, gb, gc, u8, hlng, decide_eq_true hp] at hw
      have hd := dr3 (la := la) hb (dw_W (la := lc) hc)
      have hW : wW2 (bAtI lc c 0 12) = q4 (IntKind.i64.wrap (1 + bAtI lc c 0 12)) := rfl
      rw [hW, v4_2_ok hd] at hw
      exact autoW_ok cfgY2_ok Try.func4 (by kernel_rfl) (lp_none _) hw (c4_2_ok hd (vo3 hc))
  · refine autoW_ok cfgY0_ok Try.func4 (by kernel_rfl) (lp_none _) (long4 la lc b c) ?_
    by_cases h1 : la ≤ 1048576
    · rw [decide_eq_false (show ¬ Int.ofNat la > 1048576 by simp; omega), decide_eq_true (show Int.ofNat lc > 1048576 by simp; omega)]; rfl
    · rw [decide_eq_true (show Int.ofNat la > 1048576 by simp; omega)]; rfl
end Go.Fw.T1
