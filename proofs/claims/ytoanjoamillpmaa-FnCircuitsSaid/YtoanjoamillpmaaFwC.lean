/-
  Drawn regions, walked.
-/
import Derived.Test.YtoanjoamillpmaaFwB
import Derived.LoopN
import Derived.Deep.Slices
import Derived.ChangeArms
import Derived.ChangeSame
import Derived.ProofKit
import Derived.OpenShut
import Derived.ChangeOld
import Derived.Below

namespace Go.Fw
variable [XS]
open Go.RowKit (Below)
omit [XS] in
theorem only_one {l : List Nat} {k : Nat} (hn : l.Nodup) (hk : k ∈ l) (h : ∀ x, x ∈ l → x = k) : l = [k] := by
  match l, hn, hk, h with
  | [x], _, _, h => rw [h x (by simp)]
  | x :: y :: r, hn, _, h =>
    have h1 := h x (by simp)
    have h2 := h y (by simp)
    rw [h1, h2] at hn
    simp at hn
omit [XS] in
theorem ready_nodup (ops : Array Oper) (listed : Array Bool) : (Region.ready .any ops listed).Nodup := by
  unfold Region.ready
  exact List.nodup_range.filter _
omit [XS] in
theorem seqB_tail {ops : Array Oper} (haf : aftersOk ops = true) {m : Nat} (hchain : ∀ t, m < t → t < ops.size → Region.waitsFor .any ops t (t - 1) = true) : ∀ (g k : Nat) (listed : Array Bool), k + g = ops.size → m ≤ k → listed.size = ops.size →
    (∀ j, j < ops.size → listed.getD j false = decide (j < k)) → Region.seqB .any ops g k listed = true
  | 0, k, listed, hk, _, hsz, hl => by
    simp only [Region.seqB, List.isEmpty_iff]
    apply List.eq_nil_iff_forall_not_mem.2
    intro j hj
    obtain ⟨h1, o, ho, _⟩ := mem_ready.1 hj
    have hjl : j < ops.size := (Array.getElem?_eq_some_iff.1 ho).1
    have h2 := getD_both h1
    rw [hl j hjl] at h2
    simp at h2
    omega
  | g + 1, k, listed, hk, hmk, hsz, hl => by
    have hkl : k < ops.size := by omega
    have hready : Region.ready .any ops listed = [k] := by
      refine only_one (ready_nodup ops listed) ?_ fun x hx => ?_
      · refine mem_ready.2 ⟨getD_in (by omega) (by rw [hl k hkl]; simp), ops[k], Array.getElem?_eq_getElem hkl, fun e he hb => ?_⟩
        have := aftersOk_spec haf (Array.getElem?_eq_getElem hkl) (mem_afters.2 ⟨e, he, hb, rfl⟩)
        rw [hl e.on (by omega)]
        simpa using this
      · obtain ⟨h1, o, ho, hall⟩ := mem_ready.1 hx
        have hxl : x < ops.size := (Array.getElem?_eq_some_iff.1 ho).1
        have h2 := getD_both h1
        rw [hl x hxl] at h2
        simp at h2
        rcases Nat.lt_or_ge k x with h3 | h3
        · obtain ⟨o', ho', e, he, hb, hon⟩ := Region.waitsFor_spec (hchain x (by omega) hxl)
          rw [ho] at ho'
          injection ho' with ho'
          subst ho'
          have h4 := hall e he hb
          rw [hon, hl (x - 1) (by omega)] at h4
          simp at h4
          omega
        · omega
    simp only [Region.seqB, hready, decide_true, Bool.true_and]
    refine seqB_tail haf hchain g (k + 1) _ (by omega) (by omega) (by simpa using hsz) fun j hj => ?_
    by_cases e : k = j
    · subst e
      simp [hsz, hkl]
    · rw [getD_set_ne false e, hl j hj]
      simp only [decide_eq_decide]
      omega
omit [XS] in
theorem least {f : Nat → Bool} : ∀ (n : Nat), f n = false → ∃ k, k ≤ n ∧ f k = false ∧ ∀ j, j < k → f j = true := by
  intro n
  induction n using Nat.strongRecOn with
  | _ n ih =>
    intro h
    by_cases hex : ∃ j, j < n ∧ f j = false
    · obtain ⟨j, hj, hf⟩ := hex
      obtain ⟨k, hk, h1, h2⟩ := ih j hj hf
      exact ⟨k, by omega, h1, h2⟩
    · refine ⟨n, Nat.le_refl _, h, fun j hj => ?_⟩
      cases hf : f j
      · exact absurd ⟨j, hj, hf⟩ hex
      · rfl
section
variable {P : Program} {B : Nat} {w0 : World} {U0 : Nat → Prop} {G : Value → A → Prop}
theorem eStep_sound {cfg : Cfg} (hc : CfgOK P cfg) {base : Nat} {ops : Array Oper} {o : Oper} {id : Nat} {σ σ' : St} {U : Nat → Prop} {a : Act} {w : World} {cv : Nat → Option Value} (h : SRcv B w0 U G σ a w cv)
    (hq : eStep cfg o σ = some (id, σ')) (hnext : base + 16 ≤ σ.next)
    {K : Act → World → Prop} {Q : Exit → Act → World → Prop} (hK : ∀ a' w', SR B w0 (fun id => U id ∨ (base ≤ id ∧ id < base + 16)) G σ' a' w' → K a' w') : StepOK P ops Q o K a w := by
  obtain ⟨t, x, y, ti, ob, ho, ht, hob, hg, hd, rfl⟩ := eStep_spec hq
  unfold eObj at hob
  split at hob
  · rename_i id' off hx
    split at hob
    · rename_i cs hid
      split at hob
      · rename_i h1 h2
        injection hob with hob
        injection hob with e1 e2
        subst e1 e2
        simp only [Bool.and_eq_true] at h1
        exact wStep_var hc hg hd ho ht h hx rfl hid (Nat.eq_of_beq_eq_true h1.1) h1.2 (Nat.le_of_ble_eq_true h2) hnext hK
      · cases hob
    · cases hob
  · rename_i id' esz i off hx
    split at hob
    · rename_i e esz' len get hid
      split at hob
      · rename_i h1 h2 h4
        injection hob with hob
        injection hob with e1 e2
        subst e1 e2
        simp only [Bool.and_eq_true] at h1 h2
        have e1 := Nat.eq_of_beq_eq_true h1.1.1
        have e5 := Nat.eq_of_beq_eq_true h1.1.2
        have e6 := Nat.eq_of_beq_eq_true h1.2
        subst e1
        have hsz := Nat.eq_of_beq_eq_true h2.1
        refine wStep_row hc hg hd ho ht h hx rfl hid hsz h2.2 (by omega) h4 hnext _ (fun j hj => by simp [Row.set_at, hj]) (by simp [Row.set_at]; omega) (fun jj hjj => ?_) hK
        rw [if_pos (by omega)]
        simp [Row.set_at, e6]
      · cases hob
    · rename_i e esz' l cs hid
      split at hob
      · rename_i h1 h2 h3
        injection hob with hob
        injection hob with e1 e2
        subst e1 e2
        simp only [Bool.and_eq_true] at h2
        have e1 := Nat.eq_of_beq_eq_true h1
        subst e1
        exact wStep_arr hc hg hd ho ht h hx rfl hid (Nat.eq_of_beq_eq_true h2.1) h2.2 (Nat.le_of_ble_eq_true h3) hnext hK
      · cases hob
    · cases hob
  · cases hob
theorem wpAny_headG {cfg : Cfg} (hc : CfgOK P cfg) {ops : Array Oper} {m : Nat} (hm : m ≤ ops.size) {s : Nat → St} {base : Nat} {tg : Nat → Option Nat} {obj : Nat → Nat → Option O} {Q : Exit → Act → World → Prop}
    (hhead : headOk (ops.toList.take m) ops = true) (htw : m < ops.size → ∀ listed, HeadInv .any ops m listed → ∀ j, j < m → listed.getD j true = false → ∀ t, m ≤ t → t ∉ Region.ready .any ops listed) (haf : aftersOk ops = true) (h0 : (s 0).grds = [])
    (hs : ∀ i o, (ops.toList.take m)[i]? = some o → HStep cfg (obj i) ops (base + 16 * i) (tg i) o (s i) (s (i + 1)))
    (hoi : OwnOK (ops.toList.take m) base tg)
    (hobj0 : ∀ i id o, obj i id = some o → (s 0).obj id = some o ∧ id < base ∧ ∀ j, tg j = some id → before2 ops i j = true) (hnext : base + 16 * ops.size ≤ (s 0).next)
    (hfin : ∀ a w (U : Nat → Prop) cv listed, SRcv B w0 U G (s m) a w cv → (∀ id, base + 16 * m ≤ id → id < base + 16 * ops.size → ¬ U id) → (∀ i, U0 i → U i) → (∀ i, U i → U0 i ∨ base ≤ i) → listed.size = ops.size → (∀ j, j < ops.size → listed.getD j false = decide (j < m)) → wpAny P .any ops Q (ops.size - m) listed a w) :
    ∀ (f : Nat) (listed : Array Bool) (a : Act) (w : World) (τ : St) (U : Nat → Prop) (cv : Nat → Option Value), HeadInv .any ops m listed → listed.toList.count false = f → SRcv B w0 U G τ a w cv →
      At ops (ops.toList.take m) s base tg (fun j => listed.getD j false) τ → (∀ j, j < ops.size → listed.getD j false = false → ∀ id, base + 16 * j ≤ id → id < base + 16 * j + 16 → ¬ U id) →
      (∀ i, U0 i → U i) → (∀ i, U i → U0 i ∨ base ≤ i) → wpAny P .any ops Q f listed a w := by
  have hh := headOk_spec hhead
  have hlen : (ops.toList.take m).length = m := by simp [hm]
  have hget : ∀ i o, (ops.toList.take m)[i]? = some o ↔ i < m ∧ ops[i]? = some o := fun i o => by
    rw [List.getElem?_take]
    by_cases hi : i < m
    · simp [hi]
    · simp [hi]
  have hafl : ∀ (j : Nat) (p : Oper), (ops.toList.take m)[j]? = some p → ∀ k, k ∈ afters p → k < j := fun j p hj k' hk' => aftersOk_spec haf ((hget j p).1 hj).2 hk'
  intro f
  induction f with
  | zero =>
    intro listed a w τ U cv hinv hcnt h hat hfresh hU1 hU2
    have hall : ∀ j, j < listed.size → listed.getD j false = true := fun j hj => by
      cases hl : listed.getD j false
      · have : false ∈ listed.toList := by
          have e : listed[j] = false := by simpa [hj] using hl
          rw [← e]
          simp
        exact absurd (List.count_pos_iff.2 this) (by omega)
      · rfl
    have hmN : m = ops.size := by
      rcases Nat.lt_or_ge m ops.size with h1 | h1
      · have h2 := getD_both (hinv.tail m (Nat.le_refl _) h1)
        rw [hall m (by rw [hinv.size]; exact h1)] at h2
        cases h2
      · omega
    have hsm := h.of_at hoi hat (hlen ▸ at_text hs hh hoi hafl h0 _ (Nat.le_refl _)) fun j hj => by
      rw [hlen] at hj
      rw [hall j (by rw [hinv.size]; omega)]
      simp [hj]
    have := hfin a w U cv listed hsm (fun id h1 h2 => by omega) hU1 hU2 hinv.size fun j hj => by
      rw [hall j (by rw [hinv.size]; exact hj)]
      simp; omega
    rw [show ops.size - m = 0 by omega] at this
    exact this
  | succ f ih =>
    intro listed a w τ U cv hinv hcnt h hat hfresh hU1 hU2
    by_cases hall : ∀ j, j < m → listed.getD j false = true
    · -- the head is done
      have hlist : ∀ j, j < ops.size → listed.getD j false = decide (j < m) := fun j hj => by
        rcases Nat.lt_or_ge j m with h1 | h1
        · rw [hall j h1]; simp [h1]
        · rw [getD_both (hinv.tail j h1 hj)]; simp; omega
      have hsm := h.of_at hoi hat (hlen ▸ at_text hs hh hoi hafl h0 _ (Nat.le_refl _)) fun j hj => by
        rw [hlen] at hj
        rw [hall j hj]
        simp [hj]
      have hfi := hfin a w U cv listed hsm (fun id h1 h2 hu => by
        have hlt : (id - base) / 16 < ops.size := by omega
        exact hfresh ((id - base) / 16) hlt (by rw [hlist _ hlt]; simp; omega) id (by omega) (by omega) hu) hU1 hU2 hinv.size hlist
      have hf : f + 1 = ops.size - m := by
        rw [← hcnt]
        have : listed.toList = List.replicate m true ++ List.replicate (ops.size - m) false := by
          apply List.ext_getElem
          · simp [hinv.size]; omega
          · intro j h1 h2
            have hj : j < ops.size := by rw [← hinv.size]; simpa using h1
            have h3 := hlist j hj
            have h4 : listed.getD j false = listed[j]'(by simpa using h1) := by simp [hinv.size, hj]
            rw [h4] at h3
            rw [Array.getElem_toList, h3, List.getElem_append]
            by_cases hjm : j < m
            · simp [hjm]
            · simp [hjm]
        rw [this, List.count_append, List.count_replicate, List.count_replicate]
        simp
      rw [hf]
      exact hfi
    · -- a head operation's turn
      have hex : ∃ j, j < m ∧ listed.getD j false = false := by
        refine Classical.byContradiction fun hne => hall fun j hj => ?_
        cases hl : listed.getD j false
        · exact absurd ⟨j, hj, hl⟩ hne
        · rfl
      obtain ⟨j1, hj1, hf1⟩ := hex
      obtain ⟨k, hk, hkf, hkall⟩ := least (f := fun j => listed.getD j false) j1 hf1
      have hkN : k < ops.size := by omega
      refine ⟨fun hnil => ?_, fun i hi => ?_⟩
      · have : k ∈ Region.ready .any ops listed := by
          refine mem_ready.2 ⟨getD_in (by rw [hinv.size]; exact hkN) hkf, ops[k], Array.getElem?_eq_getElem hkN, fun e he hb => ?_⟩
          exact hkall e.on (aftersOk_spec haf (Array.getElem?_eq_getElem hkN) (mem_afters.2 ⟨e, he, hb, rfl⟩))
        rw [hnil] at this
        cases this
      · obtain ⟨hun, o, ho, hready⟩ := mem_ready.1 hi
        have hiN : i < ops.size := (Array.getElem?_eq_some_iff.1 ho).1
        have him : i < m := by
          rcases Nat.lt_or_ge i m with h1 | h1
          · exact h1
          · have hmN : m < ops.size := by omega
            exact absurd hi (htw hmN listed hinv j1 hj1 (getD_in (by rw [hinv.size]; omega) hf1) i h1)
        have hil : (ops.toList.take m)[i]? = some o := (hget i o).2 ⟨him, ho⟩
        have hLb : ∀ j, (listed.setIfInBounds i true).getD j false = true ↔ listed.getD j false = true ∨ j = i := fun j => by
          by_cases e : i = j
          · subst e
            constructor
            · intro _; exact .inr rfl
            · intro _; simp [hinv.size, hiN]
          · rw [getD_set_ne false e]
            constructor
            · intro h1; exact .inl h1
            · rintro (h1 | h1)
              · exact h1
              · exact absurd h1.symm e
        obtain ⟨τ', hq, hat'⟩ := head_step hs hh hoi h0 hat hil (getD_both hun) hafl
          (fun k' hk' => by obtain ⟨e, he, hb, rfl⟩ := mem_afters.1 hk'; exact hready e he hb)
          (fun j p hj hl k' hk' => by obtain ⟨e, he, hb, rfl⟩ := mem_afters.1 hk'; exact hinv.closed j p ((hget j p).1 hj).2 hl e he hb) hLb
        have fin : ∀ (a' : Act) (w' : World), SR B w0 (fun id => U id ∨ (base + 16 * i ≤ id ∧ id < base + 16 * i + 16)) G τ' a' w' → wpAny P .any ops Q f (listed.setIfInBounds i true) a' w' := by
          intro a' w' hs'
          obtain ⟨cv', hs'⟩ := hs'
          refine ih _ a' w' τ' _ cv' (hinv.set hi him) ?_ hs' hat' (fun j hj hl id h1 h2 => ?_) (fun i' hi' => .inl (hU1 i' hi')) (fun i' hi' => ?_)
          · have hlt : i < listed.toList.length := by simp [hinv.size, hiN]
            have e : listed.toList[i] = false := by have := getD_both hun; simpa [hinv.size, hiN] using this
            rw [Array.toList_setIfInBounds, List.count_set hlt, hcnt, e]
            simp
          · have hji : i ≠ j := fun e => by subst e; rw [(hLb i).2 (.inr rfl)] at hl; cases hl
            rw [getD_set_ne false hji] at hl
            rintro (hu | hu)
            · exact hfresh j hj hl id h1 h2 hu
            · omega
          · rcases hi' with h1 | h1
            · exact hU2 i' h1
            · exact .inr (by omega)
        rcases hq with ⟨_, _, hq⟩ | ⟨_, id0, htg, hq⟩
        · refine StepOK.wpOp ho (qStep_sound hc h hq rfl (fun id o' hid => ?_) (fun id h1 h2 => hfresh i hiN (getD_both hun) id h1 h2) (by rw [hat.next]; omega) fun a' w' hs' => fin a' w' hs')
          obtain ⟨k1, k2, k3⟩ := hobj0 i id o' hid
          rw [hat.m1 id fun j p hj hl hb => by
            rcases hb with hb | hb
            · omega
            · have hun' := getD_both hun
              have hb2 := k3 j hb
              unfold before2 at hb2
              have hcl : ∀ (j : Nat) (p : Oper), ops[j]? = some p → j < m → listed.getD j false = true → ∀ k, k ∈ afters p → listed.getD k false = true := fun j p hp _ hl k hk => by
                obtain ⟨e, he, hbn, rfl⟩ := mem_afters.1 hk
                exact hinv.closed j p hp hl e he hbn
              have hj' := (hget j p).1 hj
              rw [hj'.2] at hb2
              simp only [Bool.or_eq_true] at hb2
              rcases hb2 with hb2 | hb2
              · rw [hcl j p hj'.2 hj'.1 hl i (memNat_mem hb2)] at hun'; cases hun'
              · obtain ⟨k, hk, hw⟩ := List.any_eq_true.1 hb2
                have hkl := hcl j p hj'.2 hj'.1 hl k hk
                have hkj := aftersOk_spec haf hj'.2 hk
                unfold waits at hw
                split at hw
                · rename_i q hq2
                  rw [hcl k q hq2 (by omega) hkl i (memNat_mem hw)] at hun'; cases hun'
                · cases hw]
          exact k1
        · exact StepOK.wpOp ho (eStep_sound hc h hq (by rw [hat.next]; omega) fun a' w' hs' => fin a' w' hs')
theorem wpAny_head {cfg : Cfg} (hc : CfgOK P cfg) {ops : Array Oper} {m : Nat} (hm : m ≤ ops.size) {s : Nat → St} {base : Nat} {tg : Nat → Option Nat} {obj : Nat → Nat → Option O} {Q : Exit → Act → World → Prop}
    (hhead : headOk (ops.toList.take m) ops = true) (htail : tailOk ops m = true) (haf : aftersOk ops = true) (h0 : (s 0).grds = [])
    (hs : ∀ i o, (ops.toList.take m)[i]? = some o → HStep cfg (obj i) ops (base + 16 * i) (tg i) o (s i) (s (i + 1)))
    (hoi : OwnOK (ops.toList.take m) base tg)
    (hobj0 : ∀ i id o, obj i id = some o → (s 0).obj id = some o ∧ id < base ∧ ∀ j, tg j = some id → before2 ops i j = true) (hnext : base + 16 * ops.size ≤ (s 0).next)
    (hfin : ∀ a w (U : Nat → Prop) cv, SRcv B w0 U G (s m) a w cv → (∀ id, base + 16 * m ≤ id → id < base + 16 * ops.size → ¬ U id) → (∀ i, U0 i → U i) → (∀ i, U i → U0 i ∨ base ≤ i) → wpList P ops Q (ops.toList.drop m) a w) :
    ∀ (f : Nat) (listed : Array Bool) (a : Act) (w : World) (τ : St) (U : Nat → Prop) (cv : Nat → Option Value), HeadInv .any ops m listed → listed.toList.count false = f → SRcv B w0 U G τ a w cv →
      At ops (ops.toList.take m) s base tg (fun j => listed.getD j false) τ → (∀ j, j < ops.size → listed.getD j false = false → ∀ id, base + 16 * j ≤ id → id < base + 16 * j + 16 → ¬ U id) →
      (∀ i, U0 i → U i) → (∀ i, U i → U0 i ∨ base ≤ i) → wpAny P .any ops Q f listed a w := by
  refine wpAny_headG hc hm hhead (fun hmN listed hinv j hj hl => ?_) haf h0 hs hoi hobj0 hnext fun a w U cv listed h1 h2 h3 h4 h5 h6 => ?_
  · have ht := tailOk_spec htail hmN
    exact tail_waits ht.1 ht.2 hmN hinv _ j rfl hj hl
  · rw [show ops.size - m = (ops.toList.drop m).length by simp]
    refine wpAny_of_seq _ m listed a w (fun j => by simp [List.getElem?_drop]) ?_ (hfin a w U cv h1 h2 h3 h4)
    rw [show (ops.toList.drop m).length = ops.size - m by simp]
    refine seqB_tail haf (m := m) (fun t k1 k2 => ?_) _ m listed (by omega) (Nat.le_refl _) h5 h6
    have hch := (tailOk_spec htail (by omega)).2
    have := List.all_eq_true.1 hch t (List.mem_range.2 k2)
    simp only [Bool.or_eq_true, decide_eq_true_eq] at this
    rcases this with h3 | h3
    · omega
    · exact h3
end
end Go.Fw

/-
  Drawn regions whose call in place is followed by two operations in any order.
-/
namespace Go.Fw
variable [XS]
open Go.RowKit (Below)
omit [XS] in
theorem sink_waits {ops : Array Oper} {n : Nat} {listed : Array Bool} (hs : (List.range n).all (fun i => (List.range (n + 1)).any fun j => Nat.blt i j && waits ops j i) = true) (hn : n < ops.size) (inv : HeadInv .any ops n listed) :
    ∀ (d i : Nat), n - i = d → i < n → listed.getD i true = false → n ∉ Region.ready .any ops listed := by
  intro d
  induction d using Nat.strongRecOn with
  | _ d ih =>
    intro i hd hi hun hr
    obtain ⟨_, ot, hot, hall⟩ := mem_ready.1 hr
    have h1 := List.all_eq_true.1 hs i (List.mem_range.2 hi)
    obtain ⟨j, hj, hj2⟩ := List.any_eq_true.1 h1
    simp only [Bool.and_eq_true, Nat.blt_eq] at hj2
    obtain ⟨oj, hoj, e, he, hb, hon⟩ := Region.waitsFor_spec (waits_spec hj2.2)
    have hjle : j ≤ n := by have := List.mem_range.1 hj; omega
    by_cases hjt : j = n
    · subst hjt
      have : oj = ot := Option.some.inj (hoj.symm.trans hot)
      subst this
      have h2 := hall e he hb
      rw [hon, getD_both hun] at h2
      cases h2
    · cases hl : listed.getD j false with
      | true =>
        have h2 := inv.closed j oj hoj hl e he hb
        rw [hon, getD_both hun] at h2
        cases h2
      | false =>
        have hjs : j < listed.size := by rw [inv.size]; omega
        exact ih (n - j) (by omega) j rfl (by omega) (getD_in hjs hl) hr
structure Tail3 (ops : Array Oper) (k : Nat) : Prop where
  size : k + 3 ≤ ops.size
  pair : pairAt ops (k + 1) = true
  w1 : waits ops (k + 1) k = true
  w2 : waits ops (k + 2) k = true
  w3 : k + 3 < ops.size → waits ops (k + 3) (k + 1) = true ∧ waits ops (k + 3) (k + 2) = true
  sink : (List.range k).all (fun i => (List.range (k + 1)).any fun j => Nat.blt i j && waits ops j i) = true
  chain : ∀ t, k + 3 < t → t < ops.size → waits ops t (t - 1) = true
omit [XS] in
theorem tail3_spec {ops : Array Oper} {k : Nat} (h : tail3Ok ops k = true) : Tail3 ops k := by
  unfold tail3Ok at h
  simp only [Bool.and_eq_true, Bool.or_eq_true, Nat.ble_eq, Nat.beq_eq] at h
  obtain ⟨⟨⟨⟨⟨⟨h1, h2⟩, h3⟩, h4⟩, h5⟩, h6⟩, h7⟩ := h
  refine ⟨h1, h2, h3, h4, fun hk => ?_, h6, fun t ht1 ht2 => ?_⟩
  · rcases h5 with h5 | h5
    · omega
    · exact h5
  · have := List.all_eq_true.1 h7 t (List.mem_range.2 ht2)
    simp only [Bool.or_eq_true, Nat.ble_eq] at this
    rcases this with h | h
    · omega
    · exact h
omit [XS] in
theorem Tail3.waitsB {ops : Array Oper} {k : Nat} (h : Tail3 ops k) {t : Nat} (h1 : k < t) (h2 : t < ops.size) : ∃ s, k ≤ s ∧ s < t ∧ waits ops t s = true := by
  by_cases e1 : t = k + 1
  · subst e1; exact ⟨k, Nat.le_refl _, by omega, h.w1⟩
  by_cases e2 : t = k + 2
  · subst e2; exact ⟨k, Nat.le_refl _, by omega, h.w2⟩
  by_cases e3 : t = k + 3
  · subst e3; exact ⟨k + 1, by omega, by omega, (h.w3 h2).1⟩
  · exact ⟨t - 1, by omega, by omega, h.chain t (by omega) h2⟩
omit [XS] in
theorem not_ready {ops : Array Oper} {listed : Array Bool} {t s : Nat} (hw : waits ops t s = true) (hl : listed.getD s false = false) : t ∉ Region.ready .any ops listed := fun hr => by
  obtain ⟨_, o, ho, hall⟩ := mem_ready.1 hr
  obtain ⟨o', ho', e, he, hb, hon⟩ := Region.waitsFor_spec (waits_spec hw)
  rw [ho] at ho'
  injection ho' with ho'
  subst ho'
  have := hall e he hb
  rw [hon, hl] at this
  cases this
omit [XS] in
theorem tail3_waits {ops : Array Oper} {k : Nat} (h : Tail3 ops k) {listed : Array Bool} (inv : HeadInv .any ops k listed) {j : Nat} (hj : j < k) (hl : listed.getD j true = false) : ∀ t, k ≤ t → t ∉ Region.ready .any ops listed := fun t ht => by
  have hk := h.size
  by_cases e : t = k
  · subst e; exact sink_waits h.sink (by omega) inv _ j rfl hj hl
  · by_cases ht2 : t < ops.size
    · obtain ⟨s, s1, s2, s3⟩ := h.waitsB (by omega) ht2
      exact not_ready s3 (getD_both (inv.tail s s1 (by omega)))
    · intro hr
      obtain ⟨_, o, ho, _⟩ := mem_ready.1 hr
      exact ht2 (Array.getElem?_eq_some_iff.1 ho).1
omit [XS] in
theorem extract_q {cfg : Cfg} {obj : Nat → Option O} {own : Nat → Bool} {base : Nat} {ops : Array Oper} {o : Oper} {c : Bool} {σ σ' : St} {t i d : Nat} (h : qStep cfg obj own base ops o σ = some (c, σ')) (ho : o.op = .extract (.tmp t) i) (hd : o.dst = some d) (hg : guardOf ops o = some none) :
    ∃ vs v, restr (looks ops o) σ.get0 t = .tup vs ∧ vs[i]? = some v ∧ σ' = { σ with tmps := (d, v) :: σ.tmps } := by
  unfold qStep qVal at h
  rw [hg] at h
  simp only [isPick, ho, evalX, evalNew, evalQ, opd] at h
  split at h
  · cases h
  · rename_i r hr
    split at hr
    · cases hr
    · rename_i c' a' os' hx
      split at hx
      · rename_i vs hvs
        split at hx
        · rename_i v hv
          simp only [Option.some.injEq, Prod.mk.injEq] at hx hr
          obtain ⟨rfl, rfl, rfl⟩ := hx
          subst hr
          simp only [qPut, idsOk, hd, St.addObjs, List.nil_append, St.put] at h
          split at h
          · rename_i σ2 h2
            split at h2
            · simp only [Option.some.injEq, Prod.mk.injEq] at h h2
              obtain ⟨_, rfl⟩ := h
              exact ⟨vs, v, hvs, hv, h2.symm⟩
            · cases h2
          · cases h
        · cases hx
      · cases hx
omit [XS] in
theorem pairAt_spec {ops : Array Oper} {p : Nat} (h : pairAt ops p = true) : ∃ o o' c i c' i' d d', ops[p]? = some o ∧ ops[p + 1]? = some o' ∧ o.op = .extract (.tmp c) i ∧ o'.op = .extract (.tmp c') i' ∧ o.dst = some d ∧ o'.dst = some d' ∧ guardOf ops o = some none ∧ guardOf ops o' = some none ∧ d ≠ d' ∧ d ≠ c' ∧ d' ≠ c := by
  unfold pairAt at h
  split at h
  · rename_i o o' h1 h2
    split at h
    · rename_i c i c' i' d d' h3 h4 h5 h6
      split at h
      · rename_i h7 h8
        simp only [Bool.and_eq_true, Bool.not_eq_true'] at h
        refine ⟨o, o', c, i, c', i', d, d', h1, h2, h3, h4, h5, h6, h7, h8, ?_, ?_, ?_⟩
        · intro e; subst e; rw [Nat.beq_refl] at h; exact absurd h.1.1 (by decide)
        · intro e; subst e; rw [Nat.beq_refl] at h; exact absurd h.1.2 (by decide)
        · intro e; subst e; rw [Nat.beq_refl] at h; exact absurd h.2 (by decide)
      · cases h
    · cases h
  · cases h
omit [XS] in
theorem get0_put {σ : St} {d t : Nat} {v : A} (h : t ≠ d) : ({ σ with tmps := (d, v) :: σ.tmps } : St).get0 t = σ.get0 t := by
  unfold St.get0 St.get
  simp only
  rw [look_cons_other v σ.tmps h]
omit [XS] in
theorem pair_same {cfg : Cfg} {own : Nat → Bool} {obj1 obj2 obj3 obj4 : Nat → Option O} {b b' : Nat} {ops : Array Oper} {p : Nat} {o o' : Oper} {σ σ1 σ2 τ1 τ2 : St} {c1 c2 c3 c4 : Bool} (hp : pairAt ops p = true) (ho : ops[p]? = some o) (ho' : ops[p + 1]? = some o')
    (h1 : qStep cfg obj1 own b ops o σ = some (c1, σ1)) (h2 : qStep cfg obj2 own b' ops o' σ1 = some (c2, σ2)) (h3 : qStep cfg obj3 own b' ops o' σ = some (c3, τ1)) (h4 : qStep cfg obj4 own b ops o τ1 = some (c4, τ2)) :
    σ2.n = τ2.n ∧ σ2.lo = τ2.lo ∧ σ2.next = τ2.next ∧ (∀ t, look σ2.tmps t = look τ2.tmps t) ∧ (∀ t, grdAt σ2.grds t = grdAt τ2.grds t) ∧ (∀ id, σ2.obj id = τ2.obj id) ∧ (σ1.n = σ.n ∧ σ1.lo = σ.lo ∧ σ1.next = σ.next ∧ ∀ id, σ1.obj id = σ.obj id) ∧ (τ1.n = σ.n ∧ τ1.lo = σ.lo ∧ τ1.next = σ.next ∧ ∀ id, τ1.obj id = σ.obj id) ∧ (σ2.n = σ.n ∧ σ2.lo = σ.lo ∧ σ2.next = σ.next ∧ σ2.grds = σ.grds) := by
  obtain ⟨q, q', c, i, c', i', d, d', e1, e2, e3, e4, e5, e6, e7, e8, n1, n2, n3⟩ := pairAt_spec hp
  rw [ho] at e1
  rw [ho'] at e2
  injection e1 with e1
  injection e2 with e2
  subst e1 e2
  obtain ⟨vs, v, g1, g2, rfl⟩ := extract_q h1 e3 e5 e7
  obtain ⟨vs', v', g3, g4, rfl⟩ := extract_q h2 e4 e6 e8
  obtain ⟨us', u', g5, g6, rfl⟩ := extract_q h3 e4 e6 e8
  obtain ⟨us, u, g7, g8, rfl⟩ := extract_q h4 e3 e5 e7
  have k1 : restr (looks ops o') ({ σ with tmps := (d, v) :: σ.tmps } : St).get0 c' = restr (looks ops o') σ.get0 c' := by
    unfold restr
    rw [get0_put (fun e => n2 e.symm)]
  have k2 : restr (looks ops o) ({ σ with tmps := (d', u') :: σ.tmps } : St).get0 c = restr (looks ops o) σ.get0 c := by
    unfold restr
    rw [get0_put (fun e => n3 e.symm)]
  rw [k1, g5] at g3
  rw [k2, g1] at g7
  injection g3 with g3
  injection g7 with g7
  subst g3 g7
  rw [g6] at g4
  rw [g2] at g8
  injection g4 with g4
  injection g8 with g8
  subst g4 g8
  refine ⟨rfl, rfl, rfl, fun t => ?_, fun _ => rfl, fun _ => rfl, ⟨rfl, rfl, rfl, fun _ => rfl⟩, ⟨rfl, rfl, rfl, fun _ => rfl⟩, rfl, rfl, rfl, rfl⟩
  by_cases t1 : t = d
  · subst t1
    simp only
    rw [look_cons_other _ _ n1, look_cons_same, look_cons_same]
  · by_cases t2 : t = d'
    · subst t2
      simp only
      rw [look_cons_same, look_cons_other _ _ t1, look_cons_same]
    · simp only
      rw [look_cons_other _ _ t2, look_cons_other _ _ t1, look_cons_other _ _ t1, look_cons_other _ _ t2]
section
variable {P : Program} {B : Nat} {w0 : World} {U : Nat → Prop} {G : Value → A → Prop} {σ : St} {a : Act} {w : World} {cv : Nat → Option Value}
omit [XS] in
theorem setT {listed : Array Bool} {n i j : Nat} (hs : listed.size = n) (hi : i < n) : (listed.setIfInBounds i true).getD j false = (listed.getD j false || decide (j = i)) := by
  by_cases e : i = j
  · subst e; simp [hs, hi]
  · rw [getD_set_ne false e]
    rw [decide_eq_false (fun h => e h.symm), Bool.or_false]
theorem tail3_sound {cfg : Cfg} (hc : CfgOK P cfg) {ex : Code → St → T} (hex : ExOK P ex) {own : Nat → Bool} {ops : Array Oper} {k base : Nat} {L : XK → St → Prop} {Q : Exit → Act → World → Prop} (h3 : Tail3 ops k) (haf : aftersOk ops = true)
    (h : SRcv B w0 U G σ a w cv) (hok : (run3 cfg own ex ops base k σ).Ok P L) (hfresh : ∀ id, base + 16 * k ≤ id → id < base + 16 * ops.size → ¬ U id) (hnext : base + 16 * ops.size ≤ σ.next)
    (hQ : ∀ σ' a' w' (U' : Nat → Prop), L .normal σ' → (∀ i, U i → U' i) → (∀ i, U' i → U i ∨ base + 16 * k ≤ i) → SR B w0 U' G σ' a' w' → σ'.n = σ.n → σ'.lo = σ.lo → σ.next ≤ σ'.next → σ'.grds = [] → Q .normal a' w')
    {listed : Array Bool} (hsz : listed.size = ops.size) (hl : ∀ j, j < ops.size → listed.getD j false = decide (j < k)) : wpAny P .any ops Q (ops.size - k) listed a w := by
  have hk := h3.size
  unfold run3 at hok
  split at hok
  rotate_left
  · exact hok.elim
  rename_i o ho
  have hok' := T.Ok.of_bind hok
  have below : ∀ j p, ops[j]? = some p → ∀ e ∈ p.after, Region.binds .any e = true → e.on < j := fun j p hp e he hb => aftersOk_spec haf hp (mem_afters.2 ⟨e, he, hb, rfl⟩)
  have lt_of : ∀ {i : Nat} {l : Array Bool}, i ∈ Region.ready .any ops l → i < ops.size ∧ l.getD i false = false := fun {i l} hi => by
    obtain ⟨h1, o, ho, _⟩ := mem_ready.1 hi
    exact ⟨(Array.getElem?_eq_some_iff.1 ho).1, getD_both h1⟩
  have in_ready : ∀ {i : Nat} {l : Array Bool}, l.size = ops.size → i < ops.size → l.getD i false = false → (∀ j, j < i → (∃ p, ops[i]? = some p ∧ j ∈ afters p) → l.getD j false = true) → i ∈ Region.ready .any ops l := fun {i l} hls hi hli hall => by
    refine mem_ready.2 ⟨getD_in (by omega) hli, ops[i], Array.getElem?_eq_getElem hi, fun e he hb => ?_⟩
    exact hall e.on (below i _ (Array.getElem?_eq_getElem hi) e he hb) ⟨_, Array.getElem?_eq_getElem hi, mem_afters.2 ⟨e, he, hb, rfl⟩⟩
  obtain ⟨g, hg⟩ : ∃ g, ops.size - k = g + 1 + 1 + 1 := ⟨ops.size - k - 3, by omega⟩
  rw [hg]
  have r1 : k ∈ Region.ready .any ops listed := in_ready hsz (by omega) (by rw [hl k (by omega)]; simp) fun j hj _ => by rw [hl j (by omega)]; simpa using hj
  refine ⟨fun hnil => (by rw [hnil] at r1; cases r1), fun i hi => ?_⟩
  have hik : i = k := by
    obtain ⟨i1, i2⟩ := lt_of hi
    rw [hl i i1] at i2
    have i2 : ¬ i < k := by simpa using i2
    by_cases e : i = k
    · exact e
    · obtain ⟨s, s1, s2, s3⟩ := h3.waitsB (t := i) (by omega) i1
      exact absurd hi (not_ready s3 (by rw [hl s (by omega)]; simp; omega))
  subst hik
  refine StepOK.wpOp ho (stepOp_sound hc hex h hok' (fun id h1 h2 => hfresh id h1 (by omega)) (by omega) fun x σ1 a1 w1 U1 hl1 u1 u2 hs1 n1 n2 n3 => ?_)
  obtain ⟨cv1, hs1⟩ := hs1
  unfold runPair at hl1
  split at hl1
  rotate_left
  · exact hl1.elim
  rename_i o1 o2 ho1 ho2 hgr
  split at hl1
  rotate_left
  · exact hl1.elim
  rename_i c1 σ2 c3 τ2 q1 q3
  split at hl1
  rotate_left
  · exact hl1.elim
  rename_i c2 σ3 c4 τ3 q2 q4
  have hcc : (c1 && c2 && c3 && c4) = true := by
    cases hcc : (c1 && c2 && c3 && c4)
    · rw [hcc] at hl1; exact (hl1.2 rfl).elim
    · rfl
  have hl1 := hl1.1 hcc
  simp only [Bool.and_eq_true] at hcc
  obtain ⟨⟨⟨hc1, hc2⟩, hc3⟩, hc4⟩ := hcc
  obtain ⟨p1, p2, p3, p4, p5, p6, ⟨m1, m2, m3, m4⟩, ⟨l1, l2, l3, l4⟩, ⟨v1, v2, v3, v4⟩⟩ := pair_same h3.pair ho1 ho2 q1 q2 q3 q4
  have fresh1 : ∀ id, base + 16 * (i + 1) ≤ id → id < base + 16 * ops.size → ¬ U1 id := fun id e1 e2 hu => by
    rcases u2 id hu with e3 | e3 | e3
    · exact hfresh id (by omega) e2 e3
    · omega
    · omega
  have hsz1 : (listed.setIfInBounds i true).size = ops.size := by simpa using hsz
  have hl' : ∀ j, j < ops.size → (listed.setIfInBounds i true).getD j false = decide (j < i + 1) := fun j hj => by
    rw [setT hsz (by omega), hl j hj, ← Bool.decide_or]
    congr 1
    apply propext
    omega
  have done : ∀ (a' : Act) (w' : World) (U' : Nat → Prop) (listed' : Array Bool), SR B w0 U' G σ3 a' w' → (∀ id, U1 id → U' id) → (∀ id, U' id → U1 id ∨ (base + 16 * (i + 1) ≤ id ∧ id < base + 16 * (i + 3))) → listed'.size = ops.size → (∀ j, j < ops.size → listed'.getD j false = decide (j < i + 3)) → wpAny P .any ops Q g listed' a' w' := by
    intro a' w' U' listed' hs' f1 f2 f3 f4
    obtain ⟨cv', hs'⟩ := hs'
    have hdl : (ops.toList.drop (i + 3)).length = ops.size - (i + 3) := by simp
    have hw : wpList P ops Q (ops.toList.drop (i + 3)) a' w' := by
      refine runOps_sound hc hex (ops.toList.drop (i + 3)) (base + 16 * (i + 3)) σ3 U' a' w' cv' hs' hl1 (fun id e1 e2 hu => ?_) (by rw [hdl, v3]; omega) fun σ' a'' w'' U'' hL k1 k2 k3 k4 k5 k6 k7 => ?_
      · rw [hdl] at e2
        rcases f2 id hu with e3 | e3
        · exact fresh1 id (by omega) (by omega) e3
        · omega
      · refine hQ σ' a'' w'' U'' hL (fun id hu => k1 id (f1 id (u1 id hu))) (fun id hu => ?_) k3 (by rw [k4, v1, n1]) (by rw [k5, v2, n2]) (by omega) k7
        rcases k2 id hu with e | e
        · rcases f2 id e with e | e
          · rcases u2 id e with e | e | e
            · exact .inl e
            · exact .inr (by omega)
            · exact .inr (by omega)
          · exact .inr (by omega)
        · exact .inr (by omega)
    have := wpAny_of_seq (ops.toList.drop (i + 3)) (i + 3) listed' a' w' (fun j => by simp [List.getElem?_drop]) (by
      rw [hdl]
      refine seqB_tail haf (m := i + 3) (fun t e1 e2 => waits_spec (h3.chain t e1 e2)) _ (i + 3) listed' (by omega) (Nat.le_refl _) f3 f4) hw
    rw [hdl, show ops.size - (i + 3) = g by omega] at this
    exact this
  have r2 : i + 1 ∈ Region.ready .any ops (listed.setIfInBounds i true) := in_ready hsz1 (by omega) (by rw [hl' _ (by omega)]; simp) fun j hj _ => by rw [hl' j (by omega)]; simpa using hj
  refine ⟨fun hnil => (by rw [hnil] at r2; cases r2), fun j hj => ?_⟩
  have hj2 : j = i + 1 ∨ j = i + 2 := by
    obtain ⟨i1, i2⟩ := lt_of hj
    rw [hl' j i1] at i2
    have i2 : ¬ j < i + 1 := by simpa using i2
    by_cases e3 : j = i + 1
    · exact .inl e3
    by_cases e4 : j = i + 2
    · exact .inr e4
    by_cases e5 : j = i + 3
    · subst e5
      exact absurd hj (not_ready (h3.w3 i1).1 (by rw [hl' _ (by omega)]; simp))
    · exact absurd hj (not_ready (h3.chain j (by omega) i1) (by rw [hl' _ (by omega)]; simp; omega))
  rcases hj2 with e | e
  · -- the first one first
    subst e
    refine StepOK.wpOp ho1 (qStep_sound hc hs1 q1 hc1 (fun _ _ h => h) (fun id e1 e2 => fresh1 id e1 (by omega)) (by omega) fun a2 w2 hs2 => ?_)
    obtain ⟨cv2, hs2⟩ := hs2
    have hsz2 : ((listed.setIfInBounds i true).setIfInBounds (i + 1) true).size = ops.size := by simpa using hsz
    have hl2 : ∀ j, j < ops.size → ((listed.setIfInBounds i true).setIfInBounds (i + 1) true).getD j false = decide (j < i + 2) := fun j hj => by
      rw [setT hsz1 (by omega), hl' j hj, ← Bool.decide_or]
      congr 1
      apply propext
      omega
    have r3 : i + 2 ∈ Region.ready .any ops ((listed.setIfInBounds i true).setIfInBounds (i + 1) true) := in_ready hsz2 (by omega) (by rw [hl2 _ (by omega)]; simp) fun j hj _ => by rw [hl2 j (by omega)]; simpa using hj
    refine ⟨fun hnil => (by rw [hnil] at r3; cases r3), fun j hj => ?_⟩
    have hj3 : j = i + 2 := by
      obtain ⟨i1, i2⟩ := lt_of hj
      rw [hl2 j i1] at i2
      have i2 : ¬ j < i + 2 := by simpa using i2
      by_cases e4 : j = i + 2
      · exact e4
      by_cases e5 : j = i + 3
      · subst e5
        exact absurd hj (not_ready (h3.w3 i1).2 (by rw [hl2 _ (by omega)]; simp))
      · exact absurd hj (not_ready (h3.chain j (by omega) i1) (by rw [hl2 _ (by omega)]; simp; omega))
    subst hj3
    refine StepOK.wpOp ho2 (qStep_sound hc hs2 q2 hc2 (fun _ _ h => h) (fun id e1 e2 hu => ?_) (by rw [m3]; omega) fun a3 w3 hs3 => ?_)
    · rcases hu with hu | hu
      · exact fresh1 id (by omega) (by omega) hu
      · omega
    · refine done a3 w3 _ _ hs3 (fun id hu => .inl (.inl hu)) (fun id hu => ?_) (by simpa using hsz) fun j hj => ?_
      · rcases hu with (hu | hu) | hu
        · exact .inl hu
        · exact .inr (by omega)
        · exact .inr (by omega)
      · rw [setT hsz2 (by omega), hl2 j hj, ← Bool.decide_or]
        congr 1
        apply propext
        omega
  · -- the second one first
    subst e
    refine StepOK.wpOp ho2 (qStep_sound hc hs1 q3 hc3 (fun _ _ h => h) (fun id e1 e2 => fresh1 id (by omega) (by omega)) (by omega) fun a2 w2 hs2 => ?_)
    obtain ⟨cv2, hs2⟩ := hs2
    have hsz2 : ((listed.setIfInBounds i true).setIfInBounds (i + 2) true).size = ops.size := by simpa using hsz
    have hl2 : ∀ j, j < ops.size → ((listed.setIfInBounds i true).setIfInBounds (i + 2) true).getD j false = decide (j < i + 1 ∨ j = i + 2) := fun j hj => by
      rw [setT hsz1 (by omega), hl' j hj, ← Bool.decide_or]
    have r3 : i + 1 ∈ Region.ready .any ops ((listed.setIfInBounds i true).setIfInBounds (i + 2) true) := in_ready hsz2 (by omega) (by rw [hl2 _ (by omega)]; simp) fun j hj _ => by
      rw [hl2 j (by omega)]
      simp; omega
    refine ⟨fun hnil => (by rw [hnil] at r3; cases r3), fun j hj => ?_⟩
    have hj3 : j = i + 1 := by
      obtain ⟨i1, i2⟩ := lt_of hj
      rw [hl2 j i1] at i2
      have i2 : ¬ (j < i + 1 ∨ j = i + 2) := by simpa using i2
      by_cases e4 : j = i + 1
      · exact e4
      by_cases e5 : j = i + 3
      · subst e5
        exact absurd hj (not_ready (h3.w3 i1).1 (by rw [hl2 _ (by omega)]; simp))
      · exact absurd hj (not_ready (h3.chain j (by omega) i1) (by rw [hl2 _ (by omega)]; simp; omega))
    subst hj3
    refine StepOK.wpOp ho1 (qStep_sound hc hs2 q4 hc4 (fun _ _ h => h) (fun id e1 e2 hu => ?_) (by rw [l3]; omega) fun a3 w3 hs3 => ?_)
    · rcases hu with hu | hu
      · exact fresh1 id (by omega) (by omega) hu
      · omega
    · obtain ⟨cv3, hs3⟩ := hs3
      refine done a3 w3 _ _ ⟨cv3, hs3.alike p1 p2 p3 p4 p5 p6⟩ (fun id hu => .inl (.inl hu)) (fun id hu => ?_) (by simpa using hsz) fun j hj => ?_
      · rcases hu with (hu | hu) | hu
        · exact .inl hu
        · exact .inr (by omega)
        · exact .inr (by omega)
      · rw [setT hsz2 (by omega), hl2 j hj, ← Bool.decide_or]
        congr 1
        apply propext
        omega
end
end Go.Fw

/-
  The executor tells the truth.
-/
namespace Go.Fw
variable [XS]
open Go.RowKit (Below)
section
variable {P : Program} {B : Nat} {w0 : World} {U : Nat → Prop} {G : Value → A → Prop} {σ : St} {a : Act} {w : World} {cv : Nat → Option Value}
theorem SRcv.grow (h : SRcv B w0 U G σ a w cv) {w' : World} (g : Grow w w') : SRcv B w0 U G σ a w' cv := by
  have hs := (CvStep.of_grow (B := B) cv g)
  have rel : ∀ {v : Value} {x : A}, Rel w cv v x ∧ Live σ.obj x → Rel w' cv v x ∧ Live σ.obj x := fun hr => ⟨hr.1.step hs fun id hid => h.mem.live (hr.2 id hid), hr.2⟩
  refine ⟨h.size, h.defers, Grow.below h.below h.hB' g, Nat.le_trans h.hB (Below.size g), h.lo, h.lon, h.used, h.mem.grow g, fun t x hx => rel (h.slot t x hx), fun t gg hg => ?_, fun v x hx => ?_⟩
  · obtain ⟨h1, h2, c, h3, h4, h5⟩ := h.grd t gg hg
    exact ⟨h1, h2, c, h3, fun hc => rel (h4 hc), h5⟩
  · have := h.ghost v x hx
    exact ⟨(rel ⟨this.1, this.2.1⟩).1, this.2.1, this.2.2⟩
theorem SRcv.raise (h : SRcv B w0 U G σ a w cv) {n : Nat} (hn : σ.next ≤ n) : SRcv B w0 U G { σ with next := n } a w cv :=
  ⟨h.size, h.defers, h.below, h.hB, fun id hid => Nat.lt_of_lt_of_le (h.lo id hid) hn, Nat.le_trans h.lon hn, h.used, h.mem, h.slot, h.grd, h.ghost⟩
theorem Out.here (h : SR B w0 U G σ a w) (hg : σ.grds = []) : Out B w0 U G σ σ a w := ⟨U, fun _ h => h, fun _ h => .inl h, h, rfl, rfl, Nat.le_refl _, hg⟩
omit [XS] in
theorem hide_spec {ops : Array Oper} {k id : Nat} {o : O} : ∀ (S : List (Nat × Nat)) (obj : Nat → Option O), hide ops k S obj id = some o → obj id = some o ∧ ∀ j, memPair id j S = true → before2 ops k j = true
  | [], obj, h => ⟨h, fun j hj => by cases hj⟩
  | p :: r, obj, h => by
    simp only [hide] at h
    cases hb : before2 ops k p.2
    · rw [hb] at h
      have := hide_spec r _ h
      cases he : Nat.beq id p.1
      · simp only [he] at this
        refine ⟨this.1, fun j hj => this.2 j ?_⟩
        simp only [memPair, he, Bool.false_and] at hj
        exact hj
      · simp only [he] at this
        cases this.1
    · rw [hb] at h
      have := hide_spec r obj h
      refine ⟨this.1, fun j hj => ?_⟩
      simp only [memPair] at hj
      split at hj
      · rename_i hm
        simp only [Bool.and_eq_true] at hm
        rw [Nat.eq_of_beq_eq_true hm.2]
        exact hb
      · exact this.2 j hj
theorem runRegion3_sound {cfg : Cfg} (hc : CfgOK P cfg) {ex : Code → St → T} (hex : ExOK P ex) {own : Nat → Bool} {id : Nat} {ops : Array Oper} {m : Nat} {L : XK → St → Prop} (hok : (runRegion3 cfg own ex ops σ.next m ({ σ with next := σ.next + 16 * ops.size } : St)).Ok P L) (h : SRcv B w0 U G σ a w cv) (hg : σ.grds = []) :
    (Code.region id ops true).wp P (fun e a' w' => ∃ x σ', e = XK.out x ∧ L x σ' ∧ Out B w0 U G σ σ' a' w') a w := by
  have hr := h.raise (n := σ.next + 16 * ops.size) (by omega)
  have hfresh : ∀ id, σ.next ≤ id → ¬ U id := fun id h1 hu => by have := h.lo id hu; omega
  unfold runRegion3 at hok
  simp only at hok
  split at hok
  rotate_left
  · exact hok.elim
  rename_i hchk
  simp only [Bool.and_eq_true] at hchk
  have t3 := tail3_spec hchk.1.2
  split at hok
  rotate_left
  · exact hok.elim
  rename_i c σh hrun
  have hct : c = true := by
    cases hcc : c
    · rw [hcc] at hok; exact (hok.2 rfl).elim
    · rfl
  subst hct
  obtain ⟨_, s, tg, hs0, hsl, hs, htS, hti⟩ := runHead_chain _ _ _ _ _ _ _ hrun
  simp only [Nat.zero_add] at hs htS
  have hok1 := hok.1 rfl
  have hm : m ≤ ops.size := by have := t3.size; omega
  have hlen : (ops.toList.take m).length = m := by simp [hm]
  rw [hlen] at hsl
  have hw := (hr.grow (w' := { w with drawn := w.drawn + 1 }) (Below.refl _ _).drew)
  have hafl : ∀ (j : Nat) (p : Oper), (ops.toList.take m)[j]? = some p → ∀ k, k ∈ afters p → k < j := fun j p hj k' hk' => by
    rw [List.getElem?_take] at hj
    split at hj
    · exact aftersOk_spec hchk.2 (by simpa using hj) hk'
    · cases hj
  have hoi : OwnOK (ops.toList.take m) σ.next tg := ownOK_of (fun id o ho => h.lo id (h.used id o ho)) (fun i id hi => (htS i id hi).2) hti
  refine wp_region_any hc.mixed ?_
  have hcn : (Array.replicate ops.size false).toList.count false = ops.size := by simp [List.count_replicate]
  rw [show wpAny P .any ops (fun e a' w' => ∃ x σ', e = XK.out x ∧ L x σ' ∧ Out B w0 U G σ σ' a' w') ops.size = wpAny P .any ops (fun e a' w' => ∃ x σ', e = XK.out x ∧ L x σ' ∧ Out B w0 U G σ σ' a' w') ((Array.replicate ops.size false).toList.count false) by rw [hcn]]
  obtain ⟨S, hSd⟩ : ∃ S, S = tgts ({ σ with next := σ.next + 16 * ops.size } : St) σ.next (ops.toList.take m) 0 (ops.toList.take m) := ⟨_, rfl⟩
  rw [← hSd] at hs htS
  refine wpAny_headG (U0 := U) (G := G) (B := B) (w0 := w0) (base := σ.next) (s := s) (tg := tg) (obj := fun k => hide ops k S σ.obj) hc hm hchk.1.1 (fun _ listed hinv j hj hl => tail3_waits t3 hinv hj hl) hchk.2 (by rw [hs0]; exact hg) hs hoi (fun i id o' ho => ?_) (by rw [hs0]; exact Nat.le_refl _) ?_ _ _ a _ (s 0) U cv ?_ rfl (by rw [hs0]; exact hw) ?_ (fun j _ _ id h1 _ => hfresh id (by omega)) (fun _ h => h) (fun _ h => .inl h)
  · have hid := hide_spec _ _ ho
    refine ⟨by rw [hs0]; exact hid.1, h.lo id (h.used id o' hid.1), fun j hj => ?_⟩
    exact hid.2 j (htS j id hj).1
  · intro a1 w1 U1 cv1 listed h1 h2 h3 h4 h5 h6
    rw [hsl] at h1
    have e1 : ∀ i, i ≤ m → (s i).n = σ.n ∧ (s i).lo = σ.lo ∧ (s i).next = σ.next + 16 * ops.size := by
      intro i
      induction i with
      | zero => intro _; rw [hs0]; exact ⟨rfl, rfl, rfl⟩
      | succ i ih =>
        intro hi
        have h5 := ih (by omega)
        have h6 := (hs i _ (List.getElem?_eq_getElem (by omega))).keep
        exact ⟨h6.1.trans h5.1, h6.2.1.trans h5.2.1, h6.2.2.trans h5.2.2⟩
    have e2 := e1 m (Nat.le_refl _)
    rw [hsl] at e2
    refine tail3_sound hc hex t3 hchk.2 h1 hok1 h2 (by rw [e2.2.2]; exact Nat.le_refl _) (fun σ' a' w' U' hl k1 k2 k3 k4 k5 k6 k7 => ?_) h5 h6
    refine ⟨.normal, σ', rfl, hl, U', fun i hi => k1 i (h3 i hi), fun i hi => ?_, k3, k4.trans e2.1, k5.trans e2.2.1, by rw [e2.2.2] at k6; omega, k7⟩
    rcases k2 i hi with h5 | h5
    · exact h4 i h5
    · exact .inr (by omega)
  · exact ⟨by simp, (fun j oj _ hl => by rw [getD_replicate_false] at hl; cases hl), fun t _ ht => getD_in (by simpa using ht) (getD_replicate_false _ _)⟩
  · have := at_text (obj := fun k => hide ops k S σ.obj) (s := s) hs (headOk_spec hchk.1.1) hoi hafl (by rw [hs0]; exact hg) 0 (Nat.zero_le _)
    refine ⟨this.n, this.lo, this.next, fun t _ => this.t1 t (fun j o _ hl => by simp at hl), fun j o t _ hl => ?_, (fun g hgm => by rw [hs0] at hgm; have hgm' : g ∈ σ.grds := hgm; rw [hg] at hgm'; cases hgm'), fun id _ => rfl, fun j o id _ hl => ?_⟩
    · rw [getD_replicate_false] at hl; cases hl
    · rw [getD_replicate_false] at hl; cases hl
theorem runRegion_sound {cfg : Cfg} (hc : CfgOK P cfg) {ex : Code → St → T} (hex : ExOK P ex) {own : Nat → Bool} {id : Nat} {ops : Array Oper} {draw : Bool} {L : XK → St → Prop} (hok : (runRegion cfg own ex ops draw σ).Ok P L) (h : SR B w0 U G σ a w) (hg : σ.grds = []) :
    (Code.region id ops draw).wp P (fun e a' w' => ∃ x σ', e = XK.out x ∧ L x σ' ∧ Out B w0 U G σ σ' a' w') a w := by
  obtain ⟨cv, h⟩ := h
  have hr := h.raise (n := σ.next + 16 * ops.size) (by omega)
  have hfresh : ∀ id, σ.next ≤ id → ¬ U id := fun id h1 hu => by have := h.lo id hu; omega
  cases draw with
  | false =>
    refine wp_region_list (runOps_sound hc hex ops.toList σ.next _ U a w cv hr hok (fun id h1 _ => hfresh id h1) (by simp) fun σ' a' w' U' hl h1 h2 h3 h4 h5 h6 h7 => ?_)
    have h6' : σ.next + 16 * ops.size ≤ σ'.next := h6
    exact ⟨.normal, σ', rfl, hl, U', h1, h2, h3, h4, h5, by omega, h7⟩
  | true =>
    unfold runRegion at hok
    simp only at hok
    split at hok
    · rename_i hchk
      simp only [Bool.and_eq_true] at hchk
      split at hok
      · rename_i c σh hrun
        have hct : c = true := by
          cases hcc : c
          · rw [hcc] at hok; exact (hok.2 rfl).elim
          · rfl
        subst hct
        obtain ⟨_, s, tg, hs0, hsl, hs, htS, hti⟩ := runHead_chain _ _ _ _ _ _ _ hrun
        simp only [Nat.zero_add] at hs htS
        have hok1 := hok.1 rfl
        generalize hm' : tailFrom (Region.before ops).toList ops.size = m at *
        have hm : m ≤ ops.size := by
          rw [← hm']
          have : ∀ (bs : List Nat) j, tailFrom bs j ≤ j := by
            intro bs j
            induction j with
            | zero => exact Nat.le_refl _
            | succ j ih =>
              simp only [tailFrom]
              split
              · omega
              · omega
          exact this _ _
        have hlen : (ops.toList.take m).length = m := by simp [hm]
        rw [hlen] at hsl
        have hw := (hr.grow (w' := { w with drawn := w.drawn + 1 }) (Below.refl _ _).drew)
        have hafl : ∀ (j : Nat) (p : Oper), (ops.toList.take m)[j]? = some p → ∀ k, k ∈ afters p → k < j := fun j p hj k' hk' => by
          rw [List.getElem?_take] at hj
          split at hj
          · exact aftersOk_spec hchk.2 (by simpa using hj) hk'
          · cases hj
        have hoi : OwnOK (ops.toList.take m) σ.next tg := ownOK_of (fun id o ho => h.lo id (h.used id o ho)) (fun i id hi => (htS i id hi).2) hti
        refine wp_region_any hc.mixed ?_
        have hcn : (Array.replicate ops.size false).toList.count false = ops.size := by simp [List.count_replicate]
        rw [show wpAny P .any ops (fun e a' w' => ∃ x σ', e = XK.out x ∧ L x σ' ∧ Out B w0 U G σ σ' a' w') ops.size = wpAny P .any ops (fun e a' w' => ∃ x σ', e = XK.out x ∧ L x σ' ∧ Out B w0 U G σ σ' a' w') ((Array.replicate ops.size false).toList.count false) by rw [hcn]]
        obtain ⟨S, hSd⟩ : ∃ S, S = tgts ({ σ with next := σ.next + 16 * ops.size } : St) σ.next (ops.toList.take m) 0 (ops.toList.take m) := ⟨_, rfl⟩
        rw [← hSd] at hs htS
        refine wpAny_head (U0 := U) (G := G) (B := B) (w0 := w0) (base := σ.next) (s := s) (tg := tg) (obj := fun k => hide ops k S σ.obj) hc hm hchk.1.1 hchk.1.2 hchk.2 (by rw [hs0]; exact hg) hs hoi (fun i id o' ho => ?_) (by rw [hs0]; exact Nat.le_refl _) ?_ _ _ a _ (s 0) U cv ?_ rfl (by rw [hs0]; exact hw) ?_ (fun j _ _ id h1 _ => hfresh id (by omega)) (fun _ h => h) (fun _ h => .inl h)
        · have hid := hide_spec _ _ ho
          refine ⟨by rw [hs0]; exact hid.1, h.lo id (h.used id o' hid.1), fun j hj => ?_⟩
          exact hid.2 j (htS j id hj).1
        · intro a1 w1 U1 cv1 h1 h2 h3 h4
          rw [hsl] at h1
          have e1 : ∀ i, i ≤ m → (s i).n = σ.n ∧ (s i).lo = σ.lo ∧ (s i).next = σ.next + 16 * ops.size := by
            intro i
            induction i with
            | zero => intro _; rw [hs0]; exact ⟨rfl, rfl, rfl⟩
            | succ i ih =>
              intro hi
              have h5 := ih (by omega)
              have h6 := (hs i _ (List.getElem?_eq_getElem (by omega))).keep
              exact ⟨h6.1.trans h5.1, h6.2.1.trans h5.2.1, h6.2.2.trans h5.2.2⟩
          have e2 := e1 m (Nat.le_refl _)
          rw [hsl] at e2
          have hdl : (ops.toList.drop m).length = ops.size - m := by simp
          refine runOps_sound hc hex (ops.toList.drop m) (σ.next + 16 * m) σh U1 a1 w1 cv1 h1 hok1 (fun id h5 h6 => h2 id h5 (by rw [hdl] at h6; omega)) (by rw [hdl, e2.2.2]; omega) fun σ' a' w' U' hl k1 k2 k3 k4 k5 k6 k7 => ?_
          refine ⟨.normal, σ', rfl, hl, U', fun i hi => k1 i (h3 i hi), fun i hi => ?_, k3, k4.trans e2.1, k5.trans e2.2.1, by rw [e2.2.2] at k6; omega, k7⟩
          rcases k2 i hi with h5 | h5
          · exact h4 i h5
          · exact .inr (by omega)
        · exact ⟨by simp, (fun j oj _ hl => by rw [getD_replicate_false] at hl; cases hl), fun t _ ht => getD_in (by simpa using ht) (getD_replicate_false _ _)⟩
        · have := at_text (obj := fun k => hide ops k S σ.obj) (s := s) hs (headOk_spec hchk.1.1) hoi hafl (by rw [hs0]; exact hg) 0 (Nat.zero_le _)
          refine ⟨this.n, this.lo, this.next, fun t _ => this.t1 t (fun j o _ hl => by simp at hl), fun j o t _ hl => ?_, (fun g hgm => by rw [hs0] at hgm; have hgm' : g ∈ σ.grds := hgm; rw [hg] at hgm'; cases hgm'), fun id _ => rfl, fun j o id _ hl => ?_⟩
          · rw [getD_replicate_false] at hl; cases hl
          · rw [getD_replicate_false] at hl; cases hl
      · exact runRegion3_sound hc hex hok h hg
    · exact hok.elim
omit [XS] in
theorem exec_sound {cfg : Cfg} (hc : CfgOK P cfg) (un : Nat) : ∀ (fuel : Nat) (own : Nat → Bool) (lp : Nat → Option (St → T)) (c : Code), LpOK P lp c → CodeOK P (exec cfg own lp un fuel) c
  | 0, _, _, _, _ => fun σ L hok => hok.elim
  | fuel + 1, own, lp, c, hlp => fun σ L hok X B w0 U G a w h hg => by
    have ih0 := exec_sound hc un fuel
    cases c with
    | skip => exact wp_skip ⟨.normal, σ, rfl, hok, Out.here h hg⟩
    | region id ops draw => exact runRegion_sound hc (fun c => ih0 _ _ c fun _ _ _ _ h => by cases h) hok h hg
    | seq x y =>
      have ih := fun c h => ih0 own lp c h
      have hx := ih x (fun id b f hb => hlp id b f (List.mem_append_left _ hb)) σ _ (T.Ok.of_bind hok) X B w0 U G a w h hg
      refine wp_seq (wp_mono hx ?_)
      rintro e a1 w1 ⟨x1, σ1, rfl, hl, ho⟩
      cases x1 with
      | normal =>
        show y.wp P _ a1 w1
        obtain ⟨U1, k1, k2, k3, k4, k5, k6, k7⟩ := ho
        have hy := ih y (fun id b f hb => hlp id b f (List.mem_append_right _ hb)) σ1 L hl X B w0 U1 G a1 w1 k3 k7
        refine wp_mono hy ?_
        rintro e2 a2 w2 ⟨x2, σ2, rfl, hl2, ho2⟩
        obtain ⟨U2, m1, m2, m3, m4, m5, m6, m7⟩ := ho2
        refine ⟨x2, σ2, rfl, hl2, U2, fun i hi => m1 i (k1 i hi), fun i hi => ?_, m3, m4.trans k4, m5.trans k5, Nat.le_trans k6 m6, m7⟩
        rcases m2 i hi with h1 | h1
        · exact k2 i h1
        · exact .inr (Nat.le_trans k6 h1)
      | ret => exact ⟨.ret, σ1, rfl, hl, ho⟩
      | exit i => exact ⟨.exit i, σ1, rfl, hl, ho⟩
    | cond o x y =>
      simp only [exec] at hok
      split at hok
      · rename_i t ht
        obtain ⟨cv, hs⟩ := h
        have hsl : Slots w cv σ.obj a σ.get := ⟨fun t => (hs.get t).1, fun t => (hs.get t).2⟩
        have hr := (hsl.opd o).1
        rw [ht] at hr
        refine wp_cond_split hr.bool_inv (fun hb => ?_) fun hb => ?_
        · exact ih0 own lp x (fun id b f hb => hlp id b f (List.mem_append_left _ hb)) σ L (hok.1 hb) X B w0 U G a w ⟨cv, hs⟩ hg
        · exact ih0 own lp y (fun id b f hb => hlp id b f (List.mem_append_right _ hb)) σ L (hok.2 hb) X B w0 U G a w ⟨cv, hs⟩ hg
      · exact hok.elim
    | block id body =>
      simp only [exec] at hok
      split at hok
      · rename_i f hf
        exact hlp id body f List.mem_cons_self hf σ L hok X B w0 U G a w h hg
      have hx := ih0 own lp body (fun id b f hb => hlp id b f (List.mem_cons_of_mem _ hb)) σ _ (T.Ok.of_bind hok) X B w0 U G a w h hg
      refine wp_block (wp_mono hx ?_)
      rintro e a1 w1 ⟨x1, σ1, rfl, hl, ho⟩
      cases x1 with
      | normal => exact ⟨.normal, σ1, rfl, hl, ho⟩
      | ret => exact ⟨.ret, σ1, rfl, hl, ho⟩
      | exit i =>
        simp only [onExit] at hl
        show Exit.inBlock id _ (.exit i) a1 w1
        simp only [Exit.inBlock]
        split at hl
        · rename_i hb
          rw [if_pos (Nat.eq_of_beq_eq_true hb)]
          exact ⟨.normal, σ1, rfl, hl, ho⟩
        · rename_i hb
          rw [if_neg (Nat.ne_of_beq_eq_false hb)]
          exact ⟨.exit i, σ1, rfl, hl, ho⟩
    | loop body =>
      simp only [exec] at hok
      split at hok
      · obtain ⟨S, hS, hk⟩ := hok
        refine wp_mono (hS X B w0 U G a w h hg) ?_
        rintro e a1 w1 ⟨x1, σ1, rfl, hl, ho⟩
        exact ⟨x1, σ1, rfl, hk _ _ hl, ho⟩
      · rename_i n
        refine wp_loop_rounds (n + 1) ?_
        have key : ∀ (k : Nat) (τ : St) (V : Nat → Prop) (b : Act) (v : World), (unroll (exec cfg own lp (n + 1) fuel body) k τ).Ok P L → SR B w0 V G τ b v → τ.grds = [] →
            Code.rounds P body (fun e a' w' => ∃ x σ', e = XK.out x ∧ L x σ' ∧ Out B w0 V G τ σ' a' w') k b v := by
          intro k
          induction k with
          | zero => intro τ V b v hok _ _; exact hok.elim
          | succ k ihk =>
            intro τ V b v hok h hg
            rw [rounds_succ]
            refine wp_mono (ih0 own lp body hlp τ _ (T.Ok.of_bind hok) X B w0 V G b v h hg) ?_
            rintro e a1 w1 ⟨x1, σ1, rfl, hl, ho⟩
            cases x1 with
            | normal =>
              show Code.rounds P body _ k a1 w1
              obtain ⟨U1, k1, k2, k3, k4, k5, k6, k7⟩ := ho
              have hr := ihk σ1 U1 a1 w1 hl k3 k7
              have mono : ∀ (j : Nat) (b : Act) (v : World) {Q1 Q2 : Exit → Act → World → Prop}, (∀ e a w, Q1 e a w → Q2 e a w) → Code.rounds P body Q1 j b v → Code.rounds P body Q2 j b v := by
                intro j
                induction j with
                | zero => intro b v Q1 Q2 _ h; exact h
                | succ j ihj =>
                  intro b v Q1 Q2 hq h
                  refine wp_mono h fun e a w he => ?_
                  cases e <;> first | exact ihj _ _ hq he | exact hq _ _ _ he
              refine mono k a1 w1 ?_ hr
              rintro e2 a2 w2 ⟨x2, σ2, rfl, hl2, U2, m1, m2, m3, m4, m5, m6, m7⟩
              refine ⟨x2, σ2, rfl, hl2, U2, fun i hi => m1 i (k1 i hi), fun i hi => ?_, m3, m4.trans k4, m5.trans k5, Nat.le_trans k6 m6, m7⟩
              rcases m2 i hi with h1 | h1
              · exact k2 i h1
              · exact .inr (Nat.le_trans k6 h1)
            | ret => exact ⟨.ret, σ1, rfl, hl, ho⟩
            | exit i => exact ⟨.exit i, σ1, rfl, hl, ho⟩
        exact key (n + 1) σ U a w hok h hg
    | exit id => exact wp_exit ⟨.exit id, σ, rfl, hok, Out.here h hg⟩
    | ret => exact wp_ret ⟨.ret, σ, rfl, hok, Out.here h hg⟩
    | _ => exact hok.elim
end
end Go.Fw

/-
  A function's contract, from its tree.
-/
namespace Go.Fw
variable [XS]
open Go.RowKit (Below)
mutual
def A.plain : A → Bool
  | .bool _ | .int .. | .flt .. | .cpx .. | .nilp | .emp | .nils => true
  | .agg cs => A.plains cs
  | .tup cs => A.plains cs
  | _ => false
def A.plains : List A → Bool
  | [] => true
  | x :: r => match x.plain with | true => A.plains r | false => false
end
omit [XS] in
theorem plains_getD : ∀ {cs : List A}, A.plains cs = true → ∀ {i : Nat}, i < cs.length → (cs.getD i .any).plain = true
  | [], _, _, hi => by simp at hi
  | x :: r, h, i, hi => by
    simp only [A.plains] at h
    split at h
    · rename_i hx
      cases i with
      | zero => exact hx
      | succ i => simp only [List.getD_cons_succ]; exact plains_getD h (by simpa using hi)
    · cases h
omit [XS] in
theorem RelD.plain {w w' : World} {S S' : Nat → Prop} {v : Value} {a : A} (h : RelD w S v a) (hp : a.plain = true) : RelD w' S' v a := by
  induction h with
  | bool b => exact .bool b
  | int k n => exact .int k n
  | flt h => exact .flt h
  | cpx h h' => exact .cpx h h'
  | nilp => exact .nilp
  | emp a => exact .emp a
  | nils => exact .nils
  | agg hs h ih => simp only [A.plain] at hp; exact .agg hs fun i hi => ih i hi (plains_getD hp hi)
  | tup hs h ih => simp only [A.plain] at hp; exact .tup hs fun i hi => ih i hi (plains_getD hp hi)
  | rop => simp [A.plain] at hp
  | ro => simp [A.plain] at hp
  | fn => simp [A.plain] at hp
mutual
def expo (obj : Nat → Option O) : A → Option A
  | .sl id _ => match obj id with
    | some (.row _ esz l get) => some (.ro esz l get)
    | _ => none
  | .agg cs => match expos obj cs with | some ds => some (.agg ds) | none => none
  | .tup cs => match expos obj cs with | some ds => some (.tup ds) | none => none
  | .bool b => some (.bool b)
  | .int k n => some (.int k n)
  | .flt k n => some (.flt k n)
  | .cpx k n m => some (.cpx k n m)
  | .nilp => some .nilp
  | .emp => some .emp
  | .nils => some .nils
  | _ => none
def expos (obj : Nat → Option O) : List A → Option (List A)
  | [] => some []
  | x :: r => match expo obj x with
    | some d => match expos obj r with
      | some ds => some (d :: ds)
      | none => none
    | none => none
end
mutual
def slIds : A → List Nat
  | .sl id _ => [id]
  | .agg cs => slIdss cs
  | .tup cs => slIdss cs
  | _ => []
def slIdss : List A → List Nat
  | [] => []
  | x :: r => slIds x ++ slIdss r
end
mutual
def rowsPlain : A → Prop
  | .ro esz len get => ∀ i j, i < len → j < esz → ((get i).cells.getD j .any).plain = true
  | .agg cs => rowsPlains cs
  | .tup cs => rowsPlains cs
  | _ => True
def rowsPlains : List A → Prop
  | [] => True
  | x :: r => rowsPlain x ∧ rowsPlains r
end
omit [XS] in
theorem rowPlainR_ok {esz len : Nat} {g : Row A} (h : rowPlainR esz g = true) : rowsPlain (.ro esz len g) := by
  intro i j _ hj
  cases g with
  | flts k xs =>
    have e := Nat.eq_of_beq_eq_true h
    have : j = 0 := by omega
    subst this; rfl
  | cpxs k xs ys =>
    have e := Nat.eq_of_beq_eq_true h
    have : j = 0 := by omega
    subst this; rfl
  | vecs k xs ys zs =>
    have e := Nat.eq_of_beq_eq_true h
    subst e
    match j, hj with
    | 0, _ => rfl
    | 1, _ => rfl
    | 2, _ => rfl
    | j + 3, hj => omega
  | flns k n xs =>
    have e := Nat.eq_of_beq_eq_true h
    subst e
    show (((List.range esz).map fun j => A.flt k (xs i j)).getD j .any).plain = true
    simp [List.getD, List.getElem?_range, hj, A.plain]
  | wires => cases h
  | gen => cases h
omit [XS] in
mutual
theorem plainR_ok : ∀ (r : A), r.plainR = true → rowsPlain r
  | .ro _ _ _, h => rowPlainR_ok (by simpa only [A.plainR] using h)
  | .agg cs, h => by simp only [A.plainR] at h; exact plainRs_ok cs h
  | .tup cs, h => by simp only [A.plainR] at h; exact plainRs_ok cs h
  | .bool _, _ => trivial
  | .int .., _ => trivial
  | .flt .., _ => trivial
  | .cpx .., _ => trivial
  | .nilp, _ => trivial
  | .emp, _ => trivial
  | .nils, _ => trivial
  | .any, _ => trivial
  | .ptr .., _ => trivial
  | .rpt .., _ => trivial
  | .rop .., _ => trivial
  | .sl .., _ => trivial
  | .fn .., _ => trivial
theorem plainRs_ok : ∀ (rs : List A), A.plainRs rs = true → rowsPlains rs
  | [], _ => trivial
  | x :: r, h => by
    simp only [A.plainRs] at h
    split at h
    · rename_i hx; exact ⟨plainR_ok x hx, plainRs_ok r h⟩
    · cases h
end
def noTwice : List Nat → Bool
  | [] => true
  | x :: r => match memNat x r with | true => false | false => noTwice r
omit [XS] in
theorem memNat_of_mem {x : Nat} : ∀ {l : List Nat}, x ∈ l → memNat x l = true
  | y :: r, h => by
    simp only [memNat]
    rcases List.mem_cons.1 h with rfl | h
    · rw [Nat.beq_refl]
    · split
      · rfl
      · exact memNat_of_mem h
omit [XS] in
theorem noTwice_nodup : ∀ {l : List Nat}, noTwice l = true → l.Nodup
  | [], _ => List.nodup_nil
  | x :: r, h => by
    simp only [noTwice] at h
    split at h
    · cases h
    · rename_i hm
      refine List.nodup_cons.2 ⟨fun hx => ?_, noTwice_nodup h⟩
      rw [memNat_of_mem hx] at hm
      cases hm
section
variable {B : Nat} {w : World} {cv : Nat → Option Value} {ob : Nat → Option O}
theorem rel_plain {w' : World} {S' : Nat → Prop} {cv' : Nat → Option Value} {v : Value} {x : A} (h : Rel w cv v x) (hd : x.data = true) (hp : x.plain = true) : RelS w' S' cv' v x :=
  .data ((h.toData hd).plain hp)
mutual
theorem expo_rel (hm : MemOK B w cv ob) {S : Nat → Prop} {cv' : Nat → Option Value} : ∀ (x : A) (r : A) (base : Nat) (v : Value), expo ob x = some r → ((∀ b, Sx w cv b → S b) ∨ rowsPlain r) → Rel w cv v x → (∀ k i, (slIds x)[k]? = some i → cv' (base + k) = cv i) →
    (imp base r).2.2 = base + (slIds x).length ∧ RelS w S cv' v (imp base r).1 ∧ ∀ id o, look (imp base r).2.1 id = some o → ObjOKS B w S cv' id o
  | .sl id n, r, base, v, hx, hp, hr, hcv => by
    simp only [expo] at hx
    split at hx
    · rename_i e esz l get hid
      injection hx with hx
      subst hx
      have hc0 : cv' base = cv id := hcv 0 id (by simp [slIds])
      obtain ⟨⟨u, E, xs, hu, hown, hE, hpos, hz, hrel⟩, _⟩ := hm.obj id _ hid
      obtain ⟨hv, a, c, hs⟩ := hr.sl_inv hu
      have hl : ∃ a c, u = .slice a l c := by
        rcases hown.2 with ⟨h1, h2⟩ | ⟨g, cap, cur, h1, _⟩
        · exact ⟨none, 0, by rw [h1, h2]⟩
        · exact ⟨_, _, h1⟩
      refine ⟨by simp [imp, slIds], .sl fun u' hu' => ?_, fun id' o ho => ?_⟩
      · rw [hc0, hu] at hu'
        injection hu' with hu'
        subst hu'
        exact ⟨hv, hl⟩
      · simp only [imp, look] at ho
        split at ho
        · rename_i hb
          have e1 := Nat.eq_of_beq_eq_true hb
          subst e1
          injection ho with ho
          subst ho
          exact ⟨u, E, xs, hc0.trans hu, hown, fun h => absurd rfl h, hpos, hz, fun i j hi hj => ⟨(hrel i j hi hj).1, hp.elim (fun hS => (hrel i j hi hj).2.mono fun b hb => ⟨hS b hb, rfl⟩) fun hp => (hrel i j hi hj).2.plain (hp i j hi hj)⟩⟩
        · cases ho
    · cases hx
  | .agg cs, r, base, v, hx, hp, hr, hcv => by
    simp only [expo] at hx
    split at hx
    · rename_i ds hds
      injection hx with hx
      subst hx
      obtain ⟨vs, rfl, hs, hrel⟩ := hr.agg_inv
      have := expos_rel hm (S := S) (cv' := cv') cs ds base vs.toList hds hp (by simpa using hs) (fun j hj => by rw [toList_getD]; exact hrel j hj) hcv
      exact ⟨this.1, .agg this.2.1.to_array.1 this.2.1.to_array.2, this.2.2⟩
    · cases hx
  | .tup cs, r, base, v, hx, hp, hr, hcv => by
    simp only [expo] at hx
    split at hx
    · rename_i ds hds
      injection hx with hx
      subst hx
      obtain ⟨vs, rfl, hs, hrel⟩ := hr.tup_inv
      have := expos_rel hm (S := S) (cv' := cv') cs ds base vs.toList hds hp (by simpa using hs) (fun j hj => by rw [toList_getD]; exact hrel j hj) hcv
      exact ⟨this.1, .tup this.2.1.to_array.1 this.2.1.to_array.2, this.2.2⟩
    · cases hx
  | .bool _, r, base, v, hx, _, hr, _ | .int .., r, base, v, hx, _, hr, _ | .flt .., r, base, v, hx, _, hr, _ | .cpx .., r, base, v, hx, _, hr, _ | .nilp, r, base, v, hx, _, hr, _ | .emp, r, base, v, hx, _, hr, _ | .nils, r, base, v, hx, _, hr, _ => by
    simp only [expo, Option.some.injEq] at hx
    subst hx
    exact ⟨rfl, rel_plain hr rfl rfl, fun id o ho => by cases ho⟩
  | .any, r, base, v, hx, _, _, _ | .ptr .., r, base, v, hx, _, _, _ | .rpt .., r, base, v, hx, _, _, _ | .ro .., r, base, v, hx, _, _, _ | .rop .., r, base, v, hx, _, _, _ | .fn .., r, base, v, hx, _, _, _ => by
    simp [expo] at hx
theorem expos_rel (hm : MemOK B w cv ob) {S : Nat → Prop} {cv' : Nat → Option Value} : ∀ (xs : List A) (rs : List A) (base : Nat) (vs : List Value), expos ob xs = some rs → ((∀ b, Sx w cv b → S b) ∨ rowsPlains rs) → vs.length = xs.length → (∀ j, j < xs.length → Rel w cv (vs.getD j undef) (xs.getD j .any)) →
    (∀ k i, (slIdss xs)[k]? = some i → cv' (base + k) = cv i) →
    (imps base rs).2.2 = base + (slIdss xs).length ∧ LRel (RelS w S cv') vs (imps base rs).1 ∧ ∀ id o, look (imps base rs).2.1 id = some o → ObjOKS B w S cv' id o
  | [], rs, base, vs, hx, _, hl, _, _ => by
    simp only [expos, Option.some.injEq] at hx
    subst hx
    exact ⟨rfl, ⟨by simpa [imps] using hl, fun j hj => by simp [imps] at hj⟩, fun id o ho => by cases ho⟩
  | x :: xr, rs, base, vs, hx, hp, hl, hr, hcv => by
    simp only [expos] at hx
    split at hx
    · rename_i d hd
      split at hx
      · rename_i ds hds
        injection hx with hx
        subst hx
        have h0 := hr 0 (by simp)
        simp only [List.getD_cons_zero] at h0
        have e1 := expo_rel hm (S := S) (cv' := cv') x d base _ hd (hp.imp_right And.left) h0 (fun k i hk => hcv k i (by
          simp only [slIdss]
          rw [List.getElem?_append_left (List.getElem?_eq_some_iff.1 hk).1]
          exact hk))
        have e2 := expos_rel hm (S := S) (cv' := cv') xr ds (imp base d).2.2 (vs.drop 1) hds (hp.imp_right And.right) (by simp at hl ⊢; omega) (fun j hj => by
          rw [getD_drop, Nat.add_comm]
          have := hr (j + 1) (by simpa using hj)
          simpa using this) (fun k i hk => by
            rw [e1.1, Nat.add_assoc]
            refine hcv _ i ?_
            simp only [slIdss]
            rw [List.getElem?_append_right (by omega), Nat.add_sub_cancel_left]
            exact hk)
        simp only [imps_cons]
        refine ⟨?_, ⟨?_, fun j hj => ?_⟩, fun id o ho => ?_⟩
        · rw [e2.1, e1.1]
          simp only [slIdss, List.length_append]
          omega
        · have := e2.2.1.len
          simp only [List.length_drop, List.length_cons] at this hl ⊢
          omega
        · cases j with
          | zero => simpa using e1.2.1
          | succ j =>
            have := e2.2.1.at_ j (by simpa using hj)
            rw [getD_drop, Nat.add_comm] at this
            simpa using this
        · rw [look_append] at ho
          split at ho
          · rename_i y hy
            injection ho with ho
            subst ho
            exact e1.2.2 id y hy
          · exact e2.2.2 id o ho
      · cases hx
    · cases hx
end
theorem post_of (hm : MemOK B w cv ob) {v : Value} {x r : A} (hr : Rel w cv v x) (hl : Live ob x) (hx : expo ob x = some r) {T : Nat → Prop} (hT : ∀ b, XS.Bx ≤ b ∨ XS.X b → B ≤ b ∨ T b) (hn : noTwice (slIds x) = true) : PostV B (fun b => r.plainR = false ∧ T b) w v r := by
  intro base
  have hnd := noTwice_nodup hn
  let cv' : Nat → Option Value := fun id => match decide (base ≤ id), (slIds x)[id - base]? with
    | true, some i => cv i
    | _, _ => none
  have hcv' : ∀ id u, cv' id = some u → ∃ k i, id = base + k ∧ (slIds x)[k]? = some i ∧ cv i = some u := by
    intro id u hu
    simp only [cv'] at hu
    split at hu
    · rename_i i h1 h2
      simp only [decide_eq_true_eq] at h1
      exact ⟨id - base, i, by omega, h2, hu⟩
    · cases hu
  have hkey : ∀ k i, (slIds x)[k]? = some i → cv' (base + k) = cv i := by
    intro k i hk
    simp only [cv', Nat.le_add_right, decide_true, Nat.add_sub_cancel_left, hk]
  have hp : (∀ b, Sx w cv b → (B ≤ b ∨ (r.plainR = false ∧ T b)) ∧ Sy w cv' b) ∨ rowsPlain r := by
    cases hpl : r.plainR with
    | true => exact .inr (plainR_ok r hpl)
    | false =>
      refine .inl fun b hb => ⟨(hT b hb.2.2).imp_right fun h => ⟨rfl, h⟩, hb.1, fun id u hu => ?_⟩
      obtain ⟨k, i, _, _, h3⟩ := hcv' id u hu
      exact hb.2.1 i u h3
  have hmain := expo_rel hm (S := fun b => (B ≤ b ∨ (r.plainR = false ∧ T b)) ∧ Sy w cv' b) (cv' := cv') x r base v hx hp hr hkey
  refine ⟨cv', fun id u hu => ?_, fun i j u u' b hi hj hb hb' => ?_, hmain.2.2, hmain.2.1⟩
  · obtain ⟨k, i, rfl, hk, hu⟩ := hcv' id u hu
    have := (List.getElem?_eq_some_iff.1 hk).1
    exact ⟨by omega, by rw [hmain.1]; omega, (hm.dom i u hu).2⟩
  · obtain ⟨k1, i1, rfl, hk1, hu1⟩ := hcv' i u hi
    obtain ⟨k2, i2, rfl, hk2, hu2⟩ := hcv' j u' hj
    have e := hm.inj i1 i2 u u' b hu1 hu2 hb hb'
    subst e
    have := (List.getElem?_inj (List.getElem?_eq_some_iff.1 hk1).1 hnd).1 (hk1.trans hk2.symm)
    omega
end
def leafRes (cfg : Cfg) (fn : Func) (x : XK) (σ : St) : Option A :=
  match x with
  | .exit _ => none
  | _ => match retVal cfg fn σ with
    | some v => match noTwice (slIds v) with
      | true => expo σ.obj v
      | false => none
    | none => none
def T.res (cfg : Cfg) (fn : Func) : T → Option A
  | .leaf x σ => leafRes cfg fn x σ
  | .ite b t e => cond b (t.res cfg fn) (e.res cfg fn)
  | .fail => none
  | .loop .. => none
omit [XS] in
theorem pure_of_tree {P : Program} {cfg : Cfg} (hc : CfgOK P cfg) {f : Nat} {fn : Func} {body : Code} {un fuel : Nat} {own : Nat → Bool} {lp : Nat → Option (St → T)} {ds : List A} {r : A} (hf : P.funcs[f]? = some fn) (hb : fn.body = some body) (hle : ds.length ≤ fn.ntmps)
    (hlp : LpOK P lp body) (hok : (exec cfg own lp un fuel body (St.enter fn ds [] 0)).Ok P fun x σ => leafRes cfg fn x σ = some r) : PureCall P f ds r := by
  intro w vs T hTb hsz hrel
  letI : XS := ⟨w.heap.size, T⟩
  refine calls_of_wp hf hb ?_
  have hrel' : ∀ i, i < ds.length → Rel w (fun _ => none) (vs.getD i undef) (ds.getD i .any) := fun i hi => .data ((hrel i hi).mono fun b hb => ⟨⟨hTb b hb, (fun id u hu => by cases hu), .inr hb⟩, rfl⟩)
  have h0 : SRcv w.heap.size w (fun _ => False) (fun _ _ => False) ({ n := 0, lo := 0, tmps := [], grds := [], mem := [], next := 0 } : St) { tmps := #[], defers := [] } w (fun _ => none) :=
    ⟨rfl, rfl, Below.refl _ _, Nat.max_le.2 ⟨Nat.le_refl _, Nat.le_refl _⟩, fun _ h => h.elim, Nat.le_refl _, (fun id o h => by cases h), ⟨(fun id o h => by cases h), (fun id u h => by cases h), (fun i j u u' b h => by cases h)⟩, (fun t x h => by cases h), (fun t g h => by cases h), fun _ _ h => h.elim⟩
  have hent := h0.enter (fn := fn) hsz hrel' (fun x hx id hid => by
    obtain ⟨i, hi⟩ := List.mem_iff_getElem?.1 hx
    have hil := (List.getElem?_eq_some_iff.1 hi).1
    have := (hrel i hil).noHas id
    rw [show ds.getD i .any = x by simp [List.getD, hi], hid] at this
    cases this) hle
  have hwp := exec_sound hc un fuel own lp body hlp _ _ hok inferInstance w.heap.size w _ _ _ w ⟨_, hent⟩ rfl
  refine wp_mono hwp ?_
  rintro e a' w' ⟨x, σ', rfl, hl, U', _, _, ⟨cv, hs⟩, _⟩
  have key : ∀ y, leafRes cfg fn x σ' = some r → (x = .normal ∨ x = .ret) → y = (fun e w' => ∃ v, e = Ending.returned v ∧ Below w.heap.size w w' ∧ PostV w.heap.size (fun b => r.plainR = false ∧ T b) w' v r) → a'.defers = [] ∧ ∃ v, (results fn a'.tmps).run P w' = .ok v w' ∧ y (.returned v) w' := by
    intro y hl hx hy
    subst hy
    have hl' : (match retVal cfg fn σ' with
        | some v => match noTwice (slIds v) with
          | true => expo σ'.obj v
          | false => none
        | none => none) = some r := by
      rcases hx with rfl | rfl <;> exact hl
    split at hl'
    · rename_i z hz
      split at hl'
      · rename_i hn
        obtain ⟨v, h1, h2, h3⟩ := retVal_sound hc hs hz
        exact ⟨hs.defers, v, h1, v, rfl, hs.below, post_of hs.mem h2 h3 hl' (fun b hb => hb) hn⟩
      · cases hl'
    · cases hl'
  cases x with
  | normal => exact key _ hl (.inl rfl) rfl
  | ret => exact key _ hl (.inr rfl) rfl
  | exit i => cases hl
end Go.Fw

/-
  Arguments, as they come in: read as data.
-/
namespace Go.Fw
open Go.RowKit (Below)
section
variable {H : Type} {enc : TypeId × Value → H} {P : Program} {w : World} {spare : Nat → Bool} {held : Bool}
theorem cell_block {a : Addr} {v : Value} (h : w.cell? a = some v) : a.block < w.heap.size := by
  unfold World.cell? at h
  split at h
  · rename_i hh; exact (Array.getElem?_eq_some_iff.1 hh).1
  · cases h
theorem cell_spot {b o : Nat} {s} {j : Nat} {v : Value} (h : w.cell? ((⟨b, o, s⟩ : Addr).add j) = some v) : (⟨b, o, s⟩ : Addr).add j = ⟨b, o + j, none⟩ ∧ (j = 0 → s = none) := by
  have hs := World.cell?_spot h
  unfold Addr.add at hs ⊢
  split at hs
  · rename_i hj
    subst hj
    simp only at hs
    subst hs
    exact ⟨rfl, fun _ => rfl⟩
  · rename_i hj
    rw [if_neg hj]
    exact ⟨rfl, fun h => absurd h hj⟩
theorem rel_slice {t e : TypeId} {fuel : Nat} {cs : List Value} {x : DataW H × List MemPlace} {esz : Nat} (ht : P.underlying t = some (.slice e)) (hc : P.cellsOf e = esz) (hpos : 0 < esz) (h : DataW.trod enc P w 0 spare held fuel t cs = some x)
    {α : Type} [Inhabited α] (mk : α → A) (Good : α → Prop) (hgood : ∃ a, Good a) (hmk : ∀ a, (mk a).cells.length = esz)
    (elem : ∀ (n : Nat) (cs' : List Value) y, DataW.trod enc P w 0 spare held n e cs' = some y → ∃ a : α, Good a ∧ cs'.length = esz ∧ ∀ j, j < esz → ((mk a).cells.getD j .any).flat = true ∧ RelD w (fun b => b < w.heap.size) (cs'.getD j undef) ((mk a).cells.getD j .any)) :
    ∃ (v : Value) (len : Nat) (xs : Nat → α), cs = [v] ∧ (∃ a c, v = .slice a len c ∧ len ≤ c ∧ c ≤ maxLen) ∧ (∀ i, Good (xs i)) ∧ RelD w (fun b => b < w.heap.size) v (.ro esz len (.gen fun i => mk (xs i))) := by
  obtain ⟨g0, hg0⟩ := hgood
  rcases Deep.open_slice ht h with ⟨rfl, _⟩ | ⟨a, len, cap, m, n, D, Pl, rfl, _, hl, hm, hmm, _, hx⟩
  · exact ⟨_, 0, fun _ => g0, rfl, ⟨none, 0, rfl, Nat.le_refl _, Nat.zero_le _⟩, fun _ => hg0, .ro (b := 0) (o := 0) (Nat.le_refl _) (fun _ _ => undef) (fun h => absurd h (Nat.lt_irrefl _)) (fun i hi => absurd hi (Nat.not_lt_zero _)) (fun i j hi => absurd hi (Nat.not_lt_zero _)) (fun i j hi => absurd hi (Nat.not_lt_zero _)) (fun i j hi => absurd hi (Nat.not_lt_zero _))⟩
  · have hlm : len ≤ m := by rw [hmm]; split <;> omega
    obtain ⟨b, o, s⟩ := a
    have key : ∀ i, i < len → ∃ z : α × List Value, Good z.1 ∧ z.2.length = esz ∧ (∀ j, j < esz → w.cell? ((⟨b, o, s⟩ : Addr).add (i * esz + j)) = some (z.2.getD j undef)) ∧ ∀ j, j < esz → ((mk z.1).cells.getD j .any).flat = true ∧ RelD w (fun b => b < w.heap.size) (z.2.getD j undef) ((mk z.1).cells.getD j .any) := by
      intro i hi
      obtain ⟨cs', h1, h2⟩ := hx i (by omega)
      obtain ⟨y, hy1, hy2, hy3⟩ := elem n cs' _ h2
      rw [hc] at h1
      obtain ⟨_, h4, h5⟩ := World.cells?_some h1
      refine ⟨(y, cs'), hy1, hy2, fun j hj => ?_, hy3⟩
      have h6 := h5 j hj
      rw [Deep.add_add] at h6
      rw [h6, List.getD, List.getElem?_eq_getElem (by omega)]
      rfl
    have : Inhabited (α × List Value) := ⟨(g0, [])⟩
    obtain ⟨f, hf⟩ := Deep.choose_lt key
    have hspot : 0 < len → (⟨b, o, s⟩ : Addr) = ⟨b, o, none⟩ ∧ b < w.heap.size := by
      intro h0
      have h6 := (hf 0 h0).2.2.1 0 hpos
      have := (cell_spot h6).2 (by simp)
      subst this
      exact ⟨rfl, by have := cell_block h6; rw [(cell_spot h6).1] at this; exact this⟩
    have hxs : ∀ i, i < len → (fun i => mk (if i < len then (f i).1 else g0)) i = mk (f i).1 := fun i hi => by simp [hi]
    refine ⟨_, len, fun i => if i < len then (f i).1 else g0, rfl, ⟨_, cap, rfl, hl, hm⟩, fun i => ?_, ?_⟩
    · show Good (if i < len then (f i).1 else g0)
      by_cases hi : i < len
      · rw [if_pos hi]; exact (hf i hi).1
      · rw [if_neg hi]; exact hg0
    · refine .ro (b := b) (o := o) hl (fun i j => (f i).2.getD j undef) (fun h0 => ⟨by rw [(hspot h0).1], (hspot h0).2⟩) (fun i hi => ?_) (fun i j hi hj => ?_) (fun i j hi hj => ?_) (fun i j hi hj => ?_)
      · exact hmk _
      · have h6 := (hf i hi).2.2.1 j hj
        rw [← (cell_spot h6).1]
        exact h6
      · simp only [Row.at, if_pos hi]; exact ((hf i hi).2.2.2 j hj).1
      · simp only [Row.at, if_pos hi]; exact ((hf i hi).2.2.2 j hj).2
theorem RelD.row_congr {S : Nat → Prop} {v : Value} {esz len : Nat} {g g' : Row A} (h : RelD w S v (.ro esz len g)) (hg : ∀ i, i < len → g i = g' i) : RelD w S v (.ro esz len g') := by
  cases h with
  | @ro a cap _ _ _ b o hk f ha hz hc hf hr =>
    refine .ro hk f ha (fun i hi => by rw [← hg i hi]; exact hz i hi) hc (fun i j hi hj => by rw [← hg i hi]; exact hf i j hi hj) (fun i j hi hj => by rw [← hg i hi]; exact hr i j hi hj)
end
theorem PureCall.bool {P : Program} {f : Nat} {ds : List A} {b : Bool} (h : PureCall P f ds (.bool b)) {w : World} {vs : Array Value} (hs : vs.size = ds.length) (hr : ∀ i, i < ds.length → RelD w (fun b => b < w.heap.size) (vs.getD i undef) (ds.getD i .any)) :
    Calls P f vs w fun e w' => e = .returned (.bool b) ∧ Below w.heap.size w w' := by
  refine (h w vs _ (fun b hb => hb) hs hr).mono ?_
  rintro e w' ⟨v, rfl, hb, hp⟩
  obtain ⟨cv, _, _, _, hrel⟩ := hp 0
  have : v = .bool b := by
    cases hrel with
    | data h => cases h; rfl
  exact ⟨by rw [this], hb⟩
end Go.Fw

/-
  Loops: states at a loop's head, written out; the rule.
-/
namespace Go.Fw
variable [XS]
open Go.RowKit (Below)
mutual
def A.livesIn (ids : List Nat) : A → Bool
  | .sl i _ => memNat i ids
  | .rpt i _ _ _ => memNat i ids
  | .ptr i _ => memNat i ids
  | .agg cs => A.liveIns ids cs
  | .tup cs => A.liveIns ids cs
  | .fn _ cs => A.liveIns ids cs
  | _ => true
def A.liveIns (ids : List Nat) : List A → Bool
  | [] => true
  | x :: r => match x.livesIn ids with | true => A.liveIns ids r | false => false
end
omit [XS] in
mutual
theorem livesIn_mem {ids : List Nat} : ∀ (x : A) (id : Nat), x.livesIn ids = true → x.has id = true → id ∈ ids
  | .sl i _, id, h, hh => by simp only [A.livesIn] at h; simp only [A.has] at hh; have := Nat.eq_of_beq_eq_true hh; subst this; exact memNat_mem h
  | .rpt i _ _ _, id, h, hh => by simp only [A.livesIn] at h; simp only [A.has] at hh; have := Nat.eq_of_beq_eq_true hh; subst this; exact memNat_mem h
  | .ptr i _, id, h, hh => by simp only [A.livesIn] at h; simp only [A.has] at hh; have := Nat.eq_of_beq_eq_true hh; subst this; exact memNat_mem h
  | .agg cs, id, h, hh => by simp only [A.livesIn] at h; simp only [A.has] at hh; exact liveIns_mem cs id h hh
  | .tup cs, id, h, hh => by simp only [A.livesIn] at h; simp only [A.has] at hh; exact liveIns_mem cs id h hh
  | .fn _ cs, id, h, hh => by simp only [A.livesIn] at h; simp only [A.has] at hh; exact liveIns_mem cs id h hh
  | .bool _, _, _, hh | .int .., _, _, hh | .flt .., _, _, hh | .cpx .., _, _, hh | .nilp, _, _, hh | .emp, _, _, hh | .nils, _, _, hh | .any, _, _, hh | .ro .., _, _, hh | .rop .., _, _, hh => by simp [A.has] at hh
theorem liveIns_mem {ids : List Nat} : ∀ (xs : List A) (id : Nat), A.liveIns ids xs = true → A.hasAny id xs = true → id ∈ ids
  | [], _, _, hh => by simp [A.hasAny] at hh
  | x :: r, id, h, hh => by
    simp only [A.liveIns] at h
    simp only [A.hasAny] at hh
    split at h
    · rename_i hx
      split at hh
      · rename_i hxh; exact livesIn_mem x id hx hxh
      · exact liveIns_mem r id h hh
    · cases h
end
def OSim (o : Option O) : O → Prop
  | .var cs => o = some (.var cs)
  | .arr e z l cs => o = some (.arr e z l cs)
  | .row e esz len get => ∃ e0 get0, o = some (.row e0 esz len get0) ∧ (e = 0 ∨ e = e0) ∧ ∀ i, i < len → get0 i = get i
def O.livesIn (ids : List Nat) : O → Bool
  | .var cs => A.liveIns ids cs
  | .arr _ _ _ cs => A.liveIns ids cs
  | .row .. => true
def zipO : List Nat → List O → List (Nat × O)
  | t :: ts, a :: as => (t, a) :: zipO ts as
  | _, _ => []
def zipA : List Nat → List A → List (Nat × A)
  | t :: ts, a :: as => (t, a) :: zipA ts as
  | _, _ => []
def St.mk' (σ : St) (ts ids : List Nat) (as : List A) (os : List O) : St :=
  { n := σ.n, lo := σ.lo, tmps := zipA ts as, grds := [], mem := zipO ids os, next := σ.next }
def allLive (ids : List Nat) (as : List A) (os : List O) : Bool := A.liveIns ids as && os.all (O.livesIn ids)
omit [XS] in
theorem look_zipO {id : Nat} {o : O} : ∀ {ids : List Nat} {os : List O}, look (zipO ids os) id = some o → ∃ k : Nat, ids[k]? = some id ∧ os[k]? = some o
  | [], os, h => by cases os <;> simp [zipO, look] at h
  | t :: ts, [], h => by simp [zipO, look] at h
  | t :: ts, a :: as, h => by
    simp only [zipO, look] at h
    split at h
    · rename_i hb
      have := Nat.eq_of_beq_eq_true hb
      subst this
      exact ⟨0, rfl, h⟩
    · obtain ⟨k, h1, h2⟩ := look_zipO h
      exact ⟨k + 1, h1, h2⟩
omit [XS] in
theorem look_zipA {id : Nat} {o : A} : ∀ {ids : List Nat} {os : List A}, look (zipA ids os) id = some o → ∃ k : Nat, ids[k]? = some id ∧ os[k]? = some o
  | [], os, h => by cases os <;> simp [zipA, look] at h
  | t :: ts, [], h => by simp [zipA, look] at h
  | t :: ts, a :: as, h => by
    simp only [zipA, look] at h
    split at h
    · rename_i hb
      have := Nat.eq_of_beq_eq_true hb
      subst this
      exact ⟨0, rfl, h⟩
    · obtain ⟨k, h1, h2⟩ := look_zipA h
      exact ⟨k + 1, h1, h2⟩
omit [XS] in
theorem look_zipO_some {id : Nat} : ∀ {ids : List Nat} {os : List O}, ids.length = os.length → id ∈ ids → ∃ o, look (zipO ids os) id = some o
  | [], _, _, h => by cases h
  | t :: ts, [], hl, _ => by simp at hl
  | t :: ts, a :: as, hl, h => by
    simp only [zipO, look]
    split
    · exact ⟨a, rfl⟩
    · rename_i hb
      rcases List.mem_cons.1 h with rfl | h
      · exact absurd rfl (Nat.ne_of_beq_eq_false hb)
      · exact look_zipO_some (by simpa using hl) h
structure Says (σ' : St) (ts ids : List Nat) (as : List A) (os : List O) : Prop where
  slots : ∀ (k t : Nat) (x : A), ts[k]? = some t → as[k]? = some x → x = .any ∨ σ'.get t = x
  objs : ∀ (k id : Nat) (o : O), ids[k]? = some id → os[k]? = some o → OSim (σ'.obj id) o
section
variable {P : Program} {B : Nat} {w0 : World} {U U' : Nat → Prop} {G : Value → A → Prop} {σ σ' : St} {a : Act} {w : World} {cv : Nat → Option Value}
theorem SRcv.says (h : SRcv B w0 U' G σ' a w cv) {ts ids : List Nat} {as : List A} {os : List O} (hs : Says σ' ts ids as os) (hl : allLive ids as os = true) (hlen : ids.length = os.length)
    (hn : σ'.n = σ.n) (hlo : σ'.lo = σ.lo) (hold : ∀ id o, id < σ.lo → σ'.obj id = some o → id ∈ ids) (hU : ∀ id, id ∈ ids → U id) (hU2 : ∀ id, U id → id < σ.next) (hlon : σ.lo ≤ σ.next) :
    SR B w0 U G (σ.mk' ts ids as os) a w := by
  simp only [allLive, Bool.and_eq_true] at hl
  let cv' : Nat → Option Value := fun id => match look (zipO ids os) id with | some _ => cv id | none => none
  have hcv : ∀ id, cv' id = none ∨ cv' id = cv id := fun id => by
    simp only [cv']
    cases look (zipO ids os) id
    · exact .inl rfl
    · exact .inr rfl
  have hcv1 : ∀ id u, cv' id = some u → cv id = some u ∧ ∃ o, look (zipO ids os) id = some o := fun id u hu => by
    simp only [cv'] at hu
    cases hl : look (zipO ids os) id with
    | none => rw [hl] at hu; cases hu
    | some o => rw [hl] at hu; exact ⟨hu, o, rfl⟩
  have hsx : ∀ b, Sx w cv b → Sx w cv' b ∧ w.heap[b]? = w.heap[b]? := fun b hb => ⟨⟨hb.1, fun id u hu => hb.2.1 id u (hcv1 id u hu).1, hb.2.2⟩, rfl⟩
  have hlive : ∀ x, x.livesIn ids = true → Live (σ.mk' ts ids as os).obj x := fun x hx id hid => look_zipO_some hlen (livesIn_mem x id hx hid)
  have hrel : ∀ {v : Value} {x : A}, Rel w cv v x → Rel w cv' v x := fun hr => hr.mono hsx fun id _ => hcv id
  refine ⟨cv', h.size.trans hn, h.defers, h.below, h.hB, hU2, hlon, fun id o ho => ?_, ⟨fun id o ho => ?_, fun id u hu => ?_, fun i j u u' b hi hj => h.mem.inj i j u u' b (hcv1 i u hi).1 (hcv1 j u' hj).1⟩, fun t x hx => ?_, (fun t g hg => by cases hg), fun v x hx => ?_⟩
  · obtain ⟨k, h1, _⟩ := look_zipO ho
    exact hU id (List.mem_of_getElem? h1)
  · obtain ⟨k, h1, h2⟩ := look_zipO ho
    have hsim := hs.objs k id o h1 h2
    have hll : o.livesIn ids = true := List.all_eq_true.1 hl.2 o (List.mem_of_getElem? h2)
    have hcvid : cv' id = cv id := by
      simp only [cv']
      rw [show look (zipO ids os) id = some o from ho]
    cases o with
    | var cs =>
      have hob := h.mem.obj id _ hsim
      refine ⟨hob.1.step hsx hcvid (fun _ _ _ _ => rfl) fun i _ => hcv i, fun i hi => look_zipO_some hlen (liveIns_mem cs i hll hi)⟩
    | arr e z l cs =>
      have hob := h.mem.obj id _ hsim
      refine ⟨hob.1.step hsx hcvid (fun _ _ _ _ => rfl) fun i _ => hcv i, fun i hi => look_zipO_some hlen (liveIns_mem cs i hll hi)⟩
    | row e esz len get =>
      obtain ⟨e0, get0, h3, h4, h5⟩ := hsim
      obtain ⟨⟨v, E, xs, g1, g2, g3, g4, g5, g6⟩, _⟩ := h.mem.obj id _ h3
      refine ⟨⟨v, E, xs, hcvid.trans g1, g2, fun hne => ?_, g4, fun i hi => by rw [← h5 i hi]; exact g5 i hi, fun i j hi hj => ?_⟩, fun i hi => by simp [O.has] at hi⟩
      · rcases h4 with h4 | h4
        · exact absurd h4 hne
        · rw [h4]; exact g3 (by rw [← h4]; exact hne)
      · have := g6 i j hi hj
        rw [h5 i hi] at this
        exact ⟨this.1, this.2.mono hsx⟩
  · have := hcv1 id u hu
    exact ⟨this.2, (h.mem.dom id u this.1).2⟩
  · obtain ⟨k, h1, h2⟩ := look_zipA hx
    have hg : Rel w cv (a.tmps.getD t undef) x := by
      rcases hs.slots k t x h1 h2 with rfl | he
      · exact .any _
      · have hg := h.get t
        rw [he] at hg
        exact hg.1
    have hxl : x.livesIn ids = true := by
      have : ∀ (l : List A), A.liveIns ids l = true → ∀ y, y ∈ l → y.livesIn ids = true := by
        intro l
        induction l with
        | nil => intro _ y hy; cases hy
        | cons z r ih =>
          intro hz y hy
          simp only [A.liveIns] at hz
          split at hz
          · rename_i hzz
            rcases List.mem_cons.1 hy with rfl | hy
            · exact hzz
            · exact ih hz y hy
          · cases hz
      exact this as hl.1 x (List.mem_of_getElem? h2)
    exact ⟨hrel hg, hlive x hxl⟩
  · have := h.ghost v x hx
    refine ⟨hrel this.1, fun id hid => ?_, fun id hid => ?_⟩
    · obtain ⟨o, ho⟩ := this.2.1 id hid
      exact look_zipO_some hlen (hold id o (by rw [← hlo]; exact this.2.2 id hid) ho)
    · have := this.2.2 id hid
      rw [hlo] at this
      exact this
inductive RT where
  | leaf (x : XK) (as : List A) (os : List (Option O))
  | ite (b : Bool) (t e : RT)
  | fail
def T.rt (ts ids : List Nat) : T → RT
  | .leaf x σ => .leaf x (ts.map σ.get) (ids.map σ.obj)
  | .ite b t e => .ite b (t.rt ts ids) (e.rt ts ids)
  | .fail => .fail
  | .loop .. => .fail
def RT.Ok : RT → (XK → List A → List (Option O) → Prop) → Prop
  | .leaf x as os, L => L x as os
  | .ite b t e, L => cond b (t.Ok L) (e.Ok L)
  | .fail, _ => False
omit [XS] in
theorem T.rt_ok {ts ids : List Nat} {L : XK → List A → List (Option O) → Prop} : ∀ {t : T}, (t.rt ts ids).Ok L → t.Ok P fun x σ => L x (ts.map σ.get) (ids.map σ.obj)
  | .leaf _ _, h => h
  | .ite b _ _, h => ⟨fun hb => T.rt_ok (by subst hb; exact h), fun hb => T.rt_ok (by subst hb; exact h)⟩
  | .fail, h => h.elim
  | .loop _ _ _, h => h.elim
def OSims : List (Option O) → List O → Prop
  | o :: r, o' :: r' => OSim o o' ∧ OSims r r'
  | [], [] => True
  | _, _ => False
omit [XS] in
theorem OSims.at_ : ∀ {l : List (Option O)} {l' : List O}, OSims l l' → l.length = l'.length ∧ ∀ (k : Nat) (o : Option O) (o' : O), l[k]? = some o → l'[k]? = some o' → OSim o o'
  | [], [], _ => ⟨rfl, fun k o o' h => by simp at h⟩
  | o :: r, o' :: r', h => by
    have := OSims.at_ h.2
    refine ⟨by simp [this.1], fun k x x' hx hx' => ?_⟩
    cases k with
    | zero => simp at hx hx'; subst hx hx'; exact h.1
    | succ k => exact this.2 k x x' (by simpa using hx) (by simpa using hx')
  | [], _ :: _, h => h.elim
  | _ :: _, [], h => h.elim
def ALe : List A → List A → Prop
  | x :: r, y :: s => (y = .any ∨ x = y) ∧ ALe r s
  | [], [] => True
  | _, _ => False
omit [XS] in
theorem ALe.self : ∀ (l : List A), ALe l l
  | [] => trivial
  | _ :: r => ⟨.inr rfl, ALe.self r⟩
omit [XS] in
theorem ALe.of_eq {l l' : List A} (h : l = l') : ALe l l' := by subst h; exact ALe.self l
omit [XS] in
theorem ALe.at_ : ∀ {l l' : List A}, ALe l l' → ∀ (k : Nat) (x y : A), l[k]? = some x → l'[k]? = some y → y = .any ∨ x = y
  | x :: r, y :: s, h, k, x', y', hx, hy => by
    cases k with
    | zero => simp at hx hy; subst hx hy; exact h.1
    | succ k => exact ALe.at_ h.2 k x' y' (by simpa using hx) (by simpa using hy)
  | [], [], _, k, x', y', hx, _ => by simp at hx
  | [], _ :: _, h, _, _, _, _, _ => h.elim
  | _ :: _, [], h, _, _, _, _, _ => h.elim
omit [XS] in
theorem says_of {ts ids : List Nat} {as : List A} {os : List O} (h1 : ALe (ts.map σ'.get) as) (h2 : OSims (ids.map σ'.obj) os) : Says σ' ts ids as os := by
  refine ⟨fun k t x hk hx => ?_, fun k id o hk ho => ?_⟩
  · have := h1.at_ k (σ'.get t) x (by rw [List.getElem?_map, hk]; rfl) hx
    exact this
  · exact h2.at_.2 k (σ'.obj id) o (by rw [List.getElem?_map, hk]; rfl) ho
theorem out_of {cv1 : Nat → Option Value} {σ1 : St} {a1 : Act} {w1 : World} {U1 : Nat → Prop} {x : XK} {ts ids : List Nat} {as : List A} {os : List O} {E : XK → List A → List O → Prop} (h : SRcv B w0 U G σ a w cv)
    (hU : ∀ id, id ∈ ids → U id) (_hUn : ∀ id, id ∈ ids → id < σ.next) (_hold : ∀ id o, σ.obj id = some o → id < σ.lo → id ∈ ids)
    (hs1 : SRcv B w0 U1 G σ1 a1 w1 cv1) (b2 : ∀ i, U1 i → i ∈ ids ∨ (σ.mk' ts ids as os).next ≤ i) (b3 : σ1.n = (σ.mk' ts ids as os).n) (b4 : σ1.lo = (σ.mk' ts ids as os).lo)
    (hl : ∃ as' os', ALe (ts.map σ1.get) as' ∧ OSims (ids.map σ1.obj) os' ∧ allLive ids as' os' = true ∧ E x as' os') :
    ∃ x' σ', XK.out x = XK.out x' ∧ (∃ as os, E x' as os ∧ ids.length = os.length ∧ σ' = σ.mk' ts ids as os) ∧ Out B w0 U G σ σ' a1 w1 := by
  have holdk : ∀ id o, id < σ.lo → σ1.obj id = some o → id ∈ ids := fun id o hlt ho => by
    rcases b2 id (hs1.used id o ho) with h1 | h1
    · exact h1
    · have : σ.next ≤ id := h1
      have := h.lon
      omega
  obtain ⟨as', os', h0, h1, h2, h3⟩ := hl
  have hlen : ids.length = os'.length := by simpa using h1.at_.1
  exact ⟨x, _, rfl, ⟨_, os', h3, hlen, rfl⟩, U, fun _ h => h, fun _ h => .inl h, hs1.says (says_of h0 h1) h2 hlen b3 b4 holdk hU h.lo h.lon, rfl, rfl, Nat.le_refl _, rfl⟩
omit [XS] in
theorem loop_rule {cfg : Cfg} (hc : CfgOK P cfg) {un fuel : Nat} {own : Nat → Bool} {lp : Nat → Option (St → T)} {body : Code} (hlp : LpOK P lp body) (ts ids : List Nat) (I : Nat → List A) (J : Nat → List O) (N : Nat) (E : XK → List A → List O → Prop)
    (hids : ∀ id, id ∈ ids → ∃ o, σ.obj id = some o) (hold : ∀ id o, σ.obj id = some o → id < σ.lo → id ∈ ids)
    (h0 : ts.map σ.get = I 0) (h0' : OSims (ids.map σ.obj) (J 0)) (hlive : ∀ k, k ≤ N → allLive ids (I k) (J k) = true) (hlen : ∀ k, ids.length = (J k).length)
    (hround : ∀ k, k ≤ N → ((exec cfg own lp un fuel body (σ.mk' ts ids (I k) (J k))).rt ts ids).Ok fun x as os => match x with
      | .normal => k < N ∧ as = I (k + 1) ∧ OSims os (J (k + 1))
      | x => ∃ as' os', ALe as as' ∧ OSims os os' ∧ allLive ids as' os' = true ∧ E x as' os') :
    LoopOK P body σ fun x σ' => ∃ as os, E x as os ∧ ids.length = os.length ∧ σ' = σ.mk' ts ids as os := by
  intro X B w0 U G a w hsr hg
  obtain ⟨cv0, h⟩ := hsr
  have hU : ∀ id, id ∈ ids → U id := fun id hid => by obtain ⟨o, ho⟩ := hids id hid; exact h.used id o ho
  have hUn : ∀ id, id ∈ ids → id < σ.next := fun id hid => h.lo id (hU id hid)
  have hstart := h.says (σ := σ) (U := fun id => id ∈ ids) (says_of (ALe.of_eq h0) h0') (hlive 0 (Nat.zero_le _)) (hlen 0) rfl rfl (fun id o hlt ho => hold id o ho hlt) (fun _ h => h) hUn h.lon
  have key : ∀ (m k : Nat), k + m = N → ∀ a w, SR B w0 (fun id => id ∈ ids) G (σ.mk' ts ids (I k) (J k)) a w → Code.rounds P body (fun e a' w' => ∃ x σ', e = XK.out x ∧ (∃ as os, E x as os ∧ ids.length = os.length ∧ σ' = σ.mk' ts ids as os) ∧ Out B w0 U G σ σ' a' w') (m + 1) a w := by
    intro m
    induction m with
    | zero =>
      intro k hk a w hs
      refine wp_mono (exec_sound hc un fuel own lp body hlp _ _ (T.rt_ok (hround k (by omega))) X B w0 _ G a w hs rfl) ?_
      rintro e a1 w1 ⟨x, σ1, rfl, hl, U1, b1, b2, ⟨cv1, hs1⟩, b3, b4, b5, b6⟩
      cases x with
      | normal => exact absurd hl.1 (by omega)
      | ret => exact out_of h hU hUn hold hs1 b2 b3 b4 hl
      | exit i => exact out_of h hU hUn hold hs1 b2 b3 b4 hl
    | succ m ih =>
      intro k hk a w hs
      rw [rounds_succ]
      refine wp_mono (exec_sound hc un fuel own lp body hlp _ _ (T.rt_ok (hround k (by omega))) X B w0 _ G a w hs rfl) ?_
      rintro e a1 w1 ⟨x, σ1, rfl, hl, U1, b1, b2, ⟨cv1, hs1⟩, b3, b4, b5, b6⟩
      cases x with
      | normal =>
        show Code.rounds P body _ (m + 1) a1 w1
        have holdk : ∀ id o, id < σ.lo → σ1.obj id = some o → id ∈ ids := fun id o hlt ho => by
          rcases b2 id (hs1.used id o ho) with h1 | h1
          · exact h1
          · have : σ.next ≤ id := h1
            have := h.lon
            omega
        exact ih (k + 1) (by omega) a1 w1 (hs1.says (says_of (ALe.of_eq hl.2.1) hl.2.2) (hlive _ (by omega)) (hlen _) b3 b4 holdk (fun _ h => h) hUn h.lon)
      | ret => exact out_of h hU hUn hold hs1 b2 b3 b4 hl
      | exit i => exact out_of h hU hUn hold hs1 b2 b3 b4 hl
  exact wp_loop_rounds (N + 1) (key N 0 (by omega) a w hstart)
end
end Go.Fw

/-
  What is known of a block that is one loop.
-/
namespace Go.Fw
variable [XS]
open Go.RowKit (Below)
inductive R3 where
  | leaf (x : XK) (as : List A) (os : List O)
  | ite (b : Bool) (t e : R3)
  | fail
def litSt (n next : Nat) (ts ids : List Nat) (as : List A) (os : List O) : St :=
  { n, lo := 0, tmps := zipA ts as, grds := [], mem := zipO ids os, next }
def R3.toT (n next : Nat) (ts ids : List Nat) : R3 → T
  | .leaf x as os => .leaf x (litSt n next ts ids as os)
  | .ite b t e => .ite b (t.toT n next ts ids) (e.toT n next ts ids)
  | .fail => .fail
def R3.Ok : R3 → (XK → List A → List O → Prop) → Prop
  | .leaf x as os, L => L x as os
  | .ite b t e, L => (b = true → t.Ok L) ∧ (b = false → e.Ok L)
  | .fail, _ => False
omit [XS] in
theorem R3.of_toT {P : Program} {n next : Nat} {ts ids : List Nat} {L : XK → St → Prop} : ∀ {R : R3}, (R.toT n next ts ids).Ok P L → R.Ok fun x as os => L x (litSt n next ts ids as os)
  | .leaf _ _ _, h => h
  | .ite _ _ _, h => ⟨fun hb => R3.of_toT (h.1 hb), fun hb => R3.of_toT (h.2 hb)⟩
  | .fail, h => h.elim
omit [XS] in
theorem R3.Ok.mono {L L' : XK → List A → List O → Prop} : ∀ {R : R3}, R.Ok L → (∀ x as os, L x as os → L' x as os) → R.Ok L'
  | .leaf _ _ _, h, hl => hl _ _ _ h
  | .ite _ _ _, h, hl => ⟨fun hb => (h.1 hb).mono hl, fun hb => (h.2 hb).mono hl⟩
  | .fail, h, _ => h.elim
omit [XS] in
theorem R3.Ok.guard {b : Bool} {R : R3} {L : XK → List A → List O → Prop} (h : (R3.ite b R .fail).Ok L) : b = true := by
  cases hb : b
  · exact (h.2 hb).elim
  · rfl
def XK.leave (id : Nat) : XK → XK
  | .exit i => match Nat.beq i id with | true => .normal | false => .exit i
  | x => x
def sumAt (n next : Nat) (ts ids : List Nat) (F : List A → List (Option O) → Option R3) (σ : St) : T :=
  match Nat.beq σ.n n, Nat.beq σ.lo 0, Nat.beq σ.next next with
  | true, true, true => match F (ts.map σ.get) (ids.map σ.obj) with
    | some R => R.toT n next ts ids
    | none => .fail
  | _, _, _ => .fail
def LoopFact (cfg : Cfg) (own : Nat → Bool) (lp : Nat → Option (St → T)) (un fuel : Nat) (lb : Code) (id n next : Nat) (ts ids : List Nat) (as : List A) (os : List (Option O)) (R : R3) : Prop :=
  ∃ (I : Nat → List A) (J : Nat → List O) (N : Nat) (E : XK → List A → List O → Prop), as = I 0 ∧ OSims os (J 0) ∧ (∀ k, k ≤ N → allLive ids (I k) (J k) = true) ∧ (∀ k, ids.length = (J k).length) ∧
    (∀ k, k ≤ N → ((exec cfg own lp un fuel lb (litSt n next ts ids (I k) (J k))).rt ts ids).Ok fun x as os => match x with
      | .normal => k < N ∧ as = I (k + 1) ∧ OSims os (J (k + 1))
      | x => ∃ as' os', ALe as as' ∧ OSims os os' ∧ allLive ids as' os' = true ∧ E x as' os') ∧
    ∀ x as os, E x as os → ∀ L, R.Ok L → L (x.leave id) as os
omit [XS] in
theorem block_ok {P : Program} {cfg : Cfg} (hc : CfgOK P cfg) {own : Nat → Bool} {lp : Nat → Option (St → T)} {un fuel : Nat} {lb : Code} (hlp : LpOK P lp lb) {id n next : Nat} {ts ids : List Nat} {F : List A → List (Option O) → Option R3}
    (H : ∀ as os R, F as os = some R → R.Ok (fun _ _ _ => True) → LoopFact cfg own lp un fuel lb id n next ts ids as os R) : CodeOK P (fun _ σ => sumAt n next ts ids F σ) (.block id (.loop lb)) := by
  intro σ L hok X B w0 U G a w hsr hg
  simp only [sumAt] at hok
  split at hok
  · rename_i h1 h2 h3
    have e1 := Nat.eq_of_beq_eq_true h1
    have e2 := Nat.eq_of_beq_eq_true h2
    have e3 := Nat.eq_of_beq_eq_true h3
    split at hok
    · rename_i R hR
      obtain ⟨I, J, N, E, f1, f2, f3, f4, f5, f6⟩ := H _ _ _ hR ((R3.of_toT hok).mono fun _ _ _ _ => trivial)
      have hmk : ∀ as os, σ.mk' ts ids as os = litSt n next ts ids as os := fun as os => by
        simp only [St.mk', litSt, e1, e2, e3]
      have hids : ∀ i, i ∈ ids → ∃ o, σ.obj i = some o := by
        intro i hi
        obtain ⟨k, hk⟩ := List.mem_iff_getElem?.1 hi
        have hl := f2.at_.1
        have hkl := (List.getElem?_eq_some_iff.1 hk).1
        have hJ : (J 0)[k]? = some ((J 0)[k]'(by rw [← f4 0]; exact hkl)) := List.getElem?_eq_getElem _
        have := f2.at_.2 k (σ.obj i) _ (by rw [List.getElem?_map, hk]; rfl) hJ
        revert this
        generalize (J 0)[k]'(by rw [← f4 0]; exact hkl) = o'
        intro hs
        cases o' with
        | var cs => exact ⟨_, hs⟩
        | arr e z l cs => exact ⟨_, hs⟩
        | row e esz len get => obtain ⟨e0, g0, h, _⟩ := hs; exact ⟨_, h⟩
      have hloop := loop_rule (σ := σ) (own := own) (un := un) (fuel := fuel) hc hlp ts ids I J N E hids (fun i o _ hlt => by omega) f1 f2 f3 f4 (fun k hk => by rw [hmk]; exact f5 k hk)
      refine wp_block (wp_mono (hloop X B w0 U G a w hsr hg) ?_)
      rintro e a1 w1 ⟨x, σ1, rfl, ⟨as, os, hE, _, rfl⟩, hout⟩
      have hL := f6 x as os hE _ (R3.of_toT hok)
      rw [hmk] at hout
      cases x with
      | normal => exact ⟨.normal, _, rfl, hL, hout⟩
      | ret => exact ⟨.ret, _, rfl, hL, hout⟩
      | exit i =>
        show Exit.inBlock id _ (.exit i) a1 w1
        simp only [Exit.inBlock]
        cases hb : Nat.beq i id
        · rw [if_neg (Nat.ne_of_beq_eq_false hb)]
          simp only [XK.leave, hb] at hL
          exact ⟨.exit i, _, rfl, hL, hout⟩
        · rw [if_pos (Nat.eq_of_beq_eq_true hb)]
          simp only [XK.leave, hb] at hL
          exact ⟨.normal, _, rfl, hL, hout⟩
    · exact hok.elim
  · exact hok.elim
def blockAt (c : Code) (id : Nat) : Code := match look (blocksOf c) id with | some b => b | none => .skip
def blocksOnce (c : Code) : Bool := noTwice ((blocksOf c).map (·.1))
omit [XS] in
theorem look_once {β : Type} : ∀ {l : List (Nat × β)} {i : Nat} {b : β}, noTwice (l.map (·.1)) = true → (i, b) ∈ l → look l i = some b
  | p :: r, i, b, h, hm => by
    simp only [List.map_cons, noTwice] at h
    split at h
    · cases h
    · rename_i hn
      rcases List.mem_cons.1 hm with rfl | hm
      · exact look_cons_same _ _ _
      · rw [look_cons_other _ _ fun e => ?_]
        · exact look_once h hm
        · have hm2 : i ∈ r.map (fun x => x.1) := List.mem_map.2 ⟨(i, b), hm, rfl⟩
          rw [← e, memNat_of_mem hm2] at hn
          cases hn
omit [XS] in
theorem lp_list {P : Program} {c : Code} (hu : blocksOnce c = true) {l : List (Nat × (St → T))} (h : ∀ id f, (id, f) ∈ l → CodeOK P (fun _ σ => f σ) (.block id (blockAt c id))) : LpOK P (look l) c := by
  intro i b f hm hf
  have hb : blockAt c i = b := by unfold blockAt; rw [look_once hu hm]
  rw [← hb]
  have key : ∀ (l : List (Nat × (St → T))), look l i = some f → (i, f) ∈ l := by
    intro l
    induction l with
    | nil => intro h; cases h
    | cons p r ih =>
      intro h
      simp only [look] at h
      split at h
      · rename_i he
        have e := Nat.eq_of_beq_eq_true he
        injection h with h
        subst e h
        exact List.mem_cons_self
      · exact List.mem_cons_of_mem _ (ih h)
  exact h i f (key l hf)
def bodyOf (f : Func) : Code := match f.body with | some c => c | none => .skip
def loopOf (f : Func) (id : Nat) : Code := match blockAt (bodyOf f) id with | .loop b => b | _ => .skip
def isLoop : Code → Bool
  | .loop _ => true
  | _ => false
omit [XS] in
theorem lp_loops {P : Program} {fn : Func} {l : List (Nat × (St → T))} (hu : blocksOnce (bodyOf fn) = true) (hl : (l.map (·.1)).all (fun id => isLoop (blockAt (bodyOf fn) id)) = true)
    (h : ∀ p, p ∈ l → CodeOK P (fun _ σ => p.2 σ) (.block p.1 (.loop (loopOf fn p.1)))) : LpOK P (look l) (bodyOf fn) := by
  refine lp_list hu fun id f hm => ?_
  have h1 := List.all_eq_true.1 hl id (List.mem_map.2 ⟨_, hm, rfl⟩)
  have h2 := h _ hm
  have e : blockAt (bodyOf fn) id = .loop (loopOf fn id) := by
    unfold loopOf
    cases hb : blockAt (bodyOf fn) id <;> rw [hb] at h1 <;> first | rfl | cases h1
  rw [e]
  exact h2
omit [XS] in
theorem lp_none {P : Program} (c : Code) : LpOK P (fun _ => none) c := fun _ _ _ _ h => by cases h
end Go.Fw

/-
  The executor's tables, read off the program.
-/
namespace Go.Fw
open Go.RowKit (Below)
def zeroA : Value → Option A
  | .bool b => some (.bool b)
  | .int k n => some (.int k n)
  | .float k 0 => some (.flt k 0)
  | .complex k 0 0 => some (.cpx k 0 0)
  | .pointer none => some .nilp
  | .slice none 0 0 => some .emp
  | _ => none
theorem zeroA_ok {v : Value} {a : A} (h : zeroA v = some a) : zeroOk v a = true := by
  unfold zeroA at h
  split at h <;> first | (injection h with h; subst h; simp [zeroOk]) | cases h
def zerosA : List Value → Option (List A)
  | [] => some []
  | v :: r => match zeroA v, zerosA r with
    | some a, some l => some (a :: l)
    | _, _ => none
theorem zerosA_ok : ∀ {vs : List Value} {as : List A}, zerosA vs = some as → zerosOk vs as = true
  | [], as, h => by simp only [zerosA, Option.some.injEq] at h; subst h; rfl
  | v :: r, as, h => by
    simp only [zerosA] at h
    split at h
    · rename_i a l ha hl
      injection h with h
      subst h
      simp only [zerosOk, zeroA_ok ha, zerosA_ok hl, Bool.and_self]
    · cases h
def fieldsOf (P : Program) (d : TypeDesc) : Option (List (Nat × Nat)) :=
  match d with
  | .struct fs => match fs.toList.mapM (fun f => (P.info? f.type).map fun i => (f.offset, i.size)) with
    | some l => match l.all (fun p => Nat.blt 0 p.2) with | true => some l | false => none
    | none => none
  | _ => some []
def isAggV : Value → Bool
  | .agg _ => true
  | _ => false
def isF32 (P : Program) (t : Nat) : Bool := match P.underlying t with | some (.float .f32) => true | _ => false
def v3Of (P : Program) (t : Nat) (d : TypeDesc) : Bool :=
  match d with
  | .struct fs => match fs.toList with
    | [f, g, h] => (f.name != "_" && (g.name != "_" && h.name != "_")) && (Nat.beq f.offset 0 && (Nat.beq g.offset 1 && Nat.beq h.offset 2)) && (isF32 P f.type && (isF32 P g.type && isF32 P h.type)) && (!P.stoodInHeld t && !P.eqGuardType P.depth t)
    | _ => false
  | _ => false
theorem isF32_ok {P : Program} {t : Nat} (h : isF32 P t = true) : P.underlying t = some (.float .f32) := by
  unfold isF32 at h
  split at h
  · rename_i he; exact he
  · cases h
theorem v3Of_ok {P : Program} {t : Nat} {d : TypeDesc} (hd : P.underlying t = some d) (h : v3Of P t d = true) : V3OK P t := by
  unfold v3Of at h
  split at h
  · rename_i fs
    split at h
    · rename_i f g k hl
      simp only [Bool.and_eq_true, bne_iff_ne, Bool.not_eq_true'] at h
      obtain ⟨⟨⟨⟨a1, a2, a3⟩, b1, b2, b3⟩, c1, c2, c3⟩, d1, d2⟩ := h
      exact ⟨fs, f, g, k, hd, hl, ⟨a1, a2, a3⟩, ⟨Nat.eq_of_beq_eq_true b1, Nat.eq_of_beq_eq_true b2, Nat.eq_of_beq_eq_true b3⟩, ⟨isF32_ok c1, isF32_ok c2, isF32_ok c3⟩, d1, d2⟩
    · cases h
  · cases h
def tiOf (P : Program) (t : Nat) : Option TI :=
  match P.info? t, P.underlying t with
  | some i, some d => match i.zero with
    | some z => match zerosA z.cells.toList, fieldsOf P d with
      | some zs, some fs => match Nat.beq zs.length i.size && Nat.blt 0 i.size && (match aggDesc d with | true => isAggV z | false => Nat.beq i.size 1) with
        | true => some { agg := aggDesc d, size := i.size, bytes := i.bytes, zero := zs, fields := fs,
                         elem := (match d with | .slice e => some e | _ => none), fk := (match d with | .float k => some k | _ => none),
                         ik := (match d with | .int k => some k | _ => none), ck := (match d with | .complex k => some k | _ => none), isBool := (match d with | .bool => true | _ => false), v3 := v3Of P t d }
        | false => none
      | _, _ => none
    | none => none
  | _, _ => none
theorem tiOf_ok {P : Program} {t : Nat} {ti : TI} (h : tiOf P t = some ti) : TIOK P t ti := by
  unfold tiOf at h
  split at h
  · rename_i i d hi hd
    split at h
    · rename_i z hz
      split at h
      · rename_i zs fs hzs hfs
        split at h
        · rename_i hchk
          simp only [Bool.and_eq_true] at hchk
          injection h with h
          subst h
          have hlen := Nat.eq_of_beq_eq_true hchk.1.1
          refine ⟨⟨i, d, z, hi, hd, rfl, rfl, hz, zerosA_ok hzs, rfl, hlen, fun ha => ?_, fun ha => ?_⟩, fun hne => ?_, fun e he => ?_, fun k hk => ?_, fun k hk => ?_, fun k hk => ?_, fun hb => ?_, fun hv => v3Of_ok hd hv, blt_lt hchk.1.2⟩
          · have h2 := hchk.2
            rw [show aggDesc d = true from ha] at h2
            cases z <;> simp [isAggV] at h2
            exact ⟨_, rfl⟩
          · have h2 := hchk.2
            rw [show aggDesc d = false from ha] at h2
            exact Nat.eq_of_beq_eq_true h2
          · simp only at hne
            unfold fieldsOf at hfs
            split at hfs
            · rename_i fa
              split at hfs
              · rename_i l hl
                split at hfs
                · rename_i hall
                  injection hfs with hfs
                  subst hfs
                  exact ⟨fa, hd, hl, fun p hp => blt_lt (List.all_eq_true.1 hall p hp)⟩
                · cases hfs
              · cases hfs
            · injection hfs with hfs
              exact absurd hfs.symm hne
          · simp only at he; split at he <;> first | (injection he with he; subst he; exact hd) | cases he
          · simp only at hk; split at hk <;> first | (injection hk with hk; subst hk; exact hd) | cases hk
          · simp only at hk; split at hk <;> first | (injection hk with hk; subst hk; exact hd) | cases hk
          · simp only at hk; split at hk <;> first | (injection hk with hk; subst hk; exact hd) | cases hk
          · simp only at hb; split at hb <;> first | exact hd | cases hb
        · cases h
      · cases h
    · cases h
  · cases h
def mkCfg (tab : List (Nat × TI)) (fts : List (Nat × Func)) (xts : List (Nat × Ext)) (env : Nat → Option (List A → Option (Bool × A))) : Cfg :=
  { tt := look tab, ft := look fts, xt := look xts, env := env }
theorem look_mem {β : Type} : ∀ {l : List (Nat × β)} {i : Nat} {b : β}, look l i = some b → (i, b) ∈ l
  | p :: r, i, b, h => by
    simp only [look] at h
    split at h
    · rename_i he
      have e := Nat.eq_of_beq_eq_true he
      injection h with h
      subst e h
      exact List.mem_cons_self
    · exact List.mem_cons_of_mem _ (look_mem h)
structure XtOK (P : Program) (f : Nat) (e : Ext) (fn : Func) : Prop where
  at_ : P.funcs[f]? = some fn
  name : (fn.name == "runtime.NumGoroutine") = false
  body : fn.body.isNone = true
  next : Extern.findNext fn = none
  run : Extern.find fn = some (extRun e)
def tabOf (P : Program) : List Nat → Option (List (Nat × TI))
  | [] => some []
  | t :: r => match tiOf P t, tabOf P r with
    | some ti, some l => some ((t, ti) :: l)
    | _, _ => none
theorem tabOf_ok {P : Program} : ∀ {ts : List Nat} {tab : List (Nat × TI)}, tabOf P ts = some tab → ∀ t ti, (t, ti) ∈ tab → TIOK P t ti
  | [], tab, h, t, ti, hm => by simp only [tabOf, Option.some.injEq] at h; subst h; cases hm
  | u :: r, tab, h, t, ti, hm => by
    simp only [tabOf] at h
    split at h
    · rename_i tu l hu hl
      injection h with h
      subst h
      rcases List.mem_cons.1 hm with e | hm
      · injection e with e1 e2; subst e1 e2; exact tiOf_ok hu
      · exact tabOf_ok hl t ti hm
    · cases h
theorem cfg_ok {P : Program} {ts : List Nat} {tab : List (Nat × TI)} {fts : List (Nat × Func)} {xts : List (Nat × Ext)} {env : Nat → Option (List A → Option (Bool × A))} (h1 : tabOf P ts = some tab)
    (h2 : ∀ f fn, (f, fn) ∈ fts → P.funcs[f]? = some fn ∧ (fn.name == "runtime.NumGoroutine") = false) (h3 : ∀ f e, (f, e) ∈ xts → ∃ fn, XtOK P f e fn) (h4 : EnvOK P env) (h5 : P.follows .mixedOrders = true) : CfgOK P (mkCfg tab fts xts env) :=
  ⟨fun t ti h => tabOf_ok h1 t ti (look_mem h), fun f fn h => h2 f fn (look_mem h), fun f e h => let ⟨fn, k⟩ := h3 f e (look_mem h); ⟨fn, k.at_, k.name, k.body, k.next, k.run⟩, h4, fun _ _ _ _ h => (by cases h), h5⟩
end Go.Fw

/-
  A function without loops is its own contract.
-/
namespace Go.Fw
open Go.RowKit (Below)
mutual
def pickR (b : Bool) : A → A → Option A
  | .tup xs, y => match y with
    | .tup ys => match pickRs b xs ys with | some zs => some (.tup zs) | none => none
    | _ => none
  | .agg xs, y => match y with
    | .agg ys => match pickRs b xs ys with | some zs => some (.agg zs) | none => none
    | _ => none
  | .emp, y => match y with | .emp => some .emp | _ => none
  | .nils, y => match y with | .nils => some .nils | _ => none
  | .nilp, y => match y with | .nilp => some .nilp | _ => none
  | .cpx k x y, z => match z with
    | .cpx k' x' y' => match decide (k = k') with | true => some (.cpx k (cond b x x') (cond b y y')) | false => none
    | _ => none
  | x, y => pickA b x y
termination_by structural x => x
def pickRs (b : Bool) : List A → List A → Option (List A)
  | [], y => match y with | [] => some [] | _ => none
  | x :: r, y => match y with
    | y :: s => match pickR b x y, pickRs b r s with
      | some z, some l => some (z :: l)
      | _, _ => none
    | _ => none
termination_by structural x => x
end
theorem pickA_ok {b : Bool} {x y r : A} (h : pickA b x y = some r) : r = cond b x y := by
  unfold pickA at h
  split at h
  · injection h with h; subst h; cases b <;> rfl
  · split at h
    · rename_i hk; have := of_decide_eq_true hk; subst this; injection h with h; subst h; cases b <;> rfl
    · cases h
  · split at h
    · rename_i hk; have := of_decide_eq_true hk; subst this; injection h with h; subst h; cases b <;> rfl
    · cases h
  · cases h
mutual
theorem pickR_ok {b : Bool} : ∀ (x y r : A), pickR b x y = some r → r = cond b x y
  | .tup xs, y, r, h => by
    simp only [pickR] at h
    split at h
    · split at h
      · rename_i zs hz; injection h with h; subst h; rw [pickRs_ok xs _ _ hz]; cases b <;> rfl
      · cases h
    · cases h
  | .agg xs, y, r, h => by
    simp only [pickR] at h
    split at h
    · split at h
      · rename_i zs hz; injection h with h; subst h; rw [pickRs_ok xs _ _ hz]; cases b <;> rfl
      · cases h
    · cases h
  | .emp, y, r, h => by
    simp only [pickR] at h
    split at h
    · injection h with h; subst h; cases b <;> rfl
    · cases h
  | .nils, y, r, h => by
    simp only [pickR] at h
    split at h
    · injection h with h; subst h; cases b <;> rfl
    · cases h
  | .nilp, y, r, h => by
    simp only [pickR] at h
    split at h
    · injection h with h; subst h; cases b <;> rfl
    · cases h
  | .cpx k x y, z, r, h => by
    simp only [pickR] at h
    split at h
    · split at h
      · rename_i hk; have := of_decide_eq_true hk; subst this; injection h with h; subst h; cases b <;> rfl
      · cases h
    · cases h
  | .any, y, r, h | .bool _, y, r, h | .int .., y, r, h | .flt .., y, r, h | .ptr .., y, r, h | .rpt .., y, r, h | .rop .., y, r, h | .sl .., y, r, h | .ro .., y, r, h | .fn .., y, r, h => by
    simp only [pickR] at h
    exact pickA_ok h
theorem pickRs_ok {b : Bool} : ∀ (x y r : List A), pickRs b x y = some r → r = cond b x y
  | [], y, r, h => by
    simp only [pickRs] at h
    split at h
    · injection h with h; subst h; cases b <;> rfl
    · cases h
  | x :: xr, y, r, h => by
    simp only [pickRs] at h
    split at h
    · split at h
      · rename_i z l hz hl; injection h with h; subst h; rw [pickR_ok x _ _ hz, pickRs_ok xr _ _ hl]; cases b <;> rfl
      · cases h
    · cases h
end
def T.val (cfg : Cfg) (fn : Func) : T → Option (Bool × A)
  | .leaf x σ => match leafRes cfg fn x σ with | some a => some (true, a) | none => none
  | .ite b t e => match t.val cfg fn, e.val cfg fn with
    | some (c, a), some (c', a') => match pickR b a a' with | some r => some (cond b c c', r) | none => none
    | some (c, a), none => some (b && c, a)
    | none, some (c', a') => some (!b && c', a')
    | none, none => none
  | .fail => none
  | .loop .. => none
theorem T.val_ok {P : Program} {cfg : Cfg} {fn : Func} : ∀ {t : T} {c : Bool} {r : A}, t.val cfg fn = some (c, r) → c = true → t.Ok P fun x σ => leafRes cfg fn x σ = some r
  | .leaf x σ, c, r, h, _ => by
    simp only [T.val] at h
    split at h
    · rename_i a ha; simp only [Option.some.injEq, Prod.mk.injEq] at h; obtain ⟨_, rfl⟩ := h; exact ha
    · cases h
  | .ite b t e, c, r, h, hc => by
    simp only [T.val] at h
    split at h
    · rename_i c1 a1 c2 a2 h1 h2
      split at h
      · rename_i r' hr
        simp only [Option.some.injEq, Prod.mk.injEq] at h
        obtain ⟨hcc, rfl⟩ := h
        have e := pickR_ok _ _ _ hr
        subst hcc
        refine ⟨fun hb => ?_, fun hb => ?_⟩
        · subst hb; subst e; exact T.val_ok h1 hc
        · subst hb; subst e; exact T.val_ok h2 hc
      · cases h
    · rename_i c1 a1 h1 h2
      simp only [Option.some.injEq, Prod.mk.injEq] at h
      obtain ⟨hcc, rfl⟩ := h
      rw [← hcc] at hc
      simp only [Bool.and_eq_true] at hc
      refine ⟨fun _ => T.val_ok h1 hc.2, fun hb => ?_⟩
      rw [hb] at hc
      cases hc.1
    · rename_i c1 a1 h1 h2
      simp only [Option.some.injEq, Prod.mk.injEq] at h
      obtain ⟨hcc, rfl⟩ := h
      rw [← hcc] at hc
      simp only [Bool.and_eq_true, Bool.not_eq_true'] at hc
      refine ⟨fun hb => ?_, fun _ => T.val_ok h2 hc.2⟩
      rw [hb] at hc
      cases hc.1
    · cases h
  | .fail, _, _, h, _ => by simp [T.val] at h
  | .loop _ _ _, _, _, h, _ => by simp [T.val] at h
def autoLp (cfg : Cfg) (lp : Nat → Option (St → T)) (fn : Func) (ds : List A) : Option (Bool × A) :=
  match Nat.ble ds.length fn.ntmps with
  | false => none
  | true => match (exec cfg (fun _ => true) lp 0 1000 (bodyOf fn) (St.enter fn ds [] 0)).val cfg fn with
    | some (c, r) => some (c, r)
    | none => none
def auto (cfg : Cfg) (fn : Func) (ds : List A) : Option (Bool × A) := autoLp cfg (fun _ => none) fn ds
theorem autoLp_ok {P : Program} {cfg : Cfg} (hc : CfgOK P cfg) {f : Nat} {fn : Func} {lp : Nat → Option (St → T)} (hf : P.funcs[f]? = some fn) (hb : fn.body.isSome = true) (hlp : LpOK P lp (bodyOf fn)) {ds : List A} {c : Bool} {r : A}
    (h : autoLp cfg lp fn ds = some (c, r)) (hct : c = true) : PureCall P f ds r := by
  unfold autoLp at h
  split at h
  · cases h
  · rename_i hle
    split at h
    · rename_i c' r' hv
      simp only [Option.some.injEq, Prod.mk.injEq] at h
      obtain ⟨rfl, rfl⟩ := h
      have hb' : fn.body = some (bodyOf fn) := by
        unfold bodyOf
        cases h : fn.body
        · rw [h] at hb; cases hb
        · rfl
      exact pure_of_tree hc hf hb' (Nat.le_of_ble_eq_true hle) hlp (T.val_ok hv hct)
    · cases h
def EnvAt (P : Program) (f : Nat) (s : List A → Option (Bool × A)) : Prop :=
  (∃ fn, P.funcs[f]? = some fn ∧ fn.body.isSome = true ∧ (fn.name == "runtime.NumGoroutine") = false) ∧ ∀ ds c r, s ds = some (c, r) → c = true → PureCall P f ds r
theorem auto_at {P : Program} {cfg : Cfg} (hc : CfgOK P cfg) {f : Nat} {fn : Func} (hf : P.funcs[f]? = some fn) (hb : fn.body.isSome = true) (hn : (fn.name == "runtime.NumGoroutine") = false) : EnvAt P f (auto cfg fn) :=
  ⟨⟨fn, hf, hb, hn⟩, fun _ _ _ h hct => autoLp_ok hc hf hb (lp_none _) h hct⟩
theorem autoLp_at {P : Program} {cfg : Cfg} (hc : CfgOK P cfg) {f : Nat} {fn : Func} {lp : Nat → Option (St → T)} (hlp : LpOK P lp (bodyOf fn)) (hf : P.funcs[f]? = some fn) (hb : fn.body.isSome = true) (hn : (fn.name == "runtime.NumGoroutine") = false) : EnvAt P f (autoLp cfg lp fn) :=
  ⟨⟨fn, hf, hb, hn⟩, fun _ _ _ h hct => autoLp_ok hc hf hb hlp h hct⟩
theorem env_nil {P : Program} : EnvOK P (look []) := fun f s h => by cases h
theorem env_cons {P : Program} {f : Nat} {s : List A → Option (Bool × A)} {l : List (Nat × (List A → Option (Bool × A)))} (h : EnvAt P f s) (hl : EnvOK P (look l)) : EnvOK P (look ((f, s) :: l)) := by
  intro g s' hg
  simp only [look] at hg
  split at hg
  · rename_i he
    have e := Nat.eq_of_beq_eq_true he
    injection hg with hg
    subst e hg
    exact h
  · exact hl g s' hg
end Go.Fw

/-
  Loops that look for the first place where something fails.
-/
namespace Go.Fw
def allUpTo (f : Nat → Bool) : Nat → Bool
  | 0 => true
  | n + 1 => allUpTo f n && f n
theorem allUpTo_iff {f : Nat → Bool} : ∀ {n : Nat}, allUpTo f n = true ↔ ∀ i, i < n → f i = true
  | 0 => ⟨fun _ i hi => absurd hi (Nat.not_lt_zero _), fun _ => rfl⟩
  | n + 1 => by
    simp only [allUpTo, Bool.and_eq_true, allUpTo_iff (n := n)]
    constructor
    · rintro ⟨h1, h2⟩ i hi
      rcases Nat.lt_succ_iff_lt_or_eq.1 hi with h | rfl
      · exact h1 i h
      · exact h2
    · intro h
      exact ⟨fun i hi => h i (by omega), h n (by omega)⟩
theorem first_fail (f : Nat → Bool) (m : Nat) : ∃ N, N ≤ m ∧ (∀ i, i < N → f i = true) ∧ ((N = m ∧ allUpTo f m = true) ∨ (N < m ∧ f N = false ∧ allUpTo f m = false)) := by
  cases h : allUpTo f m
  · have hex : ∃ i, i < m ∧ f i = false := by
      refine Classical.byContradiction fun hne => ?_
      have : allUpTo f m = true := allUpTo_iff.2 fun i hi => by
        cases hf : f i
        · exact absurd ⟨i, hi, hf⟩ hne
        · rfl
      rw [h] at this
      cases this
    obtain ⟨i, hi, hf⟩ := hex
    obtain ⟨k, hk, hf', hall⟩ := least (f := f) i hf
    exact ⟨k, by omega, hall, .inr ⟨by omega, hf', rfl⟩⟩
  · exact ⟨m, Nat.le_refl _, fun i hi => allUpTo_iff.1 h i hi, .inl ⟨rfl, rfl⟩⟩
theorem OSims.self : ∀ (os : List O), OSims (os.map some) os
  | [] => trivial
  | o :: r => ⟨by
      cases o with
      | var cs => rfl
      | arr e z l cs => rfl
      | row e esz len get => exact ⟨e, get, rfl, .inr rfl, fun _ _ => rfl⟩, OSims.self r⟩
end Go.Fw

/-
  Counting loops that may leave early, with objects.
-/
namespace Go.Fw
def firstIdx (f : Nat → Bool) : Nat → Nat
  | 0 => 0
  | n + 1 => cond (allUpTo f n) (cond (f n) (n + 1) n) (firstIdx f n)
theorem firstIdx_eq {f : Nat → Bool} : ∀ {m N : Nat}, N < m → f N = false → (∀ i, i < N → f i = true) → firstIdx f m = N
  | 0, N, h, _, _ => absurd h (Nat.not_lt_zero _)
  | m + 1, N, h, hf, hall => by
    simp only [firstIdx]
    by_cases hN : N = m
    · subst hN
      rw [allUpTo_iff.2 hall, hf]
      rfl
    · have hNm : N < m := by omega
      have : allUpTo f m = false := by
        cases hx : allUpTo f m
        · rfl
        · rw [allUpTo_iff.1 hx N hNm] at hf; cases hf
      rw [this]
      exact firstIdx_eq hNm hf hall
theorem allUpTo_false {f : Nat → Bool} {m N : Nat} (h : N < m) (hf : f N = false) : allUpTo f m = false := by
  cases hx : allUpTo f m
  · rfl
  · rw [allUpTo_iff.1 hx N h] at hf; cases hf
theorem for_fact {cfg : Cfg} {own : Nat → Bool} {lp : Nat → Option (St → T)} {un fuel : Nat} {lb : Code} {id n next : Nat} {ts ids : List Nat} {os : List (Option O)} (f : Nat → Bool) (m : Nat) (I : Nat → List A) (J : Nat → List O) (az : List A) (xR : XK) (aR asR : Nat → List A) (asE : List A) (osE : List O)
    (h0 : az = I 0) (hos : OSims os (J 0)) (hlive : ∀ k, allLive ids (I k) (J k) = true) (hlen : ∀ k, ids.length = (J k).length)
    (hle : ∀ k, ALe (aR k) (asR k)) (hliveR : ∀ k, allLive ids (asR k) (J k) = true) (hE1 : ALe (I m) asE) (hE2 : OSims ((J m).map some) osE) (hE3 : allLive ids asE osE = true) (hxR : xR ≠ .normal)
    (hround : ∀ k, k ≤ m → ∀ L, (k < m → f k = true → ∀ o, OSims o (J (k + 1)) → L .normal (I (k + 1)) o) → (k < m → f k = false → L xR (aR k) ((J k).map some)) → (k = m → L (.exit id) (I m) ((J m).map some)) →
      ((exec cfg own lp un fuel lb (litSt n next ts ids (I k) (J k))).rt ts ids).Ok L) {R : R3}
    (hR : ∀ L, R.Ok L → (allUpTo f m = true → L .normal asE osE) ∧ ∀ N, N < m → f N = false → (∀ i, i < N → f i = true) → L (xR.leave id) (asR N) (J N)) : LoopFact cfg own lp un fuel lb id n next ts ids az os R := by
  obtain ⟨N, hN, hall, hend⟩ := first_fail f m
  refine ⟨I, J, N, fun x a o => (x = .exit id ∧ a = asE ∧ o = osE ∧ allUpTo f m = true) ∨ (x = xR ∧ a = asR N ∧ o = J N ∧ N < m ∧ f N = false), h0, hos, fun k _ => hlive k, hlen, fun k hk => ?_, ?_⟩
  · refine hround k (by omega) _ (fun h1 h2 o ho => ?_) (fun h1 h2 => ?_) (fun h1 => ?_)
    · have hkN : k < N := by
        rcases Nat.lt_or_ge k N with h | h
        · exact h
        · have : k = N := by omega
          subst this
          rcases hend with ⟨h3, _⟩ | ⟨_, h3, _⟩
          · omega
          · rw [h3] at h2; cases h2
      exact ⟨hkN, rfl, ho⟩
    · have hkN : k = N := by
        rcases Nat.lt_or_ge k N with h | h
        · rw [hall k h] at h2; cases h2
        · omega
      subst hkN
      cases xR with
      | normal => exact absurd rfl hxR
      | ret => exact ⟨asR k, J k, hle _, OSims.self _, hliveR k, .inr ⟨rfl, rfl, rfl, h1, h2⟩⟩
      | exit i => exact ⟨asR k, J k, hle _, OSims.self _, hliveR k, .inr ⟨rfl, rfl, rfl, h1, h2⟩⟩
    · have hkN : N = m := by omega
      rcases hend with ⟨_, h3⟩ | ⟨h3, _⟩
      · exact ⟨asE, osE, hE1, hE2, hE3, .inl ⟨rfl, rfl, rfl, h3⟩⟩
      · omega
  · rintro x a o (⟨rfl, rfl, rfl, h⟩ | ⟨rfl, rfl, rfl, h, h'⟩) L hL
    · have hb : Nat.beq id id = true := Nat.beq_refl id
      simp only [XK.leave, hb]
      exact (hR L hL).1 h
    · exact (hR L hL).2 N h h' hall
theorem for_fact0 {cfg : Cfg} {own : Nat → Bool} {lp : Nat → Option (St → T)} {un fuel : Nat} {lb : Code} {id n next : Nat} {ts : List Nat} (f : Nat → Bool) (m : Nat) (I : Nat → List A) (az : List A) (xR : XK) (aR asR : Nat → List A) (asE : List A)
    (h0 : az = I 0) (hlive : ∀ k, A.liveIns [] (I k) = true)
    (hle : ∀ k, ALe (aR k) (asR k)) (hliveR : ∀ k, A.liveIns [] (asR k) = true) (hE1 : ALe (I m) asE) (hE3 : A.liveIns [] asE = true) (hxR : xR ≠ .normal)
    (hround : ∀ k, k ≤ m → ∀ L, (k < m → f k = true → L .normal (I (k + 1)) []) → (k < m → f k = false → L xR (aR k) []) → (k = m → L (.exit id) (I m) []) →
      ((exec cfg own lp un fuel lb (litSt n next ts [] (I k) [])).rt ts []).Ok L) {R : R3}
    (hR : ∀ L, R.Ok L → (allUpTo f m = true → L .normal asE []) ∧ ∀ N, N < m → f N = false → (∀ i, i < N → f i = true) → L (xR.leave id) (asR N) []) : LoopFact cfg own lp un fuel lb id n next ts [] az [] R :=
  for_fact (os := []) (ids := []) f m I (fun _ => []) az xR aR asR asE [] h0 trivial (fun k => by simp only [allLive, hlive k, List.all_nil, Bool.and_self]) (fun _ => rfl) hle (fun k => by simp only [allLive, hliveR k, List.all_nil, Bool.and_self]) hE1 trivial (by simp only [allLive, hE3, List.all_nil, Bool.and_self]) hxR
    (fun k hk L h1 h2 h3 => hround k hk L (fun a b => h1 a b [] trivial) h2 h3) hR
theorem blocks_sub : ∀ (c : Code) (id : Nat) (b : Code), (id, b) ∈ blocksOf c → ∀ p, p ∈ blocksOf b → p ∈ blocksOf c
  | .seq x y, id, b, h, p, hp => by
    simp only [blocksOf, List.mem_append] at h ⊢
    rcases h with h | h
    · exact .inl (blocks_sub x id b h p hp)
    · exact .inr (blocks_sub y id b h p hp)
  | .cond _ x y, id, b, h, p, hp => by
    simp only [blocksOf, List.mem_append] at h ⊢
    rcases h with h | h
    · exact .inl (blocks_sub x id b h p hp)
    · exact .inr (blocks_sub y id b h p hp)
  | .block i x, id, b, h, p, hp => by
    simp only [blocksOf, List.mem_cons] at h ⊢
    rcases h with h | h
    · injection h with h1 h2
      subst h2
      exact .inr hp
    · exact .inr (blocks_sub x id b h p hp)
  | .loop x, id, b, h, p, hp => by
    simp only [blocksOf] at h ⊢
    exact blocks_sub x id b h p hp
  | .skip, _, _, h, _, _ | .ret, _, _, h, _, _ | .exit _, _, _, h, _, _ => by simp [blocksOf] at h
  | .region .., _, _, h, _, _ | .rangeFunc .., _, _, h, _, _ | .scope .., _, _, h, _, _ | .label .., _, _, h, _, _ | .goto .., _, _, h, _, _ | .refuse .., _, _, h, _, _ => by simp [blocksOf] at h
theorem lp_in {P : Program} {fn : Func} {lp : Nat → Option (St → T)} (h : LpOK P lp (bodyOf fn)) (id : Nat) : LpOK P lp (loopOf fn id) := by
  intro i b f hm hf
  refine h i b f ?_ hf
  unfold loopOf at hm
  split at hm
  · rename_i lb hb
    unfold blockAt at hb
    split at hb
    · rename_i x hx
      subst hb
      exact blocks_sub _ _ _ (look_mem hx) _ (by simpa only [blocksOf] using hm)
    · cases hb
  · simp [blocksOf] at hm
end Go.Fw

/-
  Plain laws of canonical floats.
-/
namespace Go.Fw
open Ieee (Datum Format)
theorem forder_none {k : FloatKind} {x y : Nat} : forder k x y = none ↔ (isNaN k x = true ∨ isNaN k y = true) := by
  show ((k.format.read x).order (k.format.read y)) = none ↔ ((k.format.read x).isNaN = true ∨ (k.format.read y).isNaN = true)
  cases hx : k.format.read x <;> cases hy : k.format.read y <;> simp [Datum.order, Datum.isNaN]
theorem fop_nan {op : BinOp} {k : FloatKind} {x y : Nat} (h : isNaN k x = true ∨ isNaN k y = true) : fop op k x y = qnan k := by
  have h' : (k.format.read x).isNaN = true ∨ (k.format.read y).isNaN = true := h
  have key : floatBits op k x y = none := by
    unfold floatBits
    split <;> try rfl
    · simp only [Format.add, Option.map_eq_none_iff]
      cases hx : k.format.read x <;> cases hy : k.format.read y <;> simp_all [Datum.isNaN, Datum.sum]
    · simp only [Format.sub, Option.map_eq_none_iff]
      cases hx : k.format.read x <;> cases hy : k.format.read y <;> simp_all [Datum.isNaN, Datum.sum, Datum.opposite]
    · simp only [Format.mul, Option.map_eq_none_iff]
      cases hx : k.format.read x <;> cases hy : k.format.read y <;> simp_all [Datum.isNaN, Datum.product]
    · simp only [Format.div, Option.map_eq_none_iff]
      cases hx : k.format.read x <;> cases hy : k.format.read y <;> simp_all [Datum.isNaN, Datum.quotient]
  unfold fop
  rw [key]
theorem isNaN_qnan (k : FloatKind) : isNaN k (qnan k) = true := by cases k <;> kernel_rfl
theorem isNaN_zero (k : FloatKind) : isNaN k (can k 0) = false := by cases k <;> kernel_rfl
theorem order_swap (d e : Datum) : e.order d = (d.order e).map Ordering.swap := by
  cases d with
  | nan => cases e <;> simp [Datum.order]
  | infinity s =>
    cases e with
    | nan => simp [Datum.order]
    | infinity t => cases s <;> cases t <;> simp [Datum.order] <;> rfl
    | number => cases s <;> simp [Datum.order]
  | number s m i =>
    cases e with
    | nan => simp [Datum.order]
    | infinity t => cases t <;> simp [Datum.order]
    | number t n j =>
      simp only [Datum.order, Option.map_some, Option.some.injEq]
      rw [show min j i = min i j from Int.min_comm j i]
      exact (Std.OrientedCmp.eq_swap (cmp := compare))
theorem forder_swap (k : FloatKind) (x y : Nat) : forder k y x = (forder k x y).map Ordering.swap := order_swap _ _
theorem forder_eq_comm (k : FloatKind) (x y : Nat) : (forder k x y != some .eq) = (forder k y x != some .eq) := by
  rw [forder_swap k x y]
  cases forder k x y with
  | none => rfl
  | some o => cases o <;> rfl
theorem forder_self {k : FloatKind} {x : Nat} (h : isNaN k x = false) : forder k x x = some .eq := by
  have h' : (k.format.read x).isNaN = false := h
  show (k.format.read x).order (k.format.read x) = some .eq
  cases hx : k.format.read x with
  | nan => rw [hx] at h'; simp [Datum.isNaN] at h'
  | infinity s => simp [Datum.order]
  | number s m i => simp [Datum.order]
theorem forder_self_iff {k : FloatKind} {x : Nat} : (forder k x x == some .eq) = !isNaN k x := by
  cases h : isNaN k x
  · rw [forder_self h]; rfl
  · rw [forder_none.2 (.inl h)]; rfl
end Go.Fw

/-
  Arguments that are structs of slices of floats; numbers.
-/
namespace Go.Fw
open Go.RowKit (Below)
section
variable {H : Type} {enc : TypeId × Value → H} {P : Program} {w : World} {spare : Nat → Bool} {held : Bool}
end
end Go.Fw

/-
  How great a float can be.
-/
namespace Go.Fw
open Ieee (Datum Format Toward)
def Small (E : Int) (m : Nat) (i : Int) : Prop := m = 0 ∨ (i ≤ E ∧ m ≤ 2 ^ (E - i).toNat)
def DLe (E : Int) : Datum → Prop
  | .number _ m i => Small E m i
  | .infinity _ => False
  | .nan .. => True
def Le (k : FloatKind) (E : Int) (x : Nat) : Prop := DLe E (k.format.read x)
theorem small_mono {E F : Int} {m : Nat} {i : Int} (h : Small E m i) (hEF : E ≤ F) : Small F m i := by
  rcases h with h | ⟨h1, h2⟩
  · exact .inl h
  · refine .inr ⟨by omega, Nat.le_trans h2 (Nat.pow_le_pow_right (by omega) (by omega))⟩
theorem Le.mono {k : FloatKind} {E F : Int} {x : Nat} (h : Le k E x) (hEF : E ≤ F) : Le k F x := by
  unfold Le at *
  cases hx : k.format.read x with
  | number s m i => rw [hx] at h; exact small_mono h hEF
  | infinity s => rw [hx] at h; exact h
  | nan s t => trivial
theorem log2_lt' {m : Nat} : m < 2 ^ (m.log2 + 1) := Nat.lt_log2_self
theorem le_log2 {m : Nat} (h : m ≠ 0) : 2 ^ m.log2 ≤ m := Nat.log2_self_le h
theorem shl_eq (a b : Nat) : a <<< b = a * 2 ^ b := Nat.shiftLeft_eq a b
theorem cut_le {neg : Bool} {n drop q : Nat} (h : n ≤ 2 ^ (q + drop)) : Toward.even.cut neg n drop ≤ 2 ^ q := by
  unfold Toward.cut
  simp only
  by_cases hd : drop ≤ n.log2 + 2
  · rw [Nat.min_eq_left hd, shl_eq, Nat.one_mul]
    have hp : 0 < 2 ^ drop := Nat.two_pow_pos _
    rw [Nat.pow_add] at h
    rcases Nat.lt_or_ge n (2 ^ q * 2 ^ drop) with h1 | h1
    · have h2 : n / 2 ^ drop < 2 ^ q := (Nat.div_lt_iff_lt_mul hp).2 h1
      have : ∀ b : Bool, b.toNat ≤ 1 := fun b => by cases b <;> decide
      exact Nat.le_trans (Nat.add_le_add_left (this _) _) h2
    · have h2 : n = 2 ^ q * 2 ^ drop := Nat.le_antisymm h h1
      have h3 : n % 2 ^ drop = 0 := by rw [h2]; exact Nat.mul_mod_left _ _
      have h4 : n / 2 ^ drop = 2 ^ q := by rw [h2]; exact Nat.mul_div_cancel _ hp
      rw [h3, h4]
      have h6 : (2 ^ drop == 0) = false := beq_eq_false_iff_ne.2 (by omega)
      simp [h6]
  · rw [Nat.min_eq_right (by omega), shl_eq, Nat.one_mul]
    have h1 : n < 2 ^ (n.log2 + 2) := Nat.lt_of_lt_of_le log2_lt' (Nat.pow_le_pow_right (by omega) (by omega))
    rw [Nat.div_eq_of_lt h1, Nat.mod_eq_of_lt h1]
    have h2 : n < 2 ^ (n.log2 + 1) := log2_lt'
    have h3 : 2 * n < 2 ^ (n.log2 + 2) := by rw [show n.log2 + 2 = (n.log2 + 1) + 1 from rfl, Nat.pow_succ]; omega
    have h4 : ¬ (2 ^ (n.log2 + 2) < 2 * n) := by omega
    have h5 : (2 ^ (n.log2 + 2) == 2 * n) = false := by simp; omega
    simp [h4, h5]
def rungOf (f : Format) (E : Int) : Nat := (E - f.leastPlace - f.fractionBits + 1).toNat * f.binade
theorem nearest_le (f : Format) (neg : Bool) {m : Nat} {i E : Int} (h : Small E m i) (hE : f.leastPlace + f.fractionBits < E) :
    ∃ r, r ≤ rungOf f E ∧ r ≤ f.infRung ∧ f.nearest neg m i = f.word neg r := by
  unfold Format.nearest
  by_cases hm : m = 0
  · rw [if_pos hm]; exact ⟨0, Nat.zero_le _, Nat.zero_le _, rfl⟩
  rw [if_neg hm]
  rcases h with h | ⟨h1, h2⟩
  · exact absurd h hm
  refine ⟨_, ?_, Nat.min_le_right _ _, rfl⟩
  refine Nat.le_trans (Nat.min_le_left _ _) ?_
  have hL1 := le_log2 hm
  have hL2 := @log2_lt' m
  have hLE : i + m.log2 ≤ E := by
    have h3 : 2 ^ m.log2 ≤ 2 ^ (E - i).toNat := Nat.le_trans hL1 h2
    have := (Nat.pow_le_pow_iff_right (a := 2) (by omega)).1 h3
    omega
  generalize hlast : max (i + m.log2 - f.fractionBits) f.leastPlace = last
  unfold rungOf
  by_cases hlt : i + m.log2 < E
  · have hl : last ≤ E - 1 - f.fractionBits := by omega
    have hk : Toward.even.cut neg (m <<< (i - last).toNat) (last - i).toNat ≤ 2 ^ (f.fractionBits + 1) := by
      refine cut_le ?_
      rw [shl_eq]
      have h5 : m * 2 ^ (i - last).toNat ≤ 2 ^ (m.log2 + 1) * 2 ^ (i - last).toNat := Nat.mul_le_mul_right _ (Nat.le_of_lt hL2)
      refine Nat.le_trans h5 ?_
      rw [← Nat.pow_add]
      exact Nat.pow_le_pow_right (by omega) (by omega)
    have hb : 2 ^ (f.fractionBits + 1) = 2 * f.binade := by unfold Format.binade; rw [Nat.pow_succ, Nat.mul_comm]
    rw [hb] at hk
    have h6 : (last - f.leastPlace).toNat + 2 ≤ (E - f.leastPlace - f.fractionBits + 1).toNat := by omega
    have h7 := Nat.mul_le_mul_right f.binade h6
    rw [Nat.add_mul] at h7
    omega
  · have hEq : i + m.log2 = E := by omega
    have hl : last = E - f.fractionBits := by omega
    have hk : Toward.even.cut neg (m <<< (i - last).toNat) (last - i).toNat ≤ 2 ^ f.fractionBits := by
      refine cut_le ?_
      rw [shl_eq]
      have h5 : m * 2 ^ (i - last).toNat ≤ 2 ^ m.log2 * 2 ^ (i - last).toNat := Nat.mul_le_mul_right _ (by
        rw [show (E - i).toNat = m.log2 by omega] at h2; exact h2)
      refine Nat.le_trans h5 ?_
      rw [← Nat.pow_add]
      exact Nat.pow_le_pow_right (by omega) (by omega)
    have hb : 2 ^ f.fractionBits = f.binade := rfl
    rw [hb] at hk
    have h6 : (last - f.leastPlace).toNat + 1 ≤ (E - f.leastPlace - f.fractionBits + 1).toNat := by omega
    have h7 := Nat.mul_le_mul_right f.binade h6
    rw [Nat.add_mul] at h7
    omega
theorem read_word (f : Format) (neg : Bool) {r : Nat} (h : r < f.signWeight) : f.read (f.word neg r) =
    if r < f.binade then .number neg r f.leastPlace
    else if r < f.infRung then .number neg (f.binade + r % f.binade) (f.leastPlace + (r / f.binade - 1 : Nat))
    else if r = f.infRung then .infinity neg else .nan neg (r - f.infRung) := by
  have hp : 0 < f.signWeight := Nat.two_pow_pos _
  have h1 : (f.word neg r / f.signWeight % 2 == 1) = neg := by
    unfold Format.word
    cases neg
    · simp [Nat.div_eq_of_lt h]
    · simp only [if_true]
      rw [Nat.add_div_left _ hp, Nat.div_eq_of_lt h]
      rfl
  have h2 : f.word neg r % f.signWeight = r := by
    unfold Format.word
    cases neg
    · simp [Nat.mod_eq_of_lt h]
    · simp only [if_true]
      rw [Nat.add_mod_left, Nat.mod_eq_of_lt h]
  unfold Format.read
  simp only [h1, h2]
theorem le_write {k : FloatKind} {E : Int} {s : Bool} {m : Nat} {i : Int} (h : Small E m i) (hE : k.format.leastPlace + k.format.fractionBits < E) (hI : rungOf k.format E < k.format.infRung) : Le k E (k.format.write (.number s m i)) := by
    unfold Le
    generalize k.format = f at *
    show DLe E (f.read (f.nearest s m i))
    obtain ⟨r, h1, h2, h3⟩ := nearest_le f s h hE
    have hlt := f.infRung_lt
    rw [h3, read_word f s (by omega)]
    have hbp : 0 < f.binade := Nat.two_pow_pos _
    have hb2 : f.binade = 2 ^ f.fractionBits := rfl
    by_cases hr : r < f.binade
    · rw [if_pos hr]
      right
      refine ⟨by omega, ?_⟩
      refine Nat.le_trans (Nat.le_of_lt hr) ?_
      rw [hb2]
      exact Nat.pow_le_pow_right (by omega) (by omega)
    · rw [if_neg hr, if_pos (by omega)]
      have hq1 : 1 ≤ r / f.binade := (Nat.le_div_iff_mul_le hbp).2 (by omega)
      have hdm := Nat.div_add_mod r f.binade
      have hmod : r % f.binade < f.binade := Nat.mod_lt _ hbp
      unfold rungOf at h1
      have hq2 : r / f.binade ≤ (E - f.leastPlace - f.fractionBits + 1).toNat := by
        refine Nat.le_of_lt_succ ((Nat.div_lt_iff_lt_mul hbp).2 ?_)
        rw [Nat.succ_mul]
        omega
      right
      rcases Nat.lt_or_ge (r / f.binade) (E - f.leastPlace - f.fractionBits + 1).toNat with hlt2 | hge
      · refine ⟨by omega, ?_⟩
        have h4 : f.binade + r % f.binade ≤ 2 ^ (f.fractionBits + 1) := by rw [Nat.pow_succ, ← hb2]; omega
        exact Nat.le_trans h4 (Nat.pow_le_pow_right (by omega) (by omega))
      · have hqe : r / f.binade = (E - f.leastPlace - f.fractionBits + 1).toNat := by omega
        rw [hqe, Nat.mul_comm] at hdm
        have hm0 : r % f.binade = 0 := by omega
        have hqi : ((E - f.leastPlace - f.fractionBits + 1).toNat : Int) = E - f.leastPlace - f.fractionBits + 1 := Int.toNat_of_nonneg (by omega)
        rw [hqe]
        refine ⟨by omega, ?_⟩
        rw [hm0, Nat.add_zero, hb2]
        exact Nat.pow_le_pow_right (by omega) (by omega)
theorem Le.notInf {k : FloatKind} {E : Int} {x : Nat} (h : Le k E x) : (k.decode x).isInfinity = false := by
  unfold Le at h
  show (k.format.read x).isInfinity = false
  cases hx : k.format.read x <;> rw [hx] at h
  · rfl
  · exact h.elim
  · rfl
theorem le_qnan (k : FloatKind) (E : Int) : Le k E (qnan k) := by
  have h := isNaN_qnan k
  unfold isNaN at h
  have h' : (k.format.read (qnan k)).isNaN = true := h
  unfold Le
  cases hx : k.format.read (qnan k) <;> rw [hx] at h' <;> simp [Datum.isNaN] at h'
  trivial
theorem read_number {f : Format} {x m : Nat} {s : Bool} {i : Int} (h : f.read x = .number s m i) : m < 2 ^ (f.fractionBits + 1) ∧ ((i = f.leastPlace ∧ m < 2 ^ f.fractionBits) ∨ (2 ^ f.fractionBits ≤ m ∧ f.leastPlace ≤ i)) ∧ i ≤ f.leastPlace + ((f.infRung / f.binade : Nat) : Int) := by
  have hbp : 0 < f.binade := Nat.two_pow_pos _
  have hb2 : f.binade = 2 ^ f.fractionBits := rfl
  unfold Format.read at h
  simp only at h
  split at h
  · rename_i hr
    injection h with h1 h2 h3
    subst h2 h3
    refine ⟨?_, .inl ⟨rfl, ?_⟩, by have := Int.natCast_nonneg (f.infRung / f.binade); omega⟩
    · rw [Nat.pow_succ, ← hb2]; omega
    · rw [← hb2]; exact hr
  · split at h
    · rename_i hr
      injection h with h1 h2 h3
      subst h2 h3
      have hmod : x % f.signWeight % f.binade < f.binade := Nat.mod_lt _ hbp
      refine ⟨?_, .inr ⟨?_, by omega⟩, ?_⟩
      · rw [Nat.pow_succ, ← hb2]; omega
      · rw [← hb2]; omega
      · have : x % f.signWeight / f.binade ≤ f.infRung / f.binade := Nat.div_le_div_right (by omega)
        have h5 := Int.natCast_nonneg (f.infRung / f.binade)
        have h6 := Int.natCast_nonneg (x % f.signWeight / f.binade)
        generalize f.infRung / f.binade = y at *
        generalize x % f.signWeight / f.binade = z at *
        omega
    · split at h <;> cases h
theorem rootFrom_lt (n : Nat) : ∀ (todo root : Nat), Datum.rootFrom n todo root < root + 2 ^ todo
  | 0, root => by simp [Datum.rootFrom]
  | todo + 1, root => by
    simp only [Datum.rootFrom]
    rw [shl_eq, Nat.one_mul, Nat.pow_succ]
    split
    · have := rootFrom_lt n todo (root + 2 ^ todo)
      omega
    · have := rootFrom_lt n todo root
      omega
theorem log2_shl {m k : Nat} (h : m ≠ 0) : (m <<< k).log2 = m.log2 + k := by
  rw [shl_eq]
  have h1 := le_log2 h
  have h2 := @log2_lt' m
  refine (Nat.log2_eq_iff (by have := Nat.two_pow_pos k; exact Nat.mul_ne_zero h (by omega))).2 ⟨?_, ?_⟩
  · rw [Nat.pow_add]; exact Nat.mul_le_mul_right _ h1
  · rw [show m.log2 + k + 1 = (m.log2 + 1) + k by omega, Nat.pow_add]
    exact Nat.mul_lt_mul_of_pos_right h2 (Nat.two_pow_pos _)
theorem le_sqrt {x : Nat} (h : Le .f64 130 x) : Le .f64 66 (fsqrt x) := by
  unfold fsqrt
  have e : FloatKind.f64.format.sqrt x = ((FloatKind.f64.format.read x).root (FloatKind.f64.format.fractionBits + 2)).map FloatKind.f64.format.write := rfl
  rw [e]
  have hfb : FloatKind.f64.format.fractionBits = 52 := rfl
  have hlp : FloatKind.f64.format.leastPlace = -1074 := by rfl
  unfold Le at h
  cases hx : FloatKind.f64.format.read x with
  | nan s t => exact le_qnan _ _
  | infinity s => rw [hx] at h; exact h.elim
  | number s m i =>
    rw [hx] at h
    obtain ⟨h1, h2, _⟩ := read_number hx
    rw [hfb] at h1 h2
    rw [hlp] at h2
    have hw : ∀ s m i, Small 66 m i → Le .f64 66 (FloatKind.f64.format.write (.number s m i)) := fun s m i hd => le_write hd (by rw [hfb, hlp]; decide) (by decide +kernel)
    simp only [Datum.root, hfb]
    by_cases hm : m = 0
    · rw [if_pos hm]
      exact hw _ _ _ (.inl hm)
    rw [if_neg hm]
    cases s with
    | true => exact le_qnan _ _
    | false =>
      have hi : i ≤ 78 := by
        rcases h2 with ⟨h2, _⟩ | ⟨h2, _⟩
        · omega
        · rcases h with h | ⟨h3, h4⟩
          · exact absurd h hm
          · have := (Nat.pow_le_pow_iff_right (a := 2) (by omega)).1 (Nat.le_trans h2 h4)
            omega
      have hL : m.log2 ≤ 52 := by
        have := (Nat.log2_lt hm).2 h1
        omega
      have hpar : ∀ z : Int, (z % 2).toNat ≤ 1 := fun z => by omega
      have hp := hpar (i - ((2 * (52 + 2) - m.log2 : Nat) : Int))
      generalize hmore : 2 * (52 + 2) - m.log2 + ((i - ((2 * (52 + 2) - m.log2 : Nat) : Int)) % 2).toNat = more at *
      refine hw _ _ _ ?_
      right
      have hn : (m <<< more).log2 = m.log2 + more := log2_shl hm
      rw [hn]
      have hr := rootFrom_lt (m <<< more) ((m.log2 + more) / 2 + 1) 0
      have hpw : 2 ^ ((m.log2 + more) / 2 + 1) ≤ 2 ^ 55 := Nat.pow_le_pow_right (by omega) (by omega)
      have hb : ∀ b : Bool, b.toNat ≤ 1 := fun b => by cases b <;> decide
      refine ⟨by omega, ?_⟩
      have h56 : 2 ^ 56 ≤ 2 ^ (66 - ((i - more) / 2 - 1)).toNat := Nat.pow_le_pow_right (by omega) (by omega)
      refine Nat.le_trans ?_ h56
      have := hb (Datum.rootFrom (m <<< more) ((m.log2 + more) / 2 + 1) 0 * Datum.rootFrom (m <<< more) ((m.log2 + more) / 2 + 1) 0 != m <<< more)
      omega
theorem le_f32 {x : Nat} (h : (FloatKind.f32.decode x).isInfinity = false) : Le .f32 130 x := by
  unfold Le
  have hfb : FloatKind.f32.format.fractionBits = 23 := rfl
  have hlp : FloatKind.f32.format.leastPlace = -149 := by rfl
  cases hx : FloatKind.f32.format.read x with
  | nan s t => trivial
  | infinity s =>
    have h' : (FloatKind.f32.format.read x).isInfinity = false := h
    rw [hx] at h'
    cases h'
  | number s m i =>
    obtain ⟨h1, _, h3⟩ := read_number hx
    rw [hfb] at h1
    rw [hlp, show FloatKind.f32.format.infRung / FloatKind.f32.format.binade = 255 by decide +kernel] at h3
    right
    refine ⟨by omega, ?_⟩
    exact Nat.le_trans (Nat.le_of_lt h1) (Nat.pow_le_pow_right (by omega) (by omega))
theorem cvt_up {E : Int} {x : Nat} (h : Le .f32 E x) (h1 : -1022 < E) (h2 : E < 1024) : Le .f64 E (fcvt .f32 .f64 x) := by
  unfold fcvt
  unfold Le at h
  have e : FloatKind.f32.decode x = FloatKind.f32.format.read x := rfl
  rw [e]
  cases hx : FloatKind.f32.format.read x with
  | nan s t => exact le_qnan _ _
  | infinity s => rw [hx] at h; exact h.elim
  | number s m i =>
    rw [hx] at h
    refine le_write h ?_ ?_
    · show (-1022 : Int) < E
      exact h1
    · show (E - (-1074) - ((52 : Nat) : Int) + 1).toNat * 2 ^ 52 < 2047 * 2 ^ 52
      exact Nat.mul_lt_mul_of_pos_right (by omega) (Nat.two_pow_pos _)
theorem cvt_down {E : Int} {x : Nat} (h : Le .f64 E x) (h1 : -126 < E) (h2 : E < 128) : fcvtOk .f64 .f32 x = true := by
  unfold fcvtOk
  unfold Le at h
  have e : FloatKind.f64.decode x = FloatKind.f64.format.read x := rfl
  rw [e]
  cases hx : FloatKind.f64.format.read x with
  | nan s t => rfl
  | infinity s => rfl
  | number s m i =>
    rw [hx] at h
    show (!(FloatKind.f32.decode (FloatKind.f32.format.write (.number s m i))).isInfinity) = true
    rw [(le_write (k := .f32) (s := s) h (by show (-126 : Int) < E; exact h1) (by
      show (E - (-149) - ((23 : Nat) : Int) + 1).toNat * 2 ^ 23 < 255 * 2 ^ 23
      exact Nat.mul_lt_mul_of_pos_right (by omega) (Nat.two_pow_pos _))).notInf]
    rfl
theorem sqrt_ok (x : Nat) : fcvtOk .f64 .f32 (fsqrt (fcvt .f32 .f64 x)) = true := by
  cases hx : (FloatKind.f32.decode x).isInfinity
  · exact cvt_down ((le_sqrt (cvt_up (le_f32 hx) (by decide) (by decide))).mono (F := 66) (by decide)) (by decide) (by decide)
  · have hd : ∃ s, FloatKind.f32.decode x = .infinity s := by
      cases h : FloatKind.f32.decode x <;> rw [h] at hx <;> first | (cases hx; done) | exact ⟨_, rfl⟩
    obtain ⟨s, hs⟩ := hd
    have e : fcvt .f32 .f64 x = FloatKind.f64.encode (.infinity s) := by unfold fcvt; rw [hs]
    rw [e]
    have h1 : fcvtOk .f64 .f32 (fsqrt (FloatKind.f64.encode (.infinity true))) = true := by kernel_rfl
    have h2 : fcvtOk .f64 .f32 (fsqrt (FloatKind.f64.encode (.infinity false))) = true := by kernel_rfl
    cases s
    · exact h2
    · exact h1
end Go.Fw

/-
  Floats that are equal and of one sign have the same bits.
-/
namespace Go.Fw
open Ieee (Datum Format Toward)
theorem notNaN_fcvt {x : Nat} (h : isNaN .f32 x = false) : isNaN .f64 (fcvt .f32 .f64 x) = false := by
  have h' : (FloatKind.f32.format.read x).isNaN = false := h
  have hs : FloatKind.f64.format.infRung < FloatKind.f64.format.signWeight := FloatKind.f64.format.infRung_lt
  unfold fcvt
  have e : FloatKind.f32.decode x = FloatKind.f32.format.read x := rfl
  rw [e]
  have key : ∀ s r, r ≤ FloatKind.f64.format.infRung → isNaN .f64 (FloatKind.f64.format.word s r) = false := by
    intro s r hr
    show (FloatKind.f64.format.read (FloatKind.f64.format.word s r)).isNaN = false
    rw [read_word _ _ (by omega)]
    split
    · rfl
    · split
      · rfl
      · rw [if_pos (by omega)]; rfl
  cases hx : FloatKind.f32.format.read x with
  | nan s t => rw [hx] at h'; cases h'
  | infinity s => exact key _ _ (Nat.le_refl _)
  | number s m i =>
    show isNaN .f64 (FloatKind.f64.format.nearest s m i) = false
    unfold Format.nearest
    split
    · exact key _ _ (Nat.zero_le _)
    · exact key _ _ (Nat.min_le_right _ _)
end Go.Fw

/-
  Loops that write into one object, whatever other objects there are.
-/
namespace Go.Fw
variable [XS]
open Go.RowKit (Below)
inductive RM where
  | leaf (x : XK) (as : List A) (mem : List (Nat × O))
  | ite (b : Bool) (t e : RM)
  | fail
def T.rm (ts : List Nat) : T → RM
  | .leaf x σ => .leaf x (ts.map σ.get) σ.mem
  | .ite b t e => .ite b (t.rm ts) (e.rm ts)
  | .fail => .fail
  | .loop .. => .fail
def RM.Ok : RM → (XK → List A → List (Nat × O) → Prop) → Prop
  | .leaf x as mem, L => L x as mem
  | .ite b t e, L => cond b (t.Ok L) (e.Ok L)
  | .fail, _ => False
omit [XS] in
theorem T.rm_ok {P : Program} {ts : List Nat} {L : XK → List A → List (Nat × O) → Prop} : ∀ {t : T}, (t.rm ts).Ok L → t.Ok P fun x σ => L x (ts.map σ.get) σ.mem
  | .leaf _ _, h => h
  | .ite b _ _, h => ⟨fun hb => T.rm_ok (by subst hb; exact h), fun hb => T.rm_ok (by subst hb; exact h)⟩
  | .fail, h => h.elim
  | .loop _ _ _, h => h.elim
def stM (n lo nx : Nat) (ts : List Nat) (as : List A) (id : Nat) (o : O) (M : List (Nat × O)) : St :=
  { n, lo, tmps := zipA ts as, grds := [], mem := (id, o) :: M, next := nx }
def SimMem (mem : List (Nat × O)) (id : Nat) (M : List (Nat × O)) (o : O) : Prop := (∀ j, j ≠ id → look mem j = look M j) ∧ OSim (look mem id) o
section
variable {P : Program} {B : Nat} {w0 : World} {U U' : Nat → Prop} {G : Value → A → Prop} {σ σ' : St} {a : Act} {w : World} {cv : Nat → Option Value}
theorem SRcv.sim (h : SRcv B w0 U' G σ' a w cv) {σ2 : St} (hn : σ2.n = σ'.n) (hlo : σ2.lo = σ'.lo) (hg : σ2.grds = []) (hslot : ∀ t x, look σ2.tmps t = some x → x = .any ∨ σ'.get t = x)
    (hdom : ∀ j o, σ'.obj j = some o → ∃ o', σ2.obj j = some o') (hobj : ∀ j o, σ2.obj j = some o → OSim (σ'.obj j) o ∧ ∀ i, o.has i = true → ∃ o', σ2.obj i = some o') (hU1 : ∀ j, U j → j < σ2.next) (hU2 : ∀ j o, σ2.obj j = some o → U j) (hlon : σ2.lo ≤ σ2.next) :
    SRcv B w0 U G σ2 a w cv := by
  have live : ∀ {x : A}, Live σ'.obj x → Live σ2.obj x := fun hx id hid => by obtain ⟨o, ho⟩ := hx id hid; exact hdom id o ho
  refine ⟨h.size.trans hn.symm, h.defers, h.below, h.hB, hU1, hlon, hU2, ⟨fun id o ho => ?_, fun id u hu => ?_, h.mem.inj⟩, fun t x hx => ?_, (fun t g hgg => by rw [hg] at hgg; cases hgg), fun v x hx => ?_⟩
  · obtain ⟨hs, hh⟩ := hobj id o ho
    refine ⟨?_, hh⟩
    cases o with
    | var cs => exact (h.mem.obj id _ hs).1
    | arr e z l cs => exact (h.mem.obj id _ hs).1
    | row e esz len get =>
      obtain ⟨e0, get0, h3, h4, h5⟩ := hs
      obtain ⟨⟨v, E, xs, g1, g2, g3, g4, g5, g6⟩, _⟩ := h.mem.obj id _ h3
      refine ⟨v, E, xs, g1, g2, fun hne => ?_, g4, fun i hi => by rw [← h5 i hi]; exact g5 i hi, fun i j hi hj => ?_⟩
      · rcases h4 with h4 | h4
        · exact absurd h4 hne
        · rw [h4]; exact g3 (by rw [← h4]; exact hne)
      · have := g6 i j hi hj
        rw [h5 i hi] at this
        exact this
  · obtain ⟨⟨o, ho⟩, hb⟩ := h.mem.dom id u hu
    exact ⟨hdom id o ho, hb⟩
  · rcases hslot t x hx with rfl | he
    · exact ⟨.any _, fun id hid => by simp [A.has] at hid⟩
    · have := h.get t
      rw [he] at this
      exact ⟨this.1, live this.2⟩
  · have := h.ghost v x hx
    exact ⟨this.1, live this.2.1, by rw [hlo]; exact this.2.2⟩
omit [XS] in
theorem stM_obj {n lo nx id : Nat} {ts : List Nat} {as : List A} {o : O} {M : List (Nat × O)} (j : Nat) : (stM n lo nx ts as id o M).obj j = if j = id then some o else look M j := by
  show look ((id, o) :: M) j = _
  by_cases h : j = id
  · subst h; rw [look_cons_same, if_pos rfl]
  · rw [look_cons_other _ _ h, if_neg h]
end
end Go.Fw

/-
  Functions that change one variable, walked once and for all: both ways of a choice as one.
-/
namespace Go.Fw
open Go.RowKit (Below)
def sumF (n : Nat) (ts : List Nat) (id : Nat) (F : List A → O → Option (Bool × List A × O)) (σ : St) : T :=
  match Nat.beq σ.n n with
  | true => match σ.obj id with
    | some o => match F (ts.map σ.get) o with
      | some (c, as, o') => .ite c (.leaf .ret (stM σ.n σ.lo σ.next ts as id o' σ.mem)) .fail
      | none => .fail
    | none => .fail
  | false => .fail
theorem sumF_ok {P : Program} {cfg : Cfg} (hc : CfgOK P cfg) {own : Nat → Bool} {lp : Nat → Option (St → T)} {un fuel : Nat} {body : Code} (hlp : LpOK P lp body) {n id : Nat} {ts : List Nat} {F : List A → O → Option (Bool × List A × O)}
    (hF : ∀ az o az' o', F az o = some (true, az', o') → (∀ i, o.has i = false) ∧ (∀ i, o'.has i = false) ∧ ∀ lo nx M, ((exec cfg own lp un fuel body (stM n lo nx ts az id o M)).rm ts).Ok fun x as mem => x = .ret ∧ ALe as az' ∧ SimMem mem id M o') : CodeOK P (fun _ σ => sumF n ts id F σ) body := by
  intro σ L hok
  replace hok : (sumF n ts id F σ).Ok P L := hok
  unfold sumF at hok
  split at hok
  rotate_left
  · exact hok.elim
  rename_i hn
  have hn := Nat.eq_of_beq_eq_true hn
  split at hok
  rotate_left
  · exact hok.elim
  rename_i o ho
  split at hok
  rotate_left
  · exact hok.elim
  rename_i c as o' hFe
  have hct : c = true := by
    cases hcc : c
    · exact (hok.2 hcc).elim
    · rfl
  subst hct
  have hleaf := hok.1 rfl
  obtain ⟨h1, h2, h3⟩ := hF _ _ _ _ hFe
  intro X B w0 U G a w hsr hg
  obtain ⟨cv0, h⟩ := hsr
  have hidU : U id := h.used id o ho
  have toHead : ∀ {σ1 : St} {a1 : Act} {w1 : World} {cv1 : Nat → Option Value} {U1 : Nat → Prop} {as : List A} {o : O}, SRcv B w0 U1 G σ1 a1 w1 cv1 → σ1.n = σ.n → σ1.lo = σ.lo →
      ALe (ts.map σ1.get) as → (∀ i, o.has i = false) → (∀ j, j ≠ id → σ1.obj j = look σ.mem j) → OSim (σ1.obj id) o → SRcv B w0 U G (stM σ.n σ.lo σ.next ts as id o σ.mem) a1 w1 cv1 := by
    intro σ1 a1 w1 cv1 U1 as o hs hn1 hlo1 hsl hr hob hoid
    have domM : ∀ j o', look σ.mem j = some o' → U j := fun j o' ho' => h.used j o' ho'
    refine hs.sim hn1.symm hlo1.symm rfl (fun t x hx => ?_) (fun j o' ho' => ?_) (fun j o' ho' => ?_) h.lo (fun j o' ho' => ?_) h.lon
    · obtain ⟨k, h1, h2⟩ := look_zipA hx
      exact hsl.at_ k (σ1.get t) x (by rw [List.getElem?_map, h1]; rfl) h2
    · rw [stM_obj]
      by_cases hj : j = id
      · rw [if_pos hj]; exact ⟨_, rfl⟩
      · rw [if_neg hj, ← hob j hj]; exact ⟨o', ho'⟩
    · rw [stM_obj] at ho'
      by_cases hj : j = id
      · rw [if_pos hj] at ho'
        injection ho' with ho'
        subst ho' hj
        exact ⟨hoid, fun i hi => by rw [hr] at hi; cases hi⟩
      · rw [if_neg hj] at ho'
        refine ⟨?_, fun i hi => ?_⟩
        · rw [hob j hj, ho']
          exact OSims.self [o'] |>.1
        · have h1 := (hs.mem.obj j o' (by rw [hob j hj]; exact ho')).2 i hi
          obtain ⟨o2, ho2⟩ := h1
          rw [stM_obj]
          by_cases hi' : i = id
          · rw [if_pos hi']; exact ⟨_, rfl⟩
          · rw [if_neg hi', ← hob i hi']; exact ⟨o2, ho2⟩
    · rw [stM_obj] at ho'
      by_cases hj : j = id
      · rw [hj]; exact hidU
      · rw [if_neg hj] at ho'; exact domM j o' ho'
  have hstart : SRcv B w0 U G (stM σ.n σ.lo σ.next ts (ts.map σ.get) id o σ.mem) a w cv0 := toHead h rfl rfl (ALe.self _) h1 (fun j _ => rfl) (by rw [ho]; exact OSims.self [o] |>.1)
  have h4 := h3 σ.lo σ.next σ.mem
  rw [← hn] at h4
  refine wp_mono (exec_sound hc un fuel own lp body hlp _ _ (T.rm_ok h4) X B w0 _ G a w ⟨cv0, hstart⟩ rfl) ?_
  rintro e a1 w1 ⟨x, σ1, rfl, ⟨rfl, hl2, hl3⟩, U1, b1, b2, ⟨cv1, hs1⟩, b3, b4, b5, b6⟩
  exact ⟨.ret, _, rfl, hleaf, U, fun _ h => h, fun _ h => .inl h, ⟨cv1, toHead hs1 b3 b4 hl2 h2 hl3.1 hl3.2⟩, rfl, rfl, Nat.le_refl _, rfl⟩
end Go.Fw

/-
  A function's contract where its ends don't fit together: one of them, under its condition.
-/
namespace Go.Fw
def T.valS (cfg : Cfg) (fn : Func) (sel : Bool) : T → Option (Bool × A)
  | .leaf x σ => match leafRes cfg fn x σ with | some a => some (true, a) | none => none
  | .ite b t e => match t.valS cfg fn sel, e.valS cfg fn sel with
    | some (c, a), some (c', a') => match pickR b a a' with
      | some r => some (cond b c c', r)
      | none => match sel with
        | true => some (b && c, a)
        | false => some (!b && c', a')
    | some (c, a), none => some (b && c, a)
    | none, some (c', a') => some (!b && c', a')
    | none, none => none
  | .fail => none
  | .loop .. => none
theorem T.valS_ok {P : Program} {cfg : Cfg} {fn : Func} {sel : Bool} : ∀ {t : T} {c : Bool} {r : A}, t.valS cfg fn sel = some (c, r) → c = true → t.Ok P fun x σ => leafRes cfg fn x σ = some r
  | .leaf x σ, c, r, h, _ => by
    simp only [T.valS] at h
    split at h
    · rename_i a ha; simp only [Option.some.injEq, Prod.mk.injEq] at h; obtain ⟨_, rfl⟩ := h; exact ha
    · cases h
  | .ite b t e, c, r, h, hc => by
    simp only [T.valS] at h
    have left : ∀ {c1 : Bool} {a1 : A}, t.valS cfg fn sel = some (c1, a1) → (b && c1, a1) = (c, r) → (T.ite b t e).Ok P fun x σ => leafRes cfg fn x σ = some r := by
      intro c1 a1 h1 h2
      injection h2 with h2 h3
      subst h3
      rw [← h2] at hc
      simp only [Bool.and_eq_true] at hc
      refine ⟨fun _ => T.valS_ok h1 hc.2, fun hb => ?_⟩
      rw [hb] at hc
      cases hc.1
    have right : ∀ {c1 : Bool} {a1 : A}, e.valS cfg fn sel = some (c1, a1) → (!b && c1, a1) = (c, r) → (T.ite b t e).Ok P fun x σ => leafRes cfg fn x σ = some r := by
      intro c1 a1 h1 h2
      injection h2 with h2 h3
      subst h3
      rw [← h2] at hc
      simp only [Bool.and_eq_true, Bool.not_eq_true'] at hc
      refine ⟨fun hb => ?_, fun _ => T.valS_ok h1 hc.2⟩
      rw [hb] at hc
      cases hc.1
    split at h
    · rename_i c1 a1 c2 a2 h1 h2
      split at h
      · rename_i r' hr
        simp only [Option.some.injEq, Prod.mk.injEq] at h
        obtain ⟨hcc, rfl⟩ := h
        have e := pickR_ok _ _ _ hr
        subst hcc
        refine ⟨fun hb => ?_, fun hb => ?_⟩
        · subst hb; subst e; exact T.valS_ok h1 hc
        · subst hb; subst e; exact T.valS_ok h2 hc
      · cases sel with
        | true => injection h with h; exact left h1 h
        | false => injection h with h; exact right h2 h
    · rename_i c1 a1 h1 h2
      injection h with h
      exact left h1 h
    · rename_i c1 a1 h1 h2
      injection h with h
      exact right h2 h
    · cases h
  | .fail, _, _, h, _ => by simp [T.valS] at h
  | .loop _ _ _, _, _, h, _ => by simp [T.valS] at h
def autoS (cfg : Cfg) (lp : Nat → Option (St → T)) (sel : Bool) (fn : Func) (ds : List A) : Option (Bool × A) :=
  match Nat.ble ds.length fn.ntmps with
  | false => none
  | true => match (exec cfg (fun _ => true) lp 0 1000 (bodyOf fn) (St.enter fn ds [] 0)).valS cfg fn sel with
    | some (c, r) => some (c, r)
    | none => none
theorem autoS_ok {P : Program} {cfg : Cfg} (hc : CfgOK P cfg) {f : Nat} {fn : Func} {lp : Nat → Option (St → T)} {sel : Bool} (hf : P.funcs[f]? = some fn) (hb : fn.body.isSome = true) (hlp : LpOK P lp (bodyOf fn)) {ds : List A} {c : Bool} {r : A}
    (h : autoS cfg lp sel fn ds = some (c, r)) (hct : c = true) : PureCall P f ds r := by
  unfold autoS at h
  split at h
  · cases h
  · rename_i hle
    split at h
    · rename_i c' r' hv
      simp only [Option.some.injEq, Prod.mk.injEq] at h
      obtain ⟨rfl, rfl⟩ := h
      have hb' : fn.body = some (bodyOf fn) := by
        unfold bodyOf
        cases h : fn.body
        · rw [h] at hb; cases hb
        · rfl
      exact pure_of_tree hc hf hb' (Nat.le_of_ble_eq_true hle) hlp (T.valS_ok hv hct)
    · cases h
theorem autoS_at {P : Program} {cfg : Cfg} (hc : CfgOK P cfg) {f : Nat} {fn : Func} {lp : Nat → Option (St → T)} {sel : Bool} (hlp : LpOK P lp (bodyOf fn)) (hf : P.funcs[f]? = some fn) (hb : fn.body.isSome = true) (hn : (fn.name == "runtime.NumGoroutine") = false) : EnvAt P f (autoS cfg lp sel fn) :=
  ⟨⟨fn, hf, hb, hn⟩, fun _ _ _ h hct => autoS_ok hc hf hb hlp h hct⟩
def mkCfgX (tab : List (Nat × TI)) (fts : List (Nat × Func)) (xts : List (Nat × Ext)) (env : Nat → Option (List A → Option (Bool × A))) (fx : List (Nat × (St → T))) : Cfg :=
  { tt := look tab, ft := look fts, xt := look xts, env := env, fx := look fx }
end Go.Fw

/-
  A nil slice in a variable, seen as an own row without places.
-/
namespace Go.Fw
variable [XS]
open Go.RowKit (Below)
def St.ownNil (σ : St) (id off e esz : Nat) : Option St :=
  match σ.obj id, Nat.blt 0 esz with
  | some (.var cs), true => match cs[off]? with
    | some .nils => some { σ with mem := (id, .var (cs.take off ++ .sl σ.next 0 :: cs.drop (off + 1))) :: (σ.next, .row e esz 0 (.gen fun _ => .any)) :: σ.mem, next := σ.next + 16 }
    | _ => none
  | _, _ => none
def nilW (id off e esz : Nat) (f : St → T) (σ : St) : T :=
  match σ.ownNil id off e esz with
  | some σ' => f σ'
  | none => .fail
section
variable {P : Program} {B : Nat} {w0 : World} {U : Nat → Prop} {G : Value → A → Prop} {σ σ' : St} {a : Act} {w : World} {cv : Nat → Option Value}
theorem ownNil_sr {id off e esz : Nat} (h : SRcv B w0 U G σ a w cv) (hg : σ.grds = []) (ho : σ.ownNil id off e esz = some σ') :
    SRcv B w0 (fun i => U i ∨ i = σ.next) G σ' a w (fun i => if i = σ.next then some (.slice none 0 0) else cv i) ∧ σ'.grds = [] ∧ σ'.n = σ.n ∧ σ'.lo = σ.lo ∧ σ.next ≤ σ'.next := by
  unfold St.ownNil at ho
  split at ho
  · rename_i cs hob hz
    split at ho
    · rename_i hcs
      injection ho with ho
      subst ho
      have hz' : 0 < esz := by simpa [Nat.blt_eq] using hz
      have fresh : ∀ i o, σ.obj i = some o → i ≠ σ.next := fun i o hi e => by have := h.lo i (h.used i o hi); omega
      have freshA : ∀ {x : A}, Live σ.obj x → ∀ i, x.has i = true → i ≠ σ.next := fun hx i hi => by obtain ⟨o, ho⟩ := hx i hi; exact fresh i o ho
      have hcvn : cv σ.next = none := by
        cases hc : cv σ.next with
        | none => rfl
        | some u => obtain ⟨⟨o, ho⟩, _⟩ := h.mem.dom _ _ hc; exact absurd rfl (fresh _ _ ho)
      let cv' : Nat → Option Value := fun i => if i = σ.next then some (.slice none 0 0) else cv i
      have cvo : ∀ i, i ≠ σ.next → cv' i = cv i := fun i hi => if_neg hi
      have cvs : cv' σ.next = some (.slice none 0 0) := if_pos rfl
      have hS : ∀ b, Sx w cv b → Sx w cv' b ∧ w.heap[b]? = w.heap[b]? := fun b hb => ⟨⟨hb.1, fun i u hu => by
        by_cases hi : i = σ.next
        · subst hi; rw [cvs] at hu; injection hu with hu; subst hu; simp [blk]
        · rw [cvo i hi] at hu; exact hb.2.1 i u hu, hb.2.2⟩, rfl⟩
      have rel : ∀ {v : Value} {x : A}, Rel w cv v x → Live σ.obj x → Rel w cv' v x := fun hr hl => hr.mono hS fun i hi => .inr (cvo i (freshA hl i hi))
      have hne : id ≠ σ.next := fresh id _ hob
      have obj' : ∀ j, look ((id, O.var (cs.take off ++ .sl σ.next 0 :: cs.drop (off + 1))) :: (σ.next, O.row e esz 0 (.gen fun _ => .any)) :: σ.mem) j = if j = id then some (O.var (cs.take off ++ .sl σ.next 0 :: cs.drop (off + 1))) else if j = σ.next then some (O.row e esz 0 (.gen fun _ => .any)) else σ.obj j := fun j => by
        by_cases h1 : j = id
        · subst h1; rw [look_cons_same, if_pos rfl]
        · rw [look_cons_other _ _ h1, if_neg h1]
          by_cases h2 : j = σ.next
          · subst h2; rw [look_cons_same, if_pos rfl]
          · rw [look_cons_other _ _ h2, if_neg h2]; rfl
      have dom : ∀ j o, σ.obj j = some o → ∃ o', look ((id, O.var (cs.take off ++ .sl σ.next 0 :: cs.drop (off + 1))) :: (σ.next, O.row e esz 0 (.gen fun _ => .any)) :: σ.mem) j = some o' := fun j o hj => by
        rw [obj']
        by_cases h1 : j = id
        · rw [if_pos h1]; exact ⟨_, rfl⟩
        · rw [if_neg h1, if_neg (fresh j o hj)]; exact ⟨o, hj⟩
      have live : ∀ {x : A}, Live σ.obj x → Live (fun j => look ((id, O.var (cs.take off ++ .sl σ.next 0 :: cs.drop (off + 1))) :: (σ.next, O.row e esz 0 (.gen fun _ => .any)) :: σ.mem) j) x := fun hx i hi => by obtain ⟨o, ho⟩ := hx i hi; exact dom i o ho
      have hoff : off < cs.length := (List.getElem?_eq_some_iff.1 hcs).1
      have hval : cs.getD off .any = .nils := by simp [List.getD, hcs]
      have getc : ∀ j, (cs.take off ++ A.sl σ.next 0 :: cs.drop (off + 1)).getD j .any = if j = off then A.sl σ.next 0 else cs.getD j .any := fun j => by
        by_cases h1 : j < off
        · rw [if_neg (by omega)]
          simp only [List.getD]
          rw [List.getElem?_append_left (by simp; omega), List.getElem?_take, if_pos h1]
        · by_cases h2 : j = off
          · subst h2
            rw [if_pos rfl]
            simp only [List.getD]
            rw [List.getElem?_append_right (by simp; omega)]
            simp [Nat.min_eq_left (Nat.le_of_lt hoff)]
          · rw [if_neg h2]
            simp only [List.getD]
            rw [List.getElem?_append_right (by simp; omega)]
            rw [show j - (List.take off cs).length = (j - off - 1) + 1 by simp; omega, List.getElem?_cons_succ, List.getElem?_drop]
            rw [show off + 1 + (j - off - 1) = j by omega]
      have lenc : (cs.take off ++ A.sl σ.next 0 :: cs.drop (off + 1)).length = cs.length := by simp; omega
      refine ⟨⟨h.size, h.defers, h.below, h.hB, fun i hi => ?_, Nat.le_trans h.lon (Nat.le_add_right _ _), fun i o hi => ?_, ⟨fun i o hi => ?_, fun i u hu => ?_, fun i j u u' b hi hj hb hb' => ?_⟩, fun t x hx => ?_, (fun t g hgg => by rw [show ({ σ with mem := _, next := _ } : St).grds = σ.grds from rfl, hg] at hgg; cases hgg), fun v x hx => ?_⟩, hg, rfl, rfl, Nat.le_add_right _ _⟩
      · rcases hi with hi | rfl
        · have := h.lo i hi; show i < σ.next + 16; omega
        · show σ.next < σ.next + 16; omega
      · replace hi := (obj' i).symm.trans hi
        by_cases h1 : i = id
        · subst h1; exact .inl (h.used _ _ hob)
        · rw [if_neg h1] at hi
          by_cases h2 : i = σ.next
          · exact .inr h2
          · rw [if_neg h2] at hi; exact .inl (h.used _ _ hi)
      · replace hi := (obj' i).symm.trans hi
        by_cases h1 : i = id
        · subst h1
          rw [if_pos rfl] at hi
          injection hi with hi
          subst hi
          obtain ⟨⟨b, vs, E, g1, g2, g3, g4⟩, g5⟩ := h.mem.obj i _ hob
          refine ⟨⟨b, vs, E, (cvo i hne).trans g1, g2, by rw [lenc]; exact g3, fun j hj => ?_⟩, fun k hk => ?_⟩
          · rw [lenc] at hj
            rw [getc]
            by_cases hjo : j = off
            · subst hjo
              rw [if_pos rfl]
              have := g4 j hj
              rw [hval] at this
              have hv := Rel.nils_inv this
              rw [hv]
              exact .sl fun u hu => by rw [if_pos rfl] at hu; injection hu with hu; subst hu; exact ⟨rfl, _, _, rfl⟩
            · rw [if_neg hjo]
              refine rel (g4 j hj) fun k hk => g5 k ?_
              simp only [O.has]
              exact hasAny_getD hk
          · simp only [O.has] at hk
            by_cases hkn : k = σ.next
            · exact ⟨_, (obj' k).trans (by rw [if_neg (by rw [hkn]; exact hne.symm), if_pos hkn])⟩
            · have : A.hasAny k cs = true := by
                rcases hA : A.hasAny k cs with _ | _
                · have hno : ∀ j, j < (cs.take off ++ A.sl σ.next 0 :: cs.drop (off + 1)).length → ((cs.take off ++ A.sl σ.next 0 :: cs.drop (off + 1)).getD j .any).has k = false := fun j hj => by
                    rw [getc]
                    by_cases hjo : j = off
                    · rw [if_pos hjo]
                      simp only [A.has]
                      cases hb : Nat.beq σ.next k
                      · rfl
                      · exact absurd (Nat.eq_of_beq_eq_true hb).symm hkn
                    · rw [if_neg hjo]
                      cases hh : (cs.getD j .any).has k
                      · rfl
                      · rw [hasAny_getD hh] at hA; cases hA
                  rw [hasAny_false hno] at hk; cases hk
                · rfl
              obtain ⟨o', ho'⟩ := g5 k (by simp only [O.has]; exact this)
              exact dom k o' ho'
        · rw [if_neg h1] at hi
          by_cases h2 : i = σ.next
          · subst h2
            rw [if_pos rfl] at hi
            injection hi with hi
            subst hi
            refine ⟨⟨.slice none 0 0, e, [], if_pos rfl, ⟨by simp, .inl ⟨rfl, rfl⟩⟩, fun _ => rfl, hz', fun j hj => absurd hj (by omega), fun j k hj => absurd hj (by omega)⟩, fun k hk => by simp [O.has] at hk⟩
          · rw [if_neg h2] at hi
            obtain ⟨g1, g2⟩ := h.mem.obj i o hi
            refine ⟨g1.step hS (cvo i h2) (fun _ _ _ _ => rfl) fun k hk => ?_, fun k hk => ?_⟩
            · obtain ⟨o', ho'⟩ := g2 k hk
              exact .inr (cvo k (fresh k o' ho'))
            · obtain ⟨o', ho'⟩ := g2 k hk
              exact dom k o' ho'
      · by_cases h2 : i = σ.next
        · subst h2
          rw [if_pos rfl] at hu
          injection hu with hu
          subst hu
          exact ⟨⟨_, (obj' σ.next).trans (by rw [if_neg hne.symm, if_pos rfl])⟩, fun b hb => by simp [blk] at hb⟩
        · rw [if_neg h2] at hu
          obtain ⟨⟨o, ho⟩, hb⟩ := h.mem.dom i u hu
          exact ⟨dom i o ho, hb⟩
      · by_cases h1 : i = σ.next
        · subst h1; rw [if_pos rfl] at hi; injection hi with hi; subst hi; simp [blk] at hb
        · by_cases h2 : j = σ.next
          · subst h2; rw [if_pos rfl] at hj; injection hj with hj; subst hj; simp [blk] at hb'
          · rw [if_neg h1] at hi
            rw [if_neg h2] at hj
            exact h.mem.inj i j u u' b hi hj hb hb'
      · obtain ⟨g1, g2⟩ := h.slot t x hx
        exact ⟨rel g1 g2, live g2⟩
      · obtain ⟨g1, g2, g3⟩ := h.ghost v x hx
        exact ⟨rel g1 g2, live g2, g3⟩
    · cases ho
  · cases ho
omit [XS] in
theorem nilW_ok {c : Code} {f : St → T} {id off e esz : Nat} (h : CodeOK P (fun _ σ => f σ) c) : CodeOK P (fun _ σ => nilW id off e esz f σ) c := by
  intro σ L hok X B w0 U G a w hsr hg
  obtain ⟨cv, hs⟩ := hsr
  simp only [nilW] at hok
  split at hok
  · rename_i σ' ho
    obtain ⟨h1, h2, h3, h4, h5⟩ := ownNil_sr hs hg ho
    refine wp_mono (h σ' L hok X B w0 _ G a w ⟨_, h1⟩ h2) ?_
    rintro e a1 w1 ⟨x, σ1, rfl, hl, U1, b1, b2, b3, b4, b5, b6, b7⟩
    refine ⟨x, σ1, rfl, hl, U1, fun i hi => b1 i (.inl hi), fun i hi => ?_, b3, b4.trans h3, b5.trans h4, Nat.le_trans h5 b6, b7⟩
    rcases b2 i hi with (hi | rfl) | hi
    · exact .inl hi
    · exact .inr (Nat.le_refl _)
    · exact .inr (Nat.le_trans h5 hi)
  · exact hok.elim
end
def nilA : A → A
  | .emp => .nils
  | x => x
def nilAs : List A → List A
  | [] => []
  | x :: r => nilA x :: nilAs r
def nilTI (ti : TI) : TI := { ti with zero := nilAs ti.zero }
def nilTab : List (Nat × TI) → List (Nat × TI)
  | [] => []
  | p :: r => (p.1, nilTI p.2) :: nilTab r
omit [XS] in
theorem zeroOk_nil {v : Value} {x : A} (h : zeroOk v x = true) : zeroOk v (nilA x) = true := by
  cases x <;> first | exact h | skip
  unfold nilA
  unfold zeroOk at h ⊢
  split at h <;> simp_all
omit [XS] in
theorem zerosOk_nil : ∀ {vs : List Value} {xs : List A}, zerosOk vs xs = true → zerosOk vs (nilAs xs) = true
  | [], [], _ => rfl
  | v :: r, x :: s, h => by
    simp only [zerosOk, Bool.and_eq_true] at h
    simp only [nilAs, zerosOk, Bool.and_eq_true]
    exact ⟨zeroOk_nil h.1, zerosOk_nil h.2⟩
  | [], _ :: _, h => by simp [zerosOk] at h
  | _ :: _, [], h => by simp [zerosOk] at h
omit [XS] in
theorem nilAs_length : ∀ (xs : List A), (nilAs xs).length = xs.length
  | [] => rfl
  | x :: r => by simp [nilAs, nilAs_length r]
omit [XS] in
theorem tiok_nil {P : Program} {t : Nat} {ti : TI} (h : TIOK P t ti) : TIOK P t (nilTI ti) := by
  obtain ⟨⟨i, d, z, h1, h2, h3, h4, h5, h6, h7, h8, h9, h10⟩, k1, k2, k3, k4, k5, k6, k7, k8⟩ := h
  exact ⟨⟨i, d, z, h1, h2, h3, h4, h5, zerosOk_nil h6, h7, (nilAs_length _).trans h8, h9, h10⟩, k1, k2, k3, k4, k5, k6, k7, k8⟩
omit [XS] in
theorem nilTab_ok {P : Program} : ∀ {tab : List (Nat × TI)}, (∀ t ti, (t, ti) ∈ tab → TIOK P t ti) → ∀ t ti, (t, ti) ∈ nilTab tab → TIOK P t ti
  | [], _, t, ti, hm => by cases hm
  | p :: r, h, t, ti, hm => by
    rcases List.mem_cons.1 hm with e | hm
    · injection e with e1 e2
      subst e1 e2
      exact tiok_nil (h _ _ List.mem_cons_self)
    · exact nilTab_ok (fun t ti hm => h t ti (List.mem_cons_of_mem _ hm)) t ti hm
omit [XS] in
theorem cfgN_ok' {P : Program} {ts : List Nat} {tab : List (Nat × TI)} {fts : List (Nat × Func)} {xts : List (Nat × Ext)} {env : Nat → Option (List A → Option (Bool × A))} (h1 : tabOf P ts = some tab)
    (h2 : ∀ f fn, (f, fn) ∈ fts → P.funcs[f]? = some fn ∧ (fn.name == "runtime.NumGoroutine") = false) (h3 : ∀ f e, (f, e) ∈ xts → ∃ fn, XtOK P f e fn) (h4 : EnvOK P env) (h5 : P.follows .mixedOrders = true) : CfgOK P (mkCfg (nilTab tab) fts xts env) :=
  ⟨fun t ti h => nilTab_ok (fun t ti hm => tabOf_ok h1 t ti hm) t ti (look_mem h), fun f fn h => h2 f fn (look_mem h), fun f e h => let ⟨fn, k⟩ := h3 f e (look_mem h); ⟨fn, k.at_, k.name, k.body, k.next, k.run⟩, h4, fun _ _ _ _ h => (by cases h), h5⟩
end Go.Fw

/-
  Arguments that are vectors of three floats, wires, and slices of them.
-/
namespace Go.Fw
open Go.RowKit (Below)
section
variable {H : Type} {enc : TypeId × Value → H} {P : Program} {w : World} {spare : Nat → Bool} {held : Bool}
structure WireD where
  n : Nat
  x : Nat → Nat
  y : Nat → Nat
  z : Nat → Nat
  cl : Bool
  cur : Nat
instance : Inhabited WireD := ⟨⟨0, fun _ => 0, fun _ => 0, fun _ => 0, false, 0⟩⟩
end
end Go.Fw

/-
  An answer that is one slice may be told with another row that is alike below its length.
-/
namespace Go.Fw
open Go.RowKit (Below)
end Go.Fw

/-
  How great sums, products, quotients of 64-bit floats can be; integers as floats; what is left behind a point.
-/
namespace Go.Fw
open Ieee (Datum Format Toward signed)
theorem pow_split {a b c : Nat} (h : a + b = c) : 2 ^ a * 2 ^ b = 2 ^ c := by rw [← Nat.pow_add, h]
def whole (m : Nat) (i : Int) : Nat := m * 2 ^ i.toNat / 2 ^ (-i).toNat
end Go.Fw

/-
  The sine's sum, taken eight times: how great it can be, whatever its argument is.
-/
namespace Go.Fw
open Ieee (Datum Format Toward signed)
end Go.Fw

/-
  Which floats are numbers, as programs ask it; magnitudes against 2 ^ 52.
-/
namespace Go.Fw
open Ieee (Datum Format Toward signed)
def num (k : FloatKind) (x : Nat) : Bool := match k.format.read x with
  | .number .. => true
  | _ => false
end Go.Fw

/-
  The sine of turns, as a function of floats; that it is never too great for 32 bits; magnitudes by bits.
-/
namespace Go.Fw
open Ieee (Datum Format Toward signed)
def denI (j : Nat) : Int := Int.ofNat ((2 * (8 - j)) * (2 * (8 - j) + 1))
def den (j : Nat) : Nat := fofInt .f64 (denI j)
end Go.Fw

/-
  The sine's fraction, told case by case.
-/
namespace Go.Fw
end Go.Fw

/-
  A tree walked along one path: the ways of its branches are given, and become demands.
-/
namespace Go.Fw
end Go.Fw

/-
  Half of a number, and half of it the other way.
-/
namespace Go.Fw
open Ieee
end Go.Fw

/-
  A function's contract where the makers of own memory are told one by one.
-/
namespace Go.Fw
def T.isFail : T → Bool
  | .fail => true
  | _ => false
def T.valW (cfg : Cfg) (fn : Func) : T → List Bool → Option (Bool × A)
  | .leaf x σ, _ => match leafRes cfg fn x σ with | some a => some (true, a) | none => none
  | .ite b t e, ds => match e.isFail with
    | true => match t.valW cfg fn ds with | some (c, a) => some (b && c, a) | none => none
    | false => match t.isFail with
      | true => match e.valW cfg fn ds with | some (c, a) => some (!b && c, a) | none => none
      | false => match ds with
        | [] => none
        | d :: ds => match d with
          | true => match t.valW cfg fn ds with | some (c, a) => some (b && c, a) | none => none
          | false => match e.valW cfg fn ds with | some (c, a) => some (!b && c, a) | none => none
  | .fail, _ => none
  | .loop .., _ => none
theorem T.valW_ok {P : Program} {cfg : Cfg} {fn : Func} : ∀ {t : T} {ds : List Bool} {c : Bool} {r : A}, t.valW cfg fn ds = some (c, r) → c = true → t.Ok P fun x σ => leafRes cfg fn x σ = some r
  | .leaf x σ, _, c, r, h, _ => by
    simp only [T.valW] at h
    split at h
    · rename_i a ha; simp only [Option.some.injEq, Prod.mk.injEq] at h; obtain ⟨_, rfl⟩ := h; exact ha
    · cases h
  | .ite b t e, ds, c, r, h, hc => by
    have left : ∀ {ds : List Bool}, (match t.valW cfg fn ds with | some (c, a) => some (b && c, a) | none => none) = some (c, r) → (T.ite b t e).Ok P fun x σ => leafRes cfg fn x σ = some r := fun h => by
      split at h
      · rename_i c' a hv
        simp only [Option.some.injEq, Prod.mk.injEq] at h
        obtain ⟨rfl, rfl⟩ := h
        simp only [Bool.and_eq_true] at hc
        refine ⟨fun _ => T.valW_ok hv hc.2, fun hb => ?_⟩
        rw [hc.1] at hb; cases hb
      · cases h
    have right : ∀ {ds : List Bool}, (match e.valW cfg fn ds with | some (c, a) => some (!b && c, a) | none => none) = some (c, r) → (T.ite b t e).Ok P fun x σ => leafRes cfg fn x σ = some r := fun h => by
      split at h
      · rename_i c' a hv
        simp only [Option.some.injEq, Prod.mk.injEq] at h
        obtain ⟨rfl, rfl⟩ := h
        simp only [Bool.and_eq_true, Bool.not_eq_true'] at hc
        refine ⟨fun hb => ?_, fun _ => T.valW_ok hv hc.2⟩
        rw [hc.1] at hb; cases hb
      · cases h
    simp only [T.valW] at h
    split at h
    · exact left h
    · split at h
      · exact right h
      · split at h
        · cases h
        · split at h
          · exact left h
          · exact right h
  | .fail, _, _, _, h, _ => by simp only [T.valW] at h; cases h
  | .loop .., _, _, _, h, _ => by simp only [T.valW] at h; cases h
def autoW (cfg : Cfg) (own : Nat → Bool) (un : Nat) (lp : Nat → Option (St → T)) (way : List Bool) (fn : Func) (ds : List A) : Option (Bool × A) :=
  match Nat.ble ds.length fn.ntmps with
  | false => none
  | true => match (exec cfg own lp un 1000 (bodyOf fn) (St.enter fn ds [] 0)).valW cfg fn way with
    | some (c, r) => some (c, r)
    | none => none
theorem autoW_ok {P : Program} {cfg : Cfg} (hc : CfgOK P cfg) {f : Nat} {fn : Func} {own : Nat → Bool} {un : Nat} {lp : Nat → Option (St → T)} {way : List Bool} (hf : P.funcs[f]? = some fn) (hb : fn.body.isSome = true) (hlp : LpOK P lp (bodyOf fn)) {ds : List A} {c : Bool} {r : A}
    (h : autoW cfg own un lp way fn ds = some (c, r)) (hct : c = true) : PureCall P f ds r := by
  unfold autoW at h
  split at h
  · cases h
  · rename_i hle
    split at h
    · rename_i c' r' hv
      simp only [Option.some.injEq, Prod.mk.injEq] at h
      obtain ⟨rfl, rfl⟩ := h
      have hb' : fn.body = some (bodyOf fn) := by
        unfold bodyOf
        cases h : fn.body
        · rw [h] at hb; cases hb
        · rfl
      exact pure_of_tree hc hf hb' (Nat.le_of_ble_eq_true hle) hlp (T.valW_ok hv hct)
    · cases h
theorem PostV.roT_congr {B : Nat} {T : Nat → Prop} {w' : World} {v : Value} {esz len : Nat} {g g' : Row A} {b : Bool} (h : PostV B T w' v (.tup [.ro esz len g, .bool b])) (hg : ∀ i, i < len → g i = g' i) : PostV B T w' v (.tup [.ro esz len g', .bool b]) := by
  intro base
  obtain ⟨cv, h1, h2, h3, h4⟩ := h base
  refine ⟨cv, h1, h2, fun id o ho => ?_, h4⟩
  have h5 := h3 id (.row 0 esz len g)
  have ho' : look [(base, O.row 0 esz len g')] id = some o := ho
  have h5' : look [(base, O.row 0 esz len g)] id = some (.row 0 esz len g) → ObjOKS B w' (fun b => (B ≤ b ∨ T b) ∧ Sy w' cv b) cv id (.row 0 esz len g) := h5
  simp only [look] at ho' h5'
  split at ho'
  · rename_i hb
    injection ho' with ho'
    subst ho'
    obtain ⟨v, E, xs, k1, k2, k3, k4, k5, k6⟩ := h5' (by simp only [hb])
    exact ⟨v, E, xs, k1, k2, k3, k4, fun i hi => by rw [← hg i hi]; exact k5 i hi, fun i j hi hj => by rw [← hg i hi]; exact k6 i j hi hj⟩
  · cases ho'
theorem PureCall.roT_congr {P : Program} {f : Nat} {ds : List A} {esz len : Nat} {g g' : Row A} {b : Bool} (h : PureCall P f ds (.tup [.ro esz len g, .bool b])) (hg : ∀ i, i < len → g i = g' i) (hp : rowPlainR esz g = rowPlainR esz g' := by rfl) : PureCall P f ds (.tup [.ro esz len g', .bool b]) :=
  fun w vs T hT hs hr => (h w vs T hT hs hr).mono fun _ _ ⟨v, he, hb, hpo⟩ => ⟨v, he, hb, by
    have e : (A.tup [.ro esz len g', .bool b]).plainR = (A.tup [.ro esz len g, .bool b]).plainR := by
      simp only [A.plainR, A.plainRs, hp]
    rw [e]; exact hpo.roT_congr hg⟩
end Go.Fw

/-
  Slices of bytes as arguments.
-/
namespace Go.Fw
section
variable {H : Type} {enc : TypeId × Value → H} {P : Program} {w : World} {spare : Nat → Bool} {held : Bool}
theorem trod_u8 {t : TypeId} {fuel : Nat} {cs : List Value} {x : DataW H × List MemPlace} (ht : P.underlying t = some (.int .u8)) (h : DataW.trod enc P w 0 spare held fuel t cs = some x) :
    ∃ m : Nat, m < 256 ∧ cs = [.int .u8 (Int.ofNat m)] := by
  obtain ⟨n, h1, _, h3⟩ := DataW.trod_int ht h
  have : 0 ≤ n ∧ n < 256 := by
    simp [Lit.wf, IntKind.min, IntKind.max, IntKind.bits, IntKind.signed] at h3
    omega
  exact ⟨n.toNat, by omega, by rw [h1]; congr; exact (Int.toNat_of_nonneg this.1).symm⟩
theorem in_bytes {t e : TypeId} {fuel : Nat} {cs : List Value} {x : DataW H × List MemPlace} (ht : P.underlying t = some (.slice e)) (he : P.underlying e = some (.int .u8)) (hc : P.cellsOf e = 1) (h : DataW.trod enc P w 0 spare held fuel t cs = some x) :
    ∃ (v : Value) (n : Nat) (b : Nat → Nat), cs = [v] ∧ (∀ i, b i < 256) ∧ RelD w (fun b => b < w.heap.size) v (.ro 1 n (.gen fun i => .int .u8 (Int.ofNat (b i)))) := by
  obtain ⟨v, len, xs, h1, h2, h3, h4⟩ := rel_slice ht hc (by omega) h (α := Nat) (fun n => .int .u8 (Int.ofNat n)) (fun n => n < 256) ⟨0, by omega⟩ (fun _ => rfl) fun n cs' y hy => by
    obtain ⟨m, hm, rfl⟩ := trod_u8 he hy
    exact ⟨m, hm, rfl, fun j hj => by
      have : j = 0 := by omega
      subst this
      exact ⟨rfl, RelD.int .u8 _⟩⟩
  exact ⟨v, len, xs, h1, h3, h4⟩
end
end Go.Fw

/-
  Drawn regions with a call in their head that changes one object: the head in whatever order.
-/
namespace Go.Fw
open Go.RowKit (Below)
abbrev FE := Nat → Option (Nat × (List A → O → Option (Bool × A × O)))
def feOf (fe : FE) (o : Oper) : Option (Nat × (List A → O → Option (Bool × A × O))) :=
  match o.guard, o.dst, o.op with
  | none, some _, .call { callee := .value (.func f), .. } => fe f
  | _, _, _ => none
def cArgs (o : Oper) (get : Nat → A) : List A := match o.op with
  | .call { args, .. } => args.toList.map (opd get)
  | _ => []
def cStep (fe : FE) (o : Oper) (σ : St) : Option (Bool × Nat × St) :=
  match feOf fe o with
  | some (id, F) => match σ.obj id, σ.grds, o.dst with
    | some ob, [], some d => match F (cArgs o σ.get0) ob, Nat.blt d σ.n with
      | some (b, v, ob'), true => some (b, id, { σ with tmps := (d, v) :: σ.tmps, mem := (id, ob') :: σ.mem })
      | _, _ => none
    | _, _, _ => none
  | none => none
def tgts4 (fe : FE) (σ : St) (base : Nat) (all : List Oper) : Nat → List Oper → List (Nat × Nat)
  | _, [] => []
  | k, o :: r => match feOf fe o with
    | some (id, _) => (id, k) :: tgts4 fe σ base all (k + 1) r
    | none => match isEarly o with
      | false => tgts4 fe σ base all (k + 1) r
      | true => match o.op with
        | .store _ (.tmp t) _ => match tgtOf σ base all t with
          | some id => (id, k) :: tgts4 fe σ base all (k + 1) r
          | none => tgts4 fe σ base all (k + 1) r
        | _ => tgts4 fe σ base all (k + 1) r
def noGuards (l : List Oper) (ops : Array Oper) : Bool := l.all fun o => match guardOf ops o with | some (some _) => false | _ => true
def runHead4 (cfg : Cfg) (fe : FE) (obj : Nat → Option O) (S0 : List (Nat × Nat)) (ops : Array Oper) (base0 : Nat) : Nat → List (Nat × Nat) → Nat → List Oper → Bool → St → Option (Bool × St)
  | _, _, _, [], c, σ => some (c, σ)
  | k, S, base, o :: rest, c, σ => match isEarly o with
    | true => match eStep cfg o σ with
      | some (id, σ') => match memPair id k S && tgtOk obj base0 o id with
        | true => runHead4 cfg fe obj S0 ops base0 (k + 1) (dropFst id S) (base + 16) rest c σ'
        | false => none
      | none => none
    | false => match cStep fe o σ with
      | some (b, id, σ') => match memPair id k S && tgtOk obj base0 o id with
        | true => runHead4 cfg fe obj S0 ops base0 (k + 1) (dropFst id S) (base + 16) rest (b && c) σ'
        | false => none
      | none => hideK ops k S0 obj fun ob => match qStep cfg ob (headOwn ops) base ops o σ with
        | some (c', σ') => runHead4 cfg fe obj S0 ops base0 (k + 1) S (base + 16) rest (c' && c) σ'
        | none => none
def runRegion4 (cfg : Cfg) (fe : FE) (own : Nat → Bool) (ex : Code → St → T) (ops : Array Oper) (draw : Bool) (σ0 : St) : T :=
  match draw, (ops.toList.any fun o => (feOf fe o).isSome) with
  | true, true =>
    let base := σ0.next
    let σ : St := { σ0 with next := base + 16 * ops.size }
    let m := tailFrom (Region.before ops).toList ops.size
    let S := tgts4 fe σ base (ops.toList.take m) 0 (ops.toList.take m)
    match headOk (ops.toList.take m) ops && tailOk ops m && aftersOk ops && noGuards (ops.toList.take m) ops with
    | true => match runHead4 cfg fe σ.obj S ops base 0 S base (ops.toList.take m) true σ with
      | some (c, σ') => guarded c (runOps cfg own ex ops (base + 16 * m) (ops.toList.drop m) σ')
      | none => .fail
    | false => .fail
  | _, _ => runRegion cfg own ex ops draw σ0
def exec4 (cfg : Cfg) (fe : FE) (own : Nat → Bool) (lp : Nat → Option (St → T)) (un : Nat) : Nat → Code → St → T
  | 0, _, _ => .fail
  | fuel + 1, c, σ => match c with
    | .skip => .leaf .normal σ
    | .region _ ops draw => runRegion4 cfg fe own (exec4 cfg fe (fun _ => false) (fun _ => none) un fuel) ops draw σ
    | .seq a b => (exec4 cfg fe own lp un fuel a σ).bind fun x σ' => match x with
      | .normal => exec4 cfg fe own lp un fuel b σ'
      | x => .leaf x σ'
    | .cond o a b => match opd σ.get o with
      | .bool t => .ite t (exec4 cfg fe own lp un fuel a σ) (exec4 cfg fe own lp un fuel b σ)
      | _ => .fail
    | .block id body => match lp id with
      | some f => f σ
      | none => (exec4 cfg fe own lp un fuel body σ).bind (onExit id)
    | .loop body => match un with
      | 0 => .loop body σ .leaf
      | n + 1 => unroll (exec4 cfg fe own lp un fuel body) (n + 1) σ
    | .exit id => .leaf (.exit id) σ
    | .ret => .leaf .ret σ
    | _ => .fail
def FeOK (P : Program) (fe : FE) : Prop :=
  ∀ (_ : XS) (B : Nat) (w0 : World) (U : Nat → Prop) (G : Value → A → Prop) (σ σ' : St) (a : Act) (w : World) (cv : Nat → Option Value) (base id : Nat) (ops : Array Oper) (o : Oper) (K : Act → World → Prop) (Q : Exit → Act → World → Prop),
    cStep fe o σ = some (true, id, σ') → SRcv B w0 U G σ a w cv → (∀ id, base ≤ id → id < base + 16 → ¬ U id) → base + 16 ≤ σ.next →
    (∀ a' w', SR B w0 (fun id => U id ∨ (base ≤ id ∧ id < base + 16)) G σ' a' w' → K a' w') → StepOK P ops Q o K a w
variable [XS]
omit [XS] in
theorem cStep_spec {fe : FE} {o : Oper} {σ σ' : St} {id : Nat} {b : Bool} (h : cStep fe o σ = some (b, id, σ')) : ∃ F ob d v ob', feOf fe o = some (id, F) ∧ σ.obj id = some ob ∧ σ.grds = [] ∧ o.dst = some d ∧ F (cArgs o σ.get0) ob = some (b, v, ob') ∧ Nat.blt d σ.n = true ∧
    σ' = { σ with tmps := (d, v) :: σ.tmps, mem := (id, ob') :: σ.mem } := by
  unfold cStep at h
  split at h
  · rename_i id' F hF
    split at h
    · rename_i ob d ho hg hd
      split at h
      · rename_i b' v ob' hv hn
        simp only [Option.some.injEq, Prod.mk.injEq] at h
        obtain ⟨rfl, rfl, rfl⟩ := h
        exact ⟨F, ob, d, v, ob', hF, ho, hg, hd, hv, hn, rfl⟩
      · cases h
    · cases h
  · cases h
omit [XS] in
theorem feOf_op {fe : FE} {o : Oper} {r : Nat × (List A → O → Option (Bool × A × O))} (h : feOf fe o = some r) : o.guard = none ∧ ∃ c, o.op = .call c := by
  unfold feOf at h
  split at h
  · rename_i h1 h2 h3
    exact ⟨h1, _, h3⟩
  · cases h
def HStep4 (cfg : Cfg) (fe : FE) (obj : Nat → Option O) (ops : Array Oper) (base : Nat) (tg : Option Nat) (o : Oper) (σ σ' : St) : Prop :=
  (isEarly o = false ∧ tg = none ∧ qStep cfg obj (headOwn ops) base ops o σ = some (true, σ')) ∨ (isEarly o = true ∧ ∃ id, tg = some id ∧ eStep cfg o σ = some (id, σ')) ∨ (isEarly o = false ∧ ∃ id, tg = some id ∧ cStep fe o σ = some (true, id, σ'))
omit [XS] in
theorem HStep4.keep {cfg : Cfg} {fe : FE} {obj : Nat → Option O} {ops : Array Oper} {base : Nat} {tg : Option Nat} {o : Oper} {σ σ' : St} (h : HStep4 cfg fe obj ops base tg o σ σ') : σ'.n = σ.n ∧ σ'.lo = σ.lo ∧ σ'.next = σ.next := by
  rcases h with ⟨_, _, h⟩ | ⟨_, id, _, h⟩ | ⟨_, id, _, h⟩
  · exact qStep_keep h
  · obtain ⟨_, _, _, _, _, _, _, _, _, _, rfl⟩ := eStep_spec h
    exact ⟨rfl, rfl, rfl⟩
  · obtain ⟨_, _, _, _, _, _, _, _, _, _, _, rfl⟩ := cStep_spec h
    exact ⟨rfl, rfl, rfl⟩
omit [XS] in
theorem runHead_chain4 {cfg : Cfg} {fe : FE} {obj : Nat → Option O} {S0 : List (Nat × Nat)} {ops : Array Oper} {base0 : Nat} : ∀ (l : List Oper) (kk : Nat) (S : List (Nat × Nat)) (base : Nat) (c : Bool) (σ σ' : St), runHead4 cfg fe obj S0 ops base0 kk S base l c σ = some (true, σ') →
    c = true ∧ ∃ (s : Nat → St) (tg : Nat → Option Nat), s 0 = σ ∧ s l.length = σ' ∧ (∀ i o, l[i]? = some o → HStep4 cfg fe (hide ops (kk + i) S0 obj) ops (base + 16 * i) (tg i) o (s i) (s (i + 1))) ∧
      (∀ i id, tg i = some id → memPair id (kk + i) S = true ∧ ∃ o, l[i]? = some o ∧ tgtOk obj base0 o id = true) ∧ ∀ i j id, tg i = some id → tg j = some id → i = j
  | [], kk, S, base, c, σ, σ', h => by
    simp only [runHead4, Option.some.injEq, Prod.mk.injEq] at h
    obtain ⟨rfl, rfl⟩ := h
    exact ⟨rfl, fun _ => σ, fun _ => none, rfl, rfl, fun i o hi => by simp at hi, fun _ _ h => (by cases h), fun _ _ _ h => (by cases h)⟩
  | o :: rest, kk, S, base, c, σ, σ', h => by
    simp only [runHead4, hideK_eq] at h
    have sh : ∀ i, base + 16 + 16 * i = base + 16 * (i + 1) := fun i => by omega
    have sk : ∀ i, kk + 1 + i = kk + (i + 1) := fun i => by omega
    cases he : isEarly o
    · simp only [he] at h
      split at h
      · rename_i b0 id0 σ1 hq
        split at h
        · rename_i hm
          simp only [Bool.and_eq_true] at hm
          obtain ⟨hc, s, tg, h0, hl, hs, h1, h2⟩ := runHead_chain4 rest (kk + 1) _ (base + 16) _ σ1 σ' h
          simp only [Bool.and_eq_true] at hc
          refine ⟨hc.2, fun i => match i with | 0 => σ | i + 1 => s i, fun i => match i with | 0 => some id0 | i + 1 => tg i, rfl, hl, fun i o' hi => ?_, fun i id hi => ?_, fun i j id hi hj => ?_⟩
          · cases i with
            | zero =>
              simp only [List.getElem?_cons_zero, Option.some.injEq] at hi
              subst hi
              refine .inr (.inr ⟨he, id0, rfl, ?_⟩)
              show cStep fe o σ = some (true, id0, s 0)
              rw [h0, ← hc.1]
              exact hq
            | succ i =>
              have := hs i o' (by simpa using hi)
              rw [sh, sk] at this
              exact this
          · cases i with
            | zero => injection hi with hi; subst hi; exact ⟨hm.1, o, rfl, hm.2⟩
            | succ i =>
              obtain ⟨k1, o', ho', hk⟩ := h1 i id hi
              rw [sk] at k1
              exact ⟨(memPair_drop k1).1, o', by simpa using ho', hk⟩
          · cases i with
            | zero =>
              cases j with
              | zero => rfl
              | succ j => injection hi with hi; subst hi; exact absurd rfl (memPair_drop (h1 j _ hj).1).2
            | succ i =>
              cases j with
              | zero => injection hj with hj; subst hj; exact absurd rfl (memPair_drop (h1 i _ hi).1).2
              | succ j => rw [h2 i j id hi hj]
        · cases h
      · split at h
        · rename_i c' σ1 hq
          obtain ⟨hc, s, tg, h0, hl, hs, h1, h2⟩ := runHead_chain4 rest (kk + 1) S (base + 16) _ σ1 σ' h
          simp only [Bool.and_eq_true] at hc
          refine ⟨hc.2, fun i => match i with | 0 => σ | i + 1 => s i, fun i => match i with | 0 => none | i + 1 => tg i, rfl, hl, fun i o' hi => ?_, fun i id hi => ?_, fun i j id hi hj => ?_⟩
          · cases i with
            | zero =>
              simp only [List.getElem?_cons_zero, Option.some.injEq] at hi
              subst hi
              refine .inl ⟨he, rfl, ?_⟩
              show qStep cfg (hide ops (kk + 0) S0 obj) _ (base + 16 * 0) ops o σ = some (true, s 0)
              rw [h0, ← hc.1]
              exact hq
            | succ i =>
              have := hs i o' (by simpa using hi)
              rw [sh, sk] at this
              exact this
          · cases i with
            | zero => cases hi
            | succ i =>
              obtain ⟨k1, o', ho', hk⟩ := h1 i id hi
              rw [sk] at k1
              exact ⟨k1, o', by simpa using ho', hk⟩
          · cases i with
            | zero => cases hi
            | succ i =>
              cases j with
              | zero => cases hj
              | succ j => rw [h2 i j id hi hj]
        · cases h
    · simp only [he] at h
      split at h
      · rename_i id0 σ1 hq
        split at h
        · rename_i hm
          simp only [Bool.and_eq_true] at hm
          obtain ⟨hc, s, tg, h0, hl, hs, h1, h2⟩ := runHead_chain4 rest (kk + 1) _ (base + 16) _ σ1 σ' h
          refine ⟨hc, fun i => match i with | 0 => σ | i + 1 => s i, fun i => match i with | 0 => some id0 | i + 1 => tg i, rfl, hl, fun i o' hi => ?_, fun i id hi => ?_, fun i j id hi hj => ?_⟩
          · cases i with
            | zero =>
              simp only [List.getElem?_cons_zero, Option.some.injEq] at hi
              subst hi
              refine .inr (.inl ⟨he, id0, rfl, ?_⟩)
              show eStep cfg o σ = some (id0, s 0)
              rw [h0]
              exact hq
            | succ i =>
              have := hs i o' (by simpa using hi)
              rw [sh, sk] at this
              exact this
          · cases i with
            | zero => injection hi with hi; subst hi; exact ⟨hm.1, o, rfl, hm.2⟩
            | succ i =>
              obtain ⟨k1, o', ho', hk⟩ := h1 i id hi
              rw [sk] at k1
              exact ⟨(memPair_drop k1).1, o', by simpa using ho', hk⟩
          · cases i with
            | zero =>
              cases j with
              | zero => rfl
              | succ j => injection hi with hi; subst hi; exact absurd rfl (memPair_drop (h1 j _ hj).1).2
            | succ i =>
              cases j with
              | zero => injection hj with hj; subst hj; exact absurd rfl (memPair_drop (h1 i _ hi).1).2
              | succ j => rw [h2 i j id hi hj]
        · cases h
      · cases h
omit [XS] in
theorem cStep_wrote {fe : FE} {ops : Array Oper} {o : Oper} {σ σ' : St} {id : Nat} {b : Bool} {ow : Nat → Prop} (h : cStep fe o σ = some (b, id, σ')) (how : ow id) : WroteG ops o ow σ σ' := by
  obtain ⟨_, _, d, _, _, _, _, _, hd, _, _, rfl⟩ := cStep_spec h
  refine ⟨rfl, rfl, rfl, fun t ht => ⟨look_cons_other _ _ fun e => ht (by rw [hd, e]), rfl⟩, fun g hg => .inl hg, fun i hi => ?_⟩
  exact look_cons_other _ _ fun e => hi (by rw [e]; exact how)
omit [XS] in
theorem HStep4.wrote {cfg : Cfg} {fe : FE} {obj : Nat → Option O} {ops : Array Oper} {l : List Oper} {base : Nat} {tg : Nat → Option Nat} {i : Nat} {o : Oper} {σ σ' : St} (hh : HeadOK l ops) (hi : l[i]? = some o) (h : HStep4 cfg fe obj ops (base + 16 * i) (tg i) o σ σ') : WroteG ops o (Own base tg i) σ σ' := by
  rcases h with h | h | ⟨_, id, ht, h⟩
  · exact HStep.wrote (obj := obj) hh hi (.inl h)
  · exact HStep.wrote (obj := obj) hh hi (.inr h)
  · exact cStep_wrote h (.inr ht)
section
variable {cfg : Cfg} {fe : FE} {obj : Nat → Nat → Option O} {ops : Array Oper} {l : List Oper} {base : Nat} {s : Nat → St} {tg : Nat → Option Nat}
variable (hs : ∀ i o, l[i]? = some o → HStep4 cfg fe (obj i) ops (base + 16 * i) (tg i) o (s i) (s (i + 1)))
include hs
omit [XS] in
theorem at_text4 (hh : HeadOK l ops) (hoi : OwnOK l base tg) (haf : ∀ j p, l[j]? = some p → ∀ k, k ∈ afters p → k < j) (h0 : (s 0).grds = []) : ∀ i, i ≤ l.length → At ops l s base tg (fun j => decide (j < i)) (s i)
  | 0, _ => ⟨rfl, rfl, rfl, fun t _ => ⟨rfl, by rw [h0]; rfl⟩, (fun j o t _ hl => by simp at hl), (fun g hg => by rw [h0] at hg; cases hg), fun _ _ => rfl, (fun j o id _ hl => by simp at hl)⟩
  | i + 1, hle => by
    have ih := at_text4 hh hoi haf h0 i (by omega)
    have hi : l[i]? = some l[i] := List.getElem?_eq_getElem (by omega)
    exact ih.add hh hoi hi (by simp) (fun j p hj hl k hk => by have := haf j p hj k hk; simp at hl ⊢; omega) (fun j => by simp only [decide_eq_true_eq]; omega) ((hs i _ hi).wrote hh hi) ⟨fun _ _ => ⟨rfl, rfl⟩, fun _ _ => rfl⟩
omit [XS] in
theorem head_step4 (hh : HeadOK l ops) (hoi : OwnOK l base tg) (h0 : (s 0).grds = []) (hng : noGuards l ops = true) {Lb Lb' : Nat → Bool} {τ : St} (h : At ops l s base tg Lb τ) {i : Nat} {o : Oper} (hi : l[i]? = some o) (hno : Lb i = false)
    (haf : ∀ j p, l[j]? = some p → ∀ k, k ∈ afters p → k < j) (hready : ∀ k, k ∈ afters o → Lb k = true) (hclosed : ∀ j p, l[j]? = some p → Lb j = true → ∀ k, k ∈ afters p → Lb k = true) (hLb : ∀ j, Lb' j = true ↔ Lb j = true ∨ j = i) :
    ∃ τ', HStep4 cfg fe (obj i) ops (base + 16 * i) (tg i) o τ τ' ∧ At ops l s base tg Lb' τ' := by
  have hil : i < l.length := (List.getElem?_eq_some_iff.1 hi).1
  have hti := at_text4 hs hh hoi haf h0 i (by omega)
  have same : ∀ t, (∀ (j : Nat) (p : Oper), l[j]? = some p → p.dst = some t → Lb j = true ∧ j < i) → look τ.tmps t = look (s i).tmps t ∧ grdAt τ.grds t = grdAt (s i).grds t := by
    intro t ht
    by_cases hex : ∃ (j : Nat) (p : Oper), l[j]? = some p ∧ p.dst = some t
    · obtain ⟨j, p, hj, hp⟩ := hex
      have h2 := ht j p hj hp
      have e1 := h.t2 j p t hj h2.1 hp
      have e2 := hti.t2 j p t hj (by simpa using h2.2) hp
      exact ⟨e1.1.trans e2.1.symm, e1.2.trans e2.2.symm⟩
    · have e1 := h.t1 t fun j p hj _ hp => hex ⟨j, p, hj, hp⟩
      have e2 := hti.t1 t fun j p hj _ hp => hex ⟨j, p, hj, hp⟩
      exact ⟨e1.1.trans e2.1.symm, e1.2.trans e2.2.symm⟩
  have halike : Alike ops o τ (s i) := by
    intro t ht
    have hlt := same t fun j p hj hp => by
      have := hh.seen i j o p t hi hj ht hp
      exact ⟨hready j this, haf i o hi j this⟩
    refine ⟨hlt.1, hlt.2, fun g hg => ?_⟩
    rw [hlt.2] at hg
    obtain ⟨j, p, hj, hjl, hpd, hpg⟩ := hti.g g (grdAt_mem hg)
    have hji : j < i := by simpa using hjl
    have hgt := grdAt_t hg
    rw [hgt] at hpd
    have hja := hh.seen i j o p t hi hj ht hpd
    refine (same g.s fun k q hk hq => ?_).1
    have := hh.seen j k p q g.s hj hk (guardOf_looks hpg) hq
    have hkj := haf j p hj k this
    exact ⟨hclosed j p hj (hready j hja) k this, by omega⟩
  have obj_same : ∀ id, Own base tg i id → τ.obj id = (s i).obj id := fun id hid => by
    by_cases hex : ∃ j p, l[j]? = some p ∧ Lb j = true ∧ Own base tg j id
    · obtain ⟨j, p, hj, hjl, hjo⟩ := hex
      have hji : j ≠ i := fun e => by rw [e, hno] at hjl; cases hjl
      rcases own_two hoi hjo hid hji with ⟨k1, p', k2, k3⟩ | ⟨k1, p', k2, k3⟩
      · rw [hclosed j p' k2 hjl i k3] at hno; cases hno
      · rw [hi] at k2
        injection k2 with k2
        subst k2
        have e1 := h.m2 j p id hj hjl hjo fun i' hi' ht' => by
          have := hoi.one i' i id ht' k1
          rw [this, hno] at hi'; cases hi'
        have e2 := hti.m2 j p id hj (by simpa using haf i _ hi j k3) hjo fun i' hi' ht' => by
          have := hoi.one i' i id ht' k1
          simp at hi'; omega
        rw [e1, e2]
    · have e1 : τ.obj id = (s 0).obj id := h.m1 id fun j p hj hjl hjo => hex ⟨j, p, hj, hjl, hjo⟩
      have e2 : (s i).obj id = (s 0).obj id := hti.m1 id fun j p hj hjl hjo => by
        have hlt : j < i := by simpa using hjl
        rcases own_two hoi hjo hid (by omega) with ⟨k1, p', k2, k3⟩ | ⟨k1, p', k2, k3⟩
        · have := haf j p' k2 i k3; omega
        · rw [hi] at k2
          injection k2 with k2
          subst k2
          exact hex ⟨j, p, hj, hready j k3, hjo⟩
      rw [e1, e2]
  rcases hs i o hi with ⟨he, htg, hq⟩ | ⟨he, id, htg, hq⟩ | ⟨he, id, htg, hq⟩
  · obtain ⟨d, hd⟩ := (hh.dst i o hi).resolve_right (by rw [he]; exact Bool.false_ne_true)
    obtain ⟨r, hv, hp⟩ : ∃ r, qVal cfg (obj i) (headOwn ops) (base + 16 * i) ops o (s i) = some r ∧ qPut (base + 16 * i) o (s i) r = some (true, s (i + 1)) := by
      unfold qStep at hq
      split at hq
      · cases hq
      · rename_i r hr; exact ⟨r, hr, hq⟩
    have hval := (halike.qVal cfg (obj i) (headOwn ops) (base + 16 * i)).trans hv
    have hfree : grdFree τ.grds d = true := grdFree_of fun g hg => by
      obtain ⟨j, p, hj, hjl, hpd, hpg⟩ := h.g g hg
      refine ⟨fun e => ?_, fun e => ?_⟩
      · have := hh.seen j i p o g.s hj hi (guardOf_looks hpg) (by rw [e]; exact hd)
        rw [hclosed j p hj hjl i this] at hno
        cases hno
      · have := hh.inj j i p o d hj hi (by rw [← e]; exact hpd) hd
        rw [← this, hjl] at hno
        cases hno
    obtain ⟨τ', hput⟩ := qPut_again hp hd (h.n.trans hti.n.symm) hfree
    have hq' : qStep cfg (obj i) (headOwn ops) (base + 16 * i) ops o τ = some (true, τ') := by unfold qStep; rw [hval]; exact hput
    have hst : HStep4 cfg fe (obj i) ops (base + 16 * i) (tg i) o τ τ' := .inl ⟨he, htg, hq'⟩
    refine ⟨τ', hst, ?_⟩
    have w1 := qPut_wrote (ops := ops) hput hd
    have w2 := qPut_wrote (ops := ops) hp hd
    refine h.add hh hoi hi hno hclosed hLb (hst.wrote hh hi) ⟨fun d' hd' => ?_, fun id hid => ?_⟩
    · rw [hd] at hd'
      injection hd' with hd'
      subst hd'
      exact ⟨w1.slot.trans w2.slot.symm, w1.grd.trans w2.grd.symm⟩
    · rw [w1.obj, w2.obj, obj_same id hid]
  · obtain ⟨t, x, y, ti, ob, ho, ht, hob, hg0, hd0, hσ⟩ := eStep_spec hq
    have opd_same : ∀ z : Operand, (z = x ∨ z = y) → opd τ.get0 z = opd (s i).get0 z := fun z hz => by
      cases z with
      | tmp t' =>
        refine halike.get0 ?_
        unfold looks
        refine List.mem_append_left _ (List.mem_filterMap.2 ⟨.tmp t', ?_, rfl⟩)
        rw [ho]
        simp only [Op.operands]
        rcases hz with h1 | h1 <;> simp [← h1]
      | const v => rfl
      | global v => rfl
      | func v => rfl
    have hid : Own base tg i id := .inr htg
    have hq' : eStep cfg o τ = some (id, { τ with mem := (id, ob) :: τ.mem }) := by
      have e := eObj_obj hob (obj_same id hid)
      rw [← opd_same x (.inl rfl), ← opd_same y (.inr rfl)] at e
      unfold eStep
      simp only [hg0, hd0, ho, ht, e]
    have hst : HStep4 cfg fe (obj i) ops (base + 16 * i) (tg i) o τ _ := .inr (.inl ⟨he, id, htg, hq'⟩)
    refine ⟨_, hst, h.add hh hoi hi hno hclosed hLb (hst.wrote hh hi) ⟨fun d' hd' => ?_, fun id' hid' => ?_⟩⟩
    · rw [hd0] at hd'; cases hd'
    · rw [hσ]
      show look ((id, _) :: τ.mem) id' = look ((id, _) :: (s i).mem) id'
      by_cases e : id' = id
      · subst e; rw [look_cons_same, look_cons_same]
      · rw [look_cons_other _ _ e, look_cons_other _ _ e]
        exact obj_same id' hid'
  · obtain ⟨F, ob, d, v, ob', hF, ho, hg0, hd, hv, hn, hσ⟩ := cStep_spec hq
    obtain ⟨hgn, c, hop⟩ := feOf_op hF
    have hgr : τ.grds = [] := by
      cases hτ : τ.grds with
      | nil => rfl
      | cons g r =>
        obtain ⟨j, p, hj, _, _, hpg⟩ := h.g g (by rw [hτ]; exact List.mem_cons_self)
        have := List.all_eq_true.1 hng p (List.mem_of_getElem? hj)
        rw [hpg] at this
        cases this
    have args_same : cArgs o τ.get0 = cArgs o (s i).get0 := by
      unfold cArgs
      rw [hop]
      refine List.map_congr_left fun z hz => ?_
      cases z with
      | tmp t' =>
        refine halike.get0 ?_
        unfold looks
        refine List.mem_append_left _ (List.mem_filterMap.2 ⟨.tmp t', ?_, rfl⟩)
        rw [hop]
        simp only [Op.operands, Call.operands]
        simp at hz ⊢
        first | exact .inr hz | exact hz | simp [hz]
      | const v => rfl
      | global v => rfl
      | func v => rfl
    have hid : Own base tg i id := .inr htg
    have hq' : cStep fe o τ = some (true, id, { τ with tmps := (d, v) :: τ.tmps, mem := (id, ob') :: τ.mem }) := by
      unfold cStep
      simp only [hF, hgr, hd, (obj_same id hid).trans ho, args_same, hv]
      rw [h.n.trans hti.n.symm, hn]
    have hst : HStep4 cfg fe (obj i) ops (base + 16 * i) (tg i) o τ _ := .inr (.inr ⟨he, id, htg, hq'⟩)
    refine ⟨_, hst, h.add hh hoi hi hno hclosed hLb (hst.wrote hh hi) ⟨fun d' hd' => ?_, fun id' hid' => ?_⟩⟩
    · rw [hd] at hd'
      injection hd' with hd'
      subst hd'
      rw [hσ]
      refine ⟨(look_cons_same _ _ _).trans (look_cons_same _ _ _).symm, ?_⟩
      show grdAt τ.grds d = grdAt (s i).grds d
      rw [hgr, hg0]
    · rw [hσ]
      show look ((id, _) :: τ.mem) id' = look ((id, _) :: (s i).mem) id'
      by_cases e : id' = id
      · subst e; rw [look_cons_same, look_cons_same]
      · rw [look_cons_other _ _ e, look_cons_other _ _ e]
        exact obj_same id' hid'
end
section
variable {P : Program} {B : Nat} {w0 : World} {U : Nat → Prop} {G : Value → A → Prop} {σ τ : St} {a : Act} {w : World} {cv : Nat → Option Value}
end
section
variable {P : Program} {B : Nat} {w0 : World} {U0 : Nat → Prop} {G : Value → A → Prop}
theorem wpAny_headG4 {cfg : Cfg} (hc : CfgOK P cfg) {fe : FE} (hfe : FeOK P fe) {ops : Array Oper} {m : Nat} (hm : m ≤ ops.size) {s : Nat → St} {base : Nat} {tg : Nat → Option Nat} {obj : Nat → Nat → Option O} {Q : Exit → Act → World → Prop}
    (hhead : headOk (ops.toList.take m) ops = true) (htw : m < ops.size → ∀ listed, HeadInv .any ops m listed → ∀ j, j < m → listed.getD j true = false → ∀ t, m ≤ t → t ∉ Region.ready .any ops listed) (haf : aftersOk ops = true) (h0 : (s 0).grds = []) (hng : noGuards (ops.toList.take m) ops = true)
    (hs : ∀ i o, (ops.toList.take m)[i]? = some o → HStep4 cfg fe (obj i) ops (base + 16 * i) (tg i) o (s i) (s (i + 1)))
    (hoi : OwnOK (ops.toList.take m) base tg)
    (hobj0 : ∀ i id o, obj i id = some o → (s 0).obj id = some o ∧ id < base ∧ ∀ j, tg j = some id → before2 ops i j = true) (hnext : base + 16 * ops.size ≤ (s 0).next)
    (hfin : ∀ a w (U : Nat → Prop) cv listed, SRcv B w0 U G (s m) a w cv → (∀ id, base + 16 * m ≤ id → id < base + 16 * ops.size → ¬ U id) → (∀ i, U0 i → U i) → (∀ i, U i → U0 i ∨ base ≤ i) → listed.size = ops.size → (∀ j, j < ops.size → listed.getD j false = decide (j < m)) → wpAny P .any ops Q (ops.size - m) listed a w) :
    ∀ (f : Nat) (listed : Array Bool) (a : Act) (w : World) (τ : St) (U : Nat → Prop) (cv : Nat → Option Value), HeadInv .any ops m listed → listed.toList.count false = f → SRcv B w0 U G τ a w cv →
      At ops (ops.toList.take m) s base tg (fun j => listed.getD j false) τ → (∀ j, j < ops.size → listed.getD j false = false → ∀ id, base + 16 * j ≤ id → id < base + 16 * j + 16 → ¬ U id) →
      (∀ i, U0 i → U i) → (∀ i, U i → U0 i ∨ base ≤ i) → wpAny P .any ops Q f listed a w := by
  have hh := headOk_spec hhead
  have hlen : (ops.toList.take m).length = m := by simp [hm]
  have hget : ∀ i o, (ops.toList.take m)[i]? = some o ↔ i < m ∧ ops[i]? = some o := fun i o => by
    rw [List.getElem?_take]
    by_cases hi : i < m
    · simp [hi]
    · simp [hi]
  have hafl : ∀ (j : Nat) (p : Oper), (ops.toList.take m)[j]? = some p → ∀ k, k ∈ afters p → k < j := fun j p hj k' hk' => aftersOk_spec haf ((hget j p).1 hj).2 hk'
  intro f
  induction f with
  | zero =>
    intro listed a w τ U cv hinv hcnt h hat hfresh hU1 hU2
    have hall : ∀ j, j < listed.size → listed.getD j false = true := fun j hj => by
      cases hl : listed.getD j false
      · have : false ∈ listed.toList := by
          have e : listed[j] = false := by simpa [hj] using hl
          rw [← e]
          simp
        exact absurd (List.count_pos_iff.2 this) (by omega)
      · rfl
    have hmN : m = ops.size := by
      rcases Nat.lt_or_ge m ops.size with h1 | h1
      · have h2 := getD_both (hinv.tail m (Nat.le_refl _) h1)
        rw [hall m (by rw [hinv.size]; exact h1)] at h2
        cases h2
      · omega
    have hsm := h.of_at hoi hat (hlen ▸ at_text4 hs hh hoi hafl h0 _ (Nat.le_refl _)) fun j hj => by
      rw [hlen] at hj
      rw [hall j (by rw [hinv.size]; omega)]
      simp [hj]
    have := hfin a w U cv listed hsm (fun id h1 h2 => by omega) hU1 hU2 hinv.size fun j hj => by
      rw [hall j (by rw [hinv.size]; exact hj)]
      simp; omega
    rw [show ops.size - m = 0 by omega] at this
    exact this
  | succ f ih =>
    intro listed a w τ U cv hinv hcnt h hat hfresh hU1 hU2
    by_cases hall : ∀ j, j < m → listed.getD j false = true
    · -- the head is done
      have hlist : ∀ j, j < ops.size → listed.getD j false = decide (j < m) := fun j hj => by
        rcases Nat.lt_or_ge j m with h1 | h1
        · rw [hall j h1]; simp [h1]
        · rw [getD_both (hinv.tail j h1 hj)]; simp; omega
      have hsm := h.of_at hoi hat (hlen ▸ at_text4 hs hh hoi hafl h0 _ (Nat.le_refl _)) fun j hj => by
        rw [hlen] at hj
        rw [hall j hj]
        simp [hj]
      have hfi := hfin a w U cv listed hsm (fun id h1 h2 hu => by
        have hlt : (id - base) / 16 < ops.size := by omega
        exact hfresh ((id - base) / 16) hlt (by rw [hlist _ hlt]; simp; omega) id (by omega) (by omega) hu) hU1 hU2 hinv.size hlist
      have hf : f + 1 = ops.size - m := by
        rw [← hcnt]
        have : listed.toList = List.replicate m true ++ List.replicate (ops.size - m) false := by
          apply List.ext_getElem
          · simp [hinv.size]; omega
          · intro j h1 h2
            have hj : j < ops.size := by rw [← hinv.size]; simpa using h1
            have h3 := hlist j hj
            have h4 : listed.getD j false = listed[j]'(by simpa using h1) := by simp [hinv.size, hj]
            rw [h4] at h3
            rw [Array.getElem_toList, h3, List.getElem_append]
            by_cases hjm : j < m
            · simp [hjm]
            · simp [hjm]
        rw [this, List.count_append, List.count_replicate, List.count_replicate]
        simp
      rw [hf]
      exact hfi
    · -- a head operation's turn
      have hex : ∃ j, j < m ∧ listed.getD j false = false := by
        refine Classical.byContradiction fun hne => hall fun j hj => ?_
        cases hl : listed.getD j false
        · exact absurd ⟨j, hj, hl⟩ hne
        · rfl
      obtain ⟨j1, hj1, hf1⟩ := hex
      obtain ⟨k, hk, hkf, hkall⟩ := least (f := fun j => listed.getD j false) j1 hf1
      have hkN : k < ops.size := by omega
      refine ⟨fun hnil => ?_, fun i hi => ?_⟩
      · have : k ∈ Region.ready .any ops listed := by
          refine mem_ready.2 ⟨getD_in (by rw [hinv.size]; exact hkN) hkf, ops[k], Array.getElem?_eq_getElem hkN, fun e he hb => ?_⟩
          exact hkall e.on (aftersOk_spec haf (Array.getElem?_eq_getElem hkN) (mem_afters.2 ⟨e, he, hb, rfl⟩))
        rw [hnil] at this
        cases this
      · obtain ⟨hun, o, ho, hready⟩ := mem_ready.1 hi
        have hiN : i < ops.size := (Array.getElem?_eq_some_iff.1 ho).1
        have him : i < m := by
          rcases Nat.lt_or_ge i m with h1 | h1
          · exact h1
          · have hmN : m < ops.size := by omega
            exact absurd hi (htw hmN listed hinv j1 hj1 (getD_in (by rw [hinv.size]; omega) hf1) i h1)
        have hil : (ops.toList.take m)[i]? = some o := (hget i o).2 ⟨him, ho⟩
        have hLb : ∀ j, (listed.setIfInBounds i true).getD j false = true ↔ listed.getD j false = true ∨ j = i := fun j => by
          by_cases e : i = j
          · subst e
            constructor
            · intro _; exact .inr rfl
            · intro _; simp [hinv.size, hiN]
          · rw [getD_set_ne false e]
            constructor
            · intro h1; exact .inl h1
            · rintro (h1 | h1)
              · exact h1
              · exact absurd h1.symm e
        obtain ⟨τ', hq, hat'⟩ := head_step4 hs hh hoi h0 hng hat hil (getD_both hun) hafl
          (fun k' hk' => by obtain ⟨e, he, hb, rfl⟩ := mem_afters.1 hk'; exact hready e he hb)
          (fun j p hj hl k' hk' => by obtain ⟨e, he, hb, rfl⟩ := mem_afters.1 hk'; exact hinv.closed j p ((hget j p).1 hj).2 hl e he hb) hLb
        have fin : ∀ (a' : Act) (w' : World), SR B w0 (fun id => U id ∨ (base + 16 * i ≤ id ∧ id < base + 16 * i + 16)) G τ' a' w' → wpAny P .any ops Q f (listed.setIfInBounds i true) a' w' := by
          intro a' w' hs'
          obtain ⟨cv', hs'⟩ := hs'
          refine ih _ a' w' τ' _ cv' (hinv.set hi him) ?_ hs' hat' (fun j hj hl id h1 h2 => ?_) (fun i' hi' => .inl (hU1 i' hi')) (fun i' hi' => ?_)
          · have hlt : i < listed.toList.length := by simp [hinv.size, hiN]
            have e : listed.toList[i] = false := by have := getD_both hun; simpa [hinv.size, hiN] using this
            rw [Array.toList_setIfInBounds, List.count_set hlt, hcnt, e]
            simp
          · have hji : i ≠ j := fun e => by subst e; rw [(hLb i).2 (.inr rfl)] at hl; cases hl
            rw [getD_set_ne false hji] at hl
            rintro (hu | hu)
            · exact hfresh j hj hl id h1 h2 hu
            · omega
          · rcases hi' with h1 | h1
            · exact hU2 i' h1
            · exact .inr (by omega)
        rcases hq with ⟨_, _, hq⟩ | ⟨_, id0, htg, hq⟩ | ⟨_, id0, htg, hq⟩
        · refine StepOK.wpOp ho (qStep_sound hc h hq rfl (fun id o' hid => ?_) (fun id h1 h2 => hfresh i hiN (getD_both hun) id h1 h2) (by rw [hat.next]; omega) fun a' w' hs' => fin a' w' hs')
          obtain ⟨k1, k2, k3⟩ := hobj0 i id o' hid
          rw [hat.m1 id fun j p hj hl hb => by
            rcases hb with hb | hb
            · omega
            · have hun' := getD_both hun
              have hb2 := k3 j hb
              unfold before2 at hb2
              have hcl : ∀ (j : Nat) (p : Oper), ops[j]? = some p → j < m → listed.getD j false = true → ∀ k, k ∈ afters p → listed.getD k false = true := fun j p hp _ hl k hk => by
                obtain ⟨e, he, hbn, rfl⟩ := mem_afters.1 hk
                exact hinv.closed j p hp hl e he hbn
              have hj' := (hget j p).1 hj
              rw [hj'.2] at hb2
              simp only [Bool.or_eq_true] at hb2
              rcases hb2 with hb2 | hb2
              · rw [hcl j p hj'.2 hj'.1 hl i (memNat_mem hb2)] at hun'; cases hun'
              · obtain ⟨k, hk, hw⟩ := List.any_eq_true.1 hb2
                have hkl := hcl j p hj'.2 hj'.1 hl k hk
                have hkj := aftersOk_spec haf hj'.2 hk
                unfold waits at hw
                split at hw
                · rename_i q hq2
                  rw [hcl k q hq2 (by omega) hkl i (memNat_mem hw)] at hun'; cases hun'
                · cases hw]
          exact k1
        · exact StepOK.wpOp ho (eStep_sound hc h hq (by rw [hat.next]; omega) fun a' w' hs' => fin a' w' hs')
        · exact StepOK.wpOp ho (hfe inferInstance B w0 U G τ τ' a w cv (base + 16 * i) id0 ops o _ Q hq h (fun id h1 h2 => hfresh i hiN (getD_both hun) id h1 h2) (by rw [hat.next]; omega) fun a' w' hs' => fin a' w' hs')
theorem wpAny_head4 {cfg : Cfg} (hc : CfgOK P cfg) {fe : FE} (hfe : FeOK P fe) {ops : Array Oper} {m : Nat} (hm : m ≤ ops.size) {s : Nat → St} {base : Nat} {tg : Nat → Option Nat} {obj : Nat → Nat → Option O} {Q : Exit → Act → World → Prop}
    (hhead : headOk (ops.toList.take m) ops = true) (htail : tailOk ops m = true) (haf : aftersOk ops = true) (h0 : (s 0).grds = []) (hng : noGuards (ops.toList.take m) ops = true)
    (hs : ∀ i o, (ops.toList.take m)[i]? = some o → HStep4 cfg fe (obj i) ops (base + 16 * i) (tg i) o (s i) (s (i + 1)))
    (hoi : OwnOK (ops.toList.take m) base tg)
    (hobj0 : ∀ i id o, obj i id = some o → (s 0).obj id = some o ∧ id < base ∧ ∀ j, tg j = some id → before2 ops i j = true) (hnext : base + 16 * ops.size ≤ (s 0).next)
    (hfin : ∀ a w (U : Nat → Prop) cv, SRcv B w0 U G (s m) a w cv → (∀ id, base + 16 * m ≤ id → id < base + 16 * ops.size → ¬ U id) → (∀ i, U0 i → U i) → (∀ i, U i → U0 i ∨ base ≤ i) → wpList P ops Q (ops.toList.drop m) a w) :
    ∀ (f : Nat) (listed : Array Bool) (a : Act) (w : World) (τ : St) (U : Nat → Prop) (cv : Nat → Option Value), HeadInv .any ops m listed → listed.toList.count false = f → SRcv B w0 U G τ a w cv →
      At ops (ops.toList.take m) s base tg (fun j => listed.getD j false) τ → (∀ j, j < ops.size → listed.getD j false = false → ∀ id, base + 16 * j ≤ id → id < base + 16 * j + 16 → ¬ U id) →
      (∀ i, U0 i → U i) → (∀ i, U i → U0 i ∨ base ≤ i) → wpAny P .any ops Q f listed a w := by
  refine wpAny_headG4 hc hfe hm hhead (fun hmN listed hinv j hj hl => ?_) haf h0 hng hs hoi hobj0 hnext fun a w U cv listed h1 h2 h3 h4 h5 h6 => ?_
  · have ht := tailOk_spec htail hmN
    exact tail_waits ht.1 ht.2 hmN hinv _ j rfl hj hl
  · rw [show ops.size - m = (ops.toList.drop m).length by simp]
    refine wpAny_of_seq _ m listed a w (fun j => by simp [List.getElem?_drop]) ?_ (hfin a w U cv h1 h2 h3 h4)
    rw [show (ops.toList.drop m).length = ops.size - m by simp]
    refine seqB_tail haf (m := m) (fun t k1 k2 => ?_) _ m listed (by omega) (Nat.le_refl _) h5 h6
    have hch := (tailOk_spec htail (by omega)).2
    have := List.all_eq_true.1 hch t (List.mem_range.2 k2)
    simp only [Bool.or_eq_true, decide_eq_true_eq] at this
    rcases this with h3 | h3
    · omega
    · exact h3
end
section
variable {P : Program} {B : Nat} {w0 : World} {U : Nat → Prop} {G : Value → A → Prop} {σ : St} {a : Act} {w : World} {cv : Nat → Option Value}
theorem runRegion4_sound {cfg : Cfg} (hc : CfgOK P cfg) {fe : FE} (hfe : FeOK P fe) {ex : Code → St → T} (hex : ExOK P ex) {own : Nat → Bool} {id : Nat} {ops : Array Oper} {draw : Bool} {L : XK → St → Prop} (hok : (runRegion4 cfg fe own ex ops draw σ).Ok P L) (h : SR B w0 U G σ a w) (hg : σ.grds = []) :
    (Code.region id ops draw).wp P (fun e a' w' => ∃ x σ', e = XK.out x ∧ L x σ' ∧ Out B w0 U G σ σ' a' w') a w := by
  unfold runRegion4 at hok
  split at hok
  rotate_left
  · exact runRegion_sound hc hex hok h hg
  · obtain ⟨cv, h⟩ := h
    have hr := h.raise (n := σ.next + 16 * ops.size) (by omega)
    have hfresh : ∀ id, σ.next ≤ id → ¬ U id := fun id h1 hu => by have := h.lo id hu; omega
    simp only at hok
    split at hok
    · rename_i hchk
      simp only [Bool.and_eq_true] at hchk
      split at hok
      · rename_i c σh hrun
        have hct : c = true := by
          cases hcc : c
          · rw [hcc] at hok; exact (hok.2 rfl).elim
          · rfl
        subst hct
        obtain ⟨_, s, tg, hs0, hsl, hs, htS, hti⟩ := runHead_chain4 _ _ _ _ _ _ _ hrun
        simp only [Nat.zero_add] at hs htS
        have hok1 := hok.1 rfl
        generalize hm' : tailFrom (Region.before ops).toList ops.size = m at *
        have hm : m ≤ ops.size := by
          rw [← hm']
          have : ∀ (bs : List Nat) j, tailFrom bs j ≤ j := by
            intro bs j
            induction j with
            | zero => exact Nat.le_refl _
            | succ j ih =>
              simp only [tailFrom]
              split
              · omega
              · omega
          exact this _ _
        have hlen : (ops.toList.take m).length = m := by simp [hm]
        rw [hlen] at hsl
        have hw := (hr.grow (w' := { w with drawn := w.drawn + 1 }) (Below.refl _ _).drew)
        have hafl : ∀ (j : Nat) (p : Oper), (ops.toList.take m)[j]? = some p → ∀ k, k ∈ afters p → k < j := fun j p hj k' hk' => by
          rw [List.getElem?_take] at hj
          split at hj
          · exact aftersOk_spec hchk.1.2 (by simpa using hj) hk'
          · cases hj
        have hoi : OwnOK (ops.toList.take m) σ.next tg := ownOK_of (fun id o ho => h.lo id (h.used id o ho)) (fun i id hi => (htS i id hi).2) hti
        refine wp_region_any hc.mixed ?_
        have hcn : (Array.replicate ops.size false).toList.count false = ops.size := by simp [List.count_replicate]
        rw [show wpAny P .any ops (fun e a' w' => ∃ x σ', e = XK.out x ∧ L x σ' ∧ Out B w0 U G σ σ' a' w') ops.size = wpAny P .any ops (fun e a' w' => ∃ x σ', e = XK.out x ∧ L x σ' ∧ Out B w0 U G σ σ' a' w') ((Array.replicate ops.size false).toList.count false) by rw [hcn]]
        obtain ⟨S, hSd⟩ : ∃ S, S = tgts4 fe ({ σ with next := σ.next + 16 * ops.size } : St) σ.next (ops.toList.take m) 0 (ops.toList.take m) := ⟨_, rfl⟩
        rw [← hSd] at hs htS
        refine wpAny_head4 (U0 := U) (G := G) (B := B) (w0 := w0) (base := σ.next) (s := s) (tg := tg) (obj := fun k => hide ops k S σ.obj) hc hfe hm hchk.1.1.1 hchk.1.1.2 hchk.1.2 (by rw [hs0]; exact hg) hchk.2 hs hoi (fun i id o' ho => ?_) (by rw [hs0]; exact Nat.le_refl _) ?_ _ _ a _ (s 0) U cv ?_ rfl (by rw [hs0]; exact hw) ?_ (fun j _ _ id h1 _ => hfresh id (by omega)) (fun _ h => h) (fun _ h => .inl h)
        · have hid := hide_spec _ _ ho
          refine ⟨by rw [hs0]; exact hid.1, h.lo id (h.used id o' hid.1), fun j hj => ?_⟩
          exact hid.2 j (htS j id hj).1
        · intro a1 w1 U1 cv1 h1 h2 h3 h4
          rw [hsl] at h1
          have e1 : ∀ i, i ≤ m → (s i).n = σ.n ∧ (s i).lo = σ.lo ∧ (s i).next = σ.next + 16 * ops.size := by
            intro i
            induction i with
            | zero => intro _; rw [hs0]; exact ⟨rfl, rfl, rfl⟩
            | succ i ih =>
              intro hi
              have h5 := ih (by omega)
              have h6 := (hs i _ (List.getElem?_eq_getElem (by omega))).keep
              exact ⟨h6.1.trans h5.1, h6.2.1.trans h5.2.1, h6.2.2.trans h5.2.2⟩
          have e2 := e1 m (Nat.le_refl _)
          rw [hsl] at e2
          have hdl : (ops.toList.drop m).length = ops.size - m := by simp
          refine runOps_sound hc hex (ops.toList.drop m) (σ.next + 16 * m) σh U1 a1 w1 cv1 h1 hok1 (fun id h5 h6 => h2 id h5 (by rw [hdl] at h6; omega)) (by rw [hdl, e2.2.2]; omega) fun σ' a' w' U' hl k1 k2 k3 k4 k5 k6 k7 => ?_
          refine ⟨.normal, σ', rfl, hl, U', fun i hi => k1 i (h3 i hi), fun i hi => ?_, k3, k4.trans e2.1, k5.trans e2.2.1, by rw [e2.2.2] at k6; omega, k7⟩
          rcases k2 i hi with h5 | h5
          · exact h4 i h5
          · exact .inr (by omega)
        · exact ⟨by simp, (fun j oj _ hl => by rw [getD_replicate_false] at hl; cases hl), fun t _ ht => getD_in (by simpa using ht) (getD_replicate_false _ _)⟩
        · have := at_text4 (obj := fun k => hide ops k S σ.obj) (s := s) hs (headOk_spec hchk.1.1.1) hoi hafl (by rw [hs0]; exact hg) 0 (Nat.zero_le _)
          refine ⟨this.n, this.lo, this.next, fun t _ => this.t1 t (fun j o _ hl => by simp at hl), fun j o t _ hl => ?_, (fun g hgm => by rw [hs0] at hgm; have hgm' : g ∈ σ.grds := hgm; rw [hg] at hgm'; cases hgm'), fun id _ => rfl, fun j o id _ hl => ?_⟩
          · rw [getD_replicate_false] at hl; cases hl
          · rw [getD_replicate_false] at hl; cases hl
      · exact hok.elim
    · exact hok.elim
omit [XS] in
theorem exec4_sound {cfg : Cfg} (hc : CfgOK P cfg) {fe : FE} (hfe : FeOK P fe) (un : Nat) : ∀ (fuel : Nat) (own : Nat → Bool) (lp : Nat → Option (St → T)) (c : Code), LpOK P lp c → CodeOK P (exec4 cfg fe own lp un fuel) c
  | 0, _, _, _, _ => fun σ L hok => hok.elim
  | fuel + 1, own, lp, c, hlp => fun σ L hok X B w0 U G a w h hg => by
    have ih0 := exec4_sound hc hfe un fuel
    cases c with
    | skip => exact wp_skip ⟨.normal, σ, rfl, hok, Out.here h hg⟩
    | region id ops draw => exact runRegion4_sound hc hfe (fun c => ih0 _ _ c fun _ _ _ _ h => by cases h) hok h hg
    | seq x y =>
      have ih := fun c h => ih0 own lp c h
      have hx := ih x (fun id b f hb => hlp id b f (List.mem_append_left _ hb)) σ _ (T.Ok.of_bind hok) X B w0 U G a w h hg
      refine wp_seq (wp_mono hx ?_)
      rintro e a1 w1 ⟨x1, σ1, rfl, hl, ho⟩
      cases x1 with
      | normal =>
        show y.wp P _ a1 w1
        obtain ⟨U1, k1, k2, k3, k4, k5, k6, k7⟩ := ho
        have hy := ih y (fun id b f hb => hlp id b f (List.mem_append_right _ hb)) σ1 L hl X B w0 U1 G a1 w1 k3 k7
        refine wp_mono hy ?_
        rintro e2 a2 w2 ⟨x2, σ2, rfl, hl2, ho2⟩
        obtain ⟨U2, m1, m2, m3, m4, m5, m6, m7⟩ := ho2
        refine ⟨x2, σ2, rfl, hl2, U2, fun i hi => m1 i (k1 i hi), fun i hi => ?_, m3, m4.trans k4, m5.trans k5, Nat.le_trans k6 m6, m7⟩
        rcases m2 i hi with h1 | h1
        · exact k2 i h1
        · exact .inr (Nat.le_trans k6 h1)
      | ret => exact ⟨.ret, σ1, rfl, hl, ho⟩
      | exit i => exact ⟨.exit i, σ1, rfl, hl, ho⟩
    | cond o x y =>
      simp only [exec4] at hok
      split at hok
      · rename_i t ht
        obtain ⟨cv, hs⟩ := h
        have hsl : Slots w cv σ.obj a σ.get := ⟨fun t => (hs.get t).1, fun t => (hs.get t).2⟩
        have hr := (hsl.opd o).1
        rw [ht] at hr
        refine wp_cond_split hr.bool_inv (fun hb => ?_) fun hb => ?_
        · exact ih0 own lp x (fun id b f hb => hlp id b f (List.mem_append_left _ hb)) σ L (hok.1 hb) X B w0 U G a w ⟨cv, hs⟩ hg
        · exact ih0 own lp y (fun id b f hb => hlp id b f (List.mem_append_right _ hb)) σ L (hok.2 hb) X B w0 U G a w ⟨cv, hs⟩ hg
      · exact hok.elim
    | block id body =>
      simp only [exec4] at hok
      split at hok
      · rename_i f hf
        exact hlp id body f List.mem_cons_self hf σ L hok X B w0 U G a w h hg
      have hx := ih0 own lp body (fun id b f hb => hlp id b f (List.mem_cons_of_mem _ hb)) σ _ (T.Ok.of_bind hok) X B w0 U G a w h hg
      refine wp_block (wp_mono hx ?_)
      rintro e a1 w1 ⟨x1, σ1, rfl, hl, ho⟩
      cases x1 with
      | normal => exact ⟨.normal, σ1, rfl, hl, ho⟩
      | ret => exact ⟨.ret, σ1, rfl, hl, ho⟩
      | exit i =>
        simp only [onExit] at hl
        show Exit.inBlock id _ (.exit i) a1 w1
        simp only [Exit.inBlock]
        split at hl
        · rename_i hb
          rw [if_pos (Nat.eq_of_beq_eq_true hb)]
          exact ⟨.normal, σ1, rfl, hl, ho⟩
        · rename_i hb
          rw [if_neg (Nat.ne_of_beq_eq_false hb)]
          exact ⟨.exit i, σ1, rfl, hl, ho⟩
    | loop body =>
      simp only [exec4] at hok
      split at hok
      · obtain ⟨S, hS, hk⟩ := hok
        refine wp_mono (hS X B w0 U G a w h hg) ?_
        rintro e a1 w1 ⟨x1, σ1, rfl, hl, ho⟩
        exact ⟨x1, σ1, rfl, hk _ _ hl, ho⟩
      · rename_i n
        refine wp_loop_rounds (n + 1) ?_
        have key : ∀ (k : Nat) (τ : St) (V : Nat → Prop) (b : Act) (v : World), (unroll (exec4 cfg fe own lp (n + 1) fuel body) k τ).Ok P L → SR B w0 V G τ b v → τ.grds = [] →
            Code.rounds P body (fun e a' w' => ∃ x σ', e = XK.out x ∧ L x σ' ∧ Out B w0 V G τ σ' a' w') k b v := by
          intro k
          induction k with
          | zero => intro τ V b v hok _ _; exact hok.elim
          | succ k ihk =>
            intro τ V b v hok h hg
            rw [rounds_succ]
            refine wp_mono (ih0 own lp body hlp τ _ (T.Ok.of_bind hok) X B w0 V G b v h hg) ?_
            rintro e a1 w1 ⟨x1, σ1, rfl, hl, ho⟩
            cases x1 with
            | normal =>
              show Code.rounds P body _ k a1 w1
              obtain ⟨U1, k1, k2, k3, k4, k5, k6, k7⟩ := ho
              have hr := ihk σ1 U1 a1 w1 hl k3 k7
              have mono : ∀ (j : Nat) (b : Act) (v : World) {Q1 Q2 : Exit → Act → World → Prop}, (∀ e a w, Q1 e a w → Q2 e a w) → Code.rounds P body Q1 j b v → Code.rounds P body Q2 j b v := by
                intro j
                induction j with
                | zero => intro b v Q1 Q2 _ h; exact h
                | succ j ihj =>
                  intro b v Q1 Q2 hq h
                  refine wp_mono h fun e a w he => ?_
                  cases e <;> first | exact ihj _ _ hq he | exact hq _ _ _ he
              refine mono k a1 w1 ?_ hr
              rintro e2 a2 w2 ⟨x2, σ2, rfl, hl2, U2, m1, m2, m3, m4, m5, m6, m7⟩
              refine ⟨x2, σ2, rfl, hl2, U2, fun i hi => m1 i (k1 i hi), fun i hi => ?_, m3, m4.trans k4, m5.trans k5, Nat.le_trans k6 m6, m7⟩
              rcases m2 i hi with h1 | h1
              · exact k2 i h1
              · exact .inr (Nat.le_trans k6 h1)
            | ret => exact ⟨.ret, σ1, rfl, hl, ho⟩
            | exit i => exact ⟨.exit i, σ1, rfl, hl, ho⟩
        exact key (n + 1) σ U a w hok h hg
    | exit id => exact wp_exit ⟨.exit id, σ, rfl, hok, Out.here h hg⟩
    | ret => exact wp_ret ⟨.ret, σ, rfl, hok, Out.here h hg⟩
    | _ => exact hok.elim
end
omit [XS] in
theorem pure_of_tree4 {P : Program} {cfg : Cfg} (hc : CfgOK P cfg) {fe : FE} (hfe : FeOK P fe) {f : Nat} {fn : Func} {body : Code} {un fuel : Nat} {own : Nat → Bool} {lp : Nat → Option (St → T)} {ds : List A} {r : A} (hf : P.funcs[f]? = some fn) (hb : fn.body = some body) (hle : ds.length ≤ fn.ntmps)
    (hlp : LpOK P lp body) (hok : (exec4 cfg fe own lp un fuel body (St.enter fn ds [] 0)).Ok P fun x σ => leafRes cfg fn x σ = some r) : PureCall P f ds r := by
  intro w vs T hTb hsz hrel
  letI : XS := ⟨w.heap.size, T⟩
  refine calls_of_wp hf hb ?_
  have hrel' : ∀ i, i < ds.length → Rel w (fun _ => none) (vs.getD i undef) (ds.getD i .any) := fun i hi => .data ((hrel i hi).mono fun b hb => ⟨⟨hTb b hb, (fun id u hu => by cases hu), .inr hb⟩, rfl⟩)
  have h0 : SRcv w.heap.size w (fun _ => False) (fun _ _ => False) ({ n := 0, lo := 0, tmps := [], grds := [], mem := [], next := 0 } : St) { tmps := #[], defers := [] } w (fun _ => none) :=
    ⟨rfl, rfl, Below.refl _ _, Nat.max_le.2 ⟨Nat.le_refl _, Nat.le_refl _⟩, fun _ h => h.elim, Nat.le_refl _, (fun id o h => by cases h), ⟨(fun id o h => by cases h), (fun id u h => by cases h), (fun i j u u' b h => by cases h)⟩, (fun t x h => by cases h), (fun t g h => by cases h), fun _ _ h => h.elim⟩
  have hent := h0.enter (fn := fn) hsz hrel' (fun x hx id hid => by
    obtain ⟨i, hi⟩ := List.mem_iff_getElem?.1 hx
    have hil := (List.getElem?_eq_some_iff.1 hi).1
    have := (hrel i hil).noHas id
    rw [show ds.getD i .any = x by simp [List.getD, hi], hid] at this
    cases this) hle
  have hwp := exec4_sound hc hfe un fuel own lp body hlp _ _ hok inferInstance w.heap.size w _ _ _ w ⟨_, hent⟩ rfl
  refine wp_mono hwp ?_
  rintro e a' w' ⟨x, σ', rfl, hl, U', _, _, ⟨cv, hs⟩, _⟩
  have key : ∀ y, leafRes cfg fn x σ' = some r → (x = .normal ∨ x = .ret) → y = (fun e w' => ∃ v, e = Ending.returned v ∧ Below w.heap.size w w' ∧ PostV w.heap.size (fun b => r.plainR = false ∧ T b) w' v r) → a'.defers = [] ∧ ∃ v, (results fn a'.tmps).run P w' = .ok v w' ∧ y (.returned v) w' := by
    intro y hl hx hy
    subst hy
    have hl' : (match retVal cfg fn σ' with
        | some v => match noTwice (slIds v) with
          | true => expo σ'.obj v
          | false => none
        | none => none) = some r := by
      rcases hx with rfl | rfl <;> exact hl
    split at hl'
    · rename_i z hz
      split at hl'
      · rename_i hn
        obtain ⟨v, h1, h2, h3⟩ := retVal_sound hc hs hz
        exact ⟨hs.defers, v, h1, v, rfl, hs.below, post_of hs.mem h2 h3 hl' (fun b hb => hb) hn⟩
      · cases hl'
    · cases hl'
  cases x with
  | normal => exact key _ hl (.inl rfl) rfl
  | ret => exact key _ hl (.inr rfl) rfl
  | exit i => cases hl
def autoW4 (cfg : Cfg) (fe : FE) (own : Nat → Bool) (un : Nat) (lp : Nat → Option (St → T)) (way : List Bool) (fn : Func) (ds : List A) : Option (Bool × A) :=
  match Nat.ble ds.length fn.ntmps with
  | false => none
  | true => match (exec4 cfg fe own lp un 1000 (bodyOf fn) (St.enter fn ds [] 0)).valW cfg fn way with
    | some (c, r) => some (c, r)
    | none => none
omit [XS] in
theorem autoW4_ok {P : Program} {cfg : Cfg} (hc : CfgOK P cfg) {fe : FE} (hfe : FeOK P fe) {f : Nat} {fn : Func} {own : Nat → Bool} {un : Nat} {lp : Nat → Option (St → T)} {way : List Bool} (hf : P.funcs[f]? = some fn) (hb : fn.body.isSome = true) (hlp : LpOK P lp (bodyOf fn)) {ds : List A} {c : Bool} {r : A}
    (h : autoW4 cfg fe own un lp way fn ds = some (c, r)) (hct : c = true) : PureCall P f ds r := by
  unfold autoW4 at h
  split at h
  · cases h
  · rename_i hle
    split at h
    · rename_i c' r' hv
      simp only [Option.some.injEq, Prod.mk.injEq] at h
      obtain ⟨rfl, rfl⟩ := h
      have hb' : fn.body = some (bodyOf fn) := by
        unfold bodyOf
        cases h : fn.body
        · rw [h] at hb; cases hb
        · rfl
      exact pure_of_tree4 hc hfe hf hb' (Nat.le_of_ble_eq_true hle) hlp (T.valW_ok hv hct)
    · cases h
end Go.Fw
