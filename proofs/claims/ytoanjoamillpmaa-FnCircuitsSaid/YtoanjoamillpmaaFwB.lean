/-
  Calls by contract, and of functions that the model stands in for; all operations together.
-/
import Derived.Test.YtoanjoamillpmaaFwA
import Derived.Lib.AppendZerosOnto
import Derived.WalkSpells
import Derived.StillTail

namespace Go.Fw
variable [XS]
open Go.RowKit (Below)
omit [XS] in
theorem look_append {β : Type} (l r : List (Nat × β)) (i : Nat) : look (l ++ r) i = match look l i with | some x => some x | none => look r i := by
  induction l with
  | nil => rfl
  | cons p l ih =>
    simp only [List.cons_append, look]
    cases Nat.beq p.1 i
    · exact ih
    · rfl
omit [XS] in
theorem imps_cons (i : Nat) (x : A) (r : List A) : imps i (x :: r) = ((imp i x).1 :: (imps (imp i x).2.2 r).1, (imp i x).2.1 ++ (imps (imp i x).2.2 r).2.1, (imps (imp i x).2.2 r).2.2) := rfl
omit [XS] in
mutual
theorem imp_range (i : Nat) : ∀ (r : A), i ≤ (imp i r).2.2 ∧ ∀ id o, look (imp i r).2.1 id = some o → i ≤ id ∧ id < (imp i r).2.2
  | .ro esz len get => by
    refine ⟨by simp [imp], fun id o h => ?_⟩
    simp only [imp, look] at h ⊢
    cases hb : Nat.beq i id
    · rw [hb] at h; cases h
    · have := Nat.eq_of_beq_eq_true hb; omega
  | .agg cs => by simpa [imp] using imps_range i cs
  | .tup cs => by simpa [imp] using imps_range i cs
  | .any | .bool _ | .int .. | .flt .. | .cpx .. | .nilp | .emp | .nils | .ptr .. | .rpt .. | .rop .. | .sl .. | .fn .. => ⟨Nat.le_refl _, fun id o h => by simp [imp, look] at h⟩
theorem imps_range (i : Nat) : ∀ (cs : List A), i ≤ (imps i cs).2.2 ∧ ∀ id o, look (imps i cs).2.1 id = some o → i ≤ id ∧ id < (imps i cs).2.2
  | [] => ⟨Nat.le_refl _, fun id o h => by simp [imps, look] at h⟩
  | x :: r => by
    have h1 := imp_range i x
    have h2 := imps_range (imp i x).2.2 r
    refine ⟨by simp only [imps_cons]; omega, fun id o h => ?_⟩
    simp only [imps_cons] at h ⊢
    rw [look_append] at h
    cases hl : look (imp i x).2.1 id with
    | some o' =>
      have := h1.2 id o' hl
      omega
    | none =>
      rw [hl] at h
      have := h2.2 id o h
      omega
end
omit [XS] in
mutual
theorem data_noHas' : ∀ (r : A), r.data = true → ∀ id, r.has id = false
  | .agg cs, hd, id => by simp only [A.data] at hd; simp only [A.has]; exact datas_noHas cs hd id
  | .tup cs, hd, id => by simp only [A.data] at hd; simp only [A.has]; exact datas_noHas cs hd id
  | .fn _ cs, hd, id => by simp only [A.data] at hd; simp only [A.has]; exact datas_noHas cs hd id
  | .any, hd, _ | .ptr .., hd, _ | .rpt .., hd, _ | .sl .., hd, _ => by simp [A.data] at hd
  | .bool _, _, _ | .int .., _, _ | .flt .., _, _ | .cpx .., _, _ | .nilp, _, _ | .emp, _, _ | .nils, _, _ | .rop .., _, _ | .ro .., _, _ => rfl
theorem datas_noHas : ∀ (cs : List A), A.datas cs = true → ∀ id, A.hasAny id cs = false
  | [], _, _ => rfl
  | x :: r, hd, id => by
    simp only [A.datas] at hd
    split at hd
    · rename_i hx
      simp only [A.hasAny, data_noHas' x hx id]
      exact datas_noHas r hd id
    · cases hd
end
omit [XS] in
mutual
theorem imp_rows (i : Nat) : ∀ (r : A) (id : Nat) (o : O), look (imp i r).2.1 id = some o → ∃ e esz len get, o = .row e esz len get
  | .ro esz len get, id, o, h => by
    simp only [imp, look] at h
    split at h
    · injection h with h; exact ⟨_, _, _, _, h.symm⟩
    · cases h
  | .agg cs, id, o, h => imps_rows i cs id o (by simpa [imp] using h)
  | .tup cs, id, o, h => imps_rows i cs id o (by simpa [imp] using h)
  | .any, id, o, h | .bool _, id, o, h | .int .., id, o, h | .flt .., id, o, h | .cpx .., id, o, h | .nilp, id, o, h | .emp, id, o, h | .nils, id, o, h | .ptr .., id, o, h | .rpt .., id, o, h | .rop .., id, o, h | .sl .., id, o, h | .fn .., id, o, h => by
    simp [imp, look] at h
theorem imps_rows (i : Nat) : ∀ (cs : List A) (id : Nat) (o : O), look (imps i cs).2.1 id = some o → ∃ e esz len get, o = .row e esz len get
  | [], id, o, h => by simp [imps, look] at h
  | x :: r, id, o, h => by
    simp only [imps_cons] at h
    rw [look_append] at h
    cases hl : look (imp i x).2.1 id with
    | some o' => rw [hl] at h; injection h with h; subst h; exact imp_rows i x id _ hl
    | none => rw [hl] at h; exact imps_rows _ r id o h
end
omit [XS] in
mutual
theorem imp_objs (i : Nat) : ∀ (r : A) (id : Nat), i ≤ id → id < (imp i r).2.2 → ∃ o, look (imp i r).2.1 id = some o
  | .ro esz len get, id, h1, h2 => by
    simp only [imp] at h2 ⊢
    have : id = i := by omega
    subst this
    exact ⟨_, by simp [look]; rfl⟩
  | .agg cs, id, h1, h2 => by simpa [imp] using imps_objs i cs id h1 (by simpa [imp] using h2)
  | .tup cs, id, h1, h2 => by simpa [imp] using imps_objs i cs id h1 (by simpa [imp] using h2)
  | .any, id, h1, h2 | .bool _, id, h1, h2 | .int .., id, h1, h2 | .flt .., id, h1, h2 | .cpx .., id, h1, h2 | .nilp, id, h1, h2 | .emp, id, h1, h2 | .nils, id, h1, h2 | .ptr .., id, h1, h2 | .rpt .., id, h1, h2 | .rop .., id, h1, h2 | .sl .., id, h1, h2 | .fn .., id, h1, h2 => by
    simp [imp] at h2; omega
theorem imps_objs (i : Nat) : ∀ (cs : List A) (id : Nat), i ≤ id → id < (imps i cs).2.2 → ∃ o, look (imps i cs).2.1 id = some o
  | [], id, h1, h2 => by simp [imps] at h2; omega
  | x :: r, id, h1, h2 => by
    simp only [imps_cons] at h2 ⊢
    rw [look_append]
    by_cases hlt : id < (imp i x).2.2
    · obtain ⟨o, ho⟩ := imp_objs i x id h1 hlt
      exact ⟨o, by rw [ho]⟩
    · obtain ⟨o, ho⟩ := imps_objs _ r id (by omega) h2
      cases look (imp i x).2.1 id with
      | none => exact ⟨o, ho⟩
      | some o' => exact ⟨o', rfl⟩
end
omit [XS] in
theorem freeze_row {B : Nat} {w : World} {S : Nat → Prop} {cv : Nat → Option Value} {id e esz len : Nat} {get : Row A} (h : ObjOKS B w S cv id (.row e esz len get)) {v : Value} {u : Value} (hu : cv id = some u) (hv : v = u ∧ ∃ a c, u = .slice a len c)
    {T : Nat → Prop} (hT : ∀ b, B ≤ b → T b) (hS : ∀ b, S b → T b ∧ b < w.heap.size) : RelD w (fun b => T b ∧ b < w.heap.size) v (.ro esz len get) := by
  obtain ⟨u', E, xs, hcv, hown, hE, hpos, hz, hrel⟩ := h
  rw [hu] at hcv
  injection hcv with hcv
  subst hcv
  obtain ⟨rfl, p, cp, _⟩ := hv
  obtain ⟨hxl, hown⟩ := hown
  rcases hown with ⟨hnil, hl0⟩ | ⟨g, cap, cur, hv, hg, hheap, hle, hmax, hcs, htake⟩
  · subst hl0
    rw [hnil]
    exact .ro (b := 0) (o := 0) (Nat.le_refl _) (fun _ _ => undef) (fun h => by omega) (fun i hi => by omega) (fun i j hi => by omega) (fun i j hi => by omega) (fun i j hi => by omega)
  · rw [hv]
    refine .ro (b := g) (o := 0) hle (fun i j => xs.getD (i * esz + j) undef) (fun _ => ⟨rfl, hT _ hg, (Array.getElem?_eq_some_iff.1 hheap).1⟩) hz (fun i j hi hj => ?_) (fun i j hi hj => (hrel i j hi hj).1) (fun i j hi hj => (hrel i j hi hj).2.mono fun b hb => ⟨hS b hb, rfl⟩)
    rw [Nat.zero_add, cell_of_row w g _ cur E (0, 0) hheap]
    have hlt := mul_lt hi hj
    have h1 : xs[i * esz + j]? = cur[i * esz + j]? := by rw [← htake, List.getElem?_take, if_pos hlt]; simp
    have hlt2 : i * esz + j < cur.size := by
      have : len * esz ≤ cap * esz := Nat.mul_le_mul_right _ hle
      omega
    simp only [List.getD, h1, Array.getElem?_eq_getElem hlt2, Option.getD_some]
omit [XS] in
theorem RelS.toDataS {w : World} {S : Nat → Prop} {cv : Nat → Option Value} {v : Value} {x : A} (h : RelS w S cv v x) (hd : x.data = true) : RelD w S v x := by
  induction h with
  | any => simp [A.data] at hd
  | data h => exact h
  | agg hs h ih => simp only [A.data] at hd; exact .agg hs fun i hi => ih i hi (datas_getD hd hi)
  | tup hs h ih => simp only [A.data] at hd; exact .tup hs fun i hi => ih i hi (datas_getD hd hi)
  | fn hs h ih => simp only [A.data] at hd; exact .fn hs fun i hi => ih i hi (datas_getD hd hi)
  | ptr => simp [A.data] at hd
  | rpt => simp [A.data] at hd
  | sl => simp [A.data] at hd
section
variable {B : Nat} {w : World} {S : Nat → Prop} {cv : Nat → Option Value}
omit [XS] in
theorem RelS.agg_invS {v : Value} {cs} (h : RelS w S cv v (.agg cs)) : ∃ vs : Array Value, v = .agg vs ∧ vs.size = cs.length ∧ ∀ i, i < cs.length → RelS w S cv (vs.getD i undef) (cs.getD i .any) := by
  cases h with
  | data h => cases h with | agg hs h => exact ⟨_, rfl, hs, fun i hi => .data (h i hi)⟩
  | agg hs h => exact ⟨_, rfl, hs, h⟩
omit [XS] in
theorem RelS.tup_invS {v : Value} {cs} (h : RelS w S cv v (.tup cs)) : ∃ vs : Array Value, v = .tuple vs ∧ vs.size = cs.length ∧ ∀ i, i < cs.length → RelS w S cv (vs.getD i undef) (cs.getD i .any) := by
  cases h with
  | data h => cases h with | tup hs h => exact ⟨_, rfl, hs, fun i hi => .data (h i hi)⟩
  | tup hs h => exact ⟨_, rfl, hs, h⟩
omit [XS] in
mutual
theorem freeze {T : Nat → Prop} (hT : ∀ b, B ≤ b → T b) (hS : ∀ b, S b → T b ∧ b < w.heap.size) (i : Nat) : ∀ (r : A) (v : Value), r.data = true → (∀ id o, look (imp i r).2.1 id = some o → ObjOKS B w S cv id o) → RelS w S cv v (imp i r).1 →
    RelD w (fun b => T b ∧ b < w.heap.size) v r
  | .ro esz len get, v, _, ho, h => by
    simp only [imp] at ho h
    have hob := ho i (.row 0 esz len get) (by simp [look])
    obtain ⟨u, E, xs, hcv, _⟩ := hob
    have hob := ho i (.row 0 esz len get) (by simp [look])
    cases h with
    | data h => cases h
    | sl h => exact freeze_row hob hcv (h u hcv) hT hS
  | .agg cs, v, hd, ho, h => by
    simp only [imp, A.data] at ho h hd
    obtain ⟨vs, rfl, hs, hr⟩ := h.agg_invS
    have := freezes hT hS i cs vs.toList hd ho (by simpa using hs) (fun j hj => by rw [toList_getD]; exact hr j hj)
    exact .agg (by rw [hs, this.1]) fun j hj => by rw [← toList_getD]; exact this.2 j hj
  | .tup cs, v, hd, ho, h => by
    simp only [imp, A.data] at ho h hd
    obtain ⟨vs, rfl, hs, hr⟩ := h.tup_invS
    have := freezes hT hS i cs vs.toList hd ho (by simpa using hs) (fun j hj => by rw [toList_getD]; exact hr j hj)
    exact .tup (by rw [hs, this.1]) fun j hj => by rw [← toList_getD]; exact this.2 j hj
  | .any, v, hd, _, _ | .ptr .., v, hd, _, _ | .rpt .., v, hd, _, _ | .sl .., v, hd, _, _ => by simp [A.data] at hd
  | .bool _, v, hd, _, h | .int .., v, hd, _, h | .flt .., v, hd, _, h | .cpx .., v, hd, _, h | .nilp, v, hd, _, h | .emp, v, hd, _, h | .nils, v, hd, _, h | .rop .., v, hd, _, h | .fn .., v, hd, _, h =>
    (RelS.toDataS h hd).mono fun b hb => ⟨hS b hb, rfl⟩
theorem freezes {T : Nat → Prop} (hT : ∀ b, B ≤ b → T b) (hS : ∀ b, S b → T b ∧ b < w.heap.size) (i : Nat) : ∀ (cs : List A) (vs : List Value), A.datas cs = true → (∀ id o, look (imps i cs).2.1 id = some o → ObjOKS B w S cv id o) →
    vs.length = (imps i cs).1.length → (∀ j, j < (imps i cs).1.length → RelS w S cv (vs.getD j undef) ((imps i cs).1.getD j .any)) →
    (imps i cs).1.length = cs.length ∧ ∀ j, j < cs.length → RelD w (fun b => T b ∧ b < w.heap.size) (vs.getD j undef) (cs.getD j .any)
  | [], vs, _, _, _, _ => ⟨rfl, fun j hj => by simp at hj⟩
  | x :: r, vs, hd, ho, hl, h => by
    simp only [A.datas] at hd
    split at hd
    · rename_i hx
      simp only [imps_cons, List.length_cons] at ho hl h
      have hr1 := imp_range i x
      have hr2 := imps_range (imp i x).2.2 r
      have f1 := freeze hT hS i x (vs.getD 0 undef) hx (fun id o hid => ho id o (by rw [look_append, hid])) (by have := h 0 (by omega); simpa using this)
      have f2 := freezes hT hS (imp i x).2.2 r (vs.drop 1) hd (fun id o hid => ho id o (by
          rw [look_append]
          cases hl' : look (imp i x).2.1 id with
          | none => exact hid
          | some o' => have := hr1.2 id o' hl'; have := hr2.2 id o hid; omega)) (by simp; omega)
        (fun j hj => by rw [getD_drop, Nat.add_comm]; have := h (j + 1) (by omega); simpa using this)
      refine ⟨by simp only [imps_cons, List.length_cons, f2.1], fun j hj => ?_⟩
      cases j with
      | zero => simpa using f1
      | succ j =>
        have := f2.2 j (by simpa using hj)
        rw [getD_drop, Nat.add_comm] at this
        simpa using this
    · cases hd
end
omit [XS] in
mutual
theorem imp_has (i id : Nat) : ∀ (r : A), r.data = true → (imp i r).1.has id = true → (∃ o, look (imp i r).2.1 id = some o) ∨ r.has id = true
  | .ro esz len get, _, h => by
    simp only [imp, A.has] at h ⊢
    have := Nat.eq_of_beq_eq_true h
    subst this
    exact .inl ⟨_, by simp [look]; rfl⟩
  | .agg cs, hd, h => by
    simp only [imp, A.has, A.data] at h hd ⊢
    exact imps_has i id cs hd h
  | .tup cs, hd, h => by
    simp only [imp, A.has, A.data] at h hd ⊢
    exact imps_has i id cs hd h
  | .any, hd, _ | .ptr .., hd, _ | .rpt .., hd, _ | .sl .., hd, _ => by simp [A.data] at hd
  | .bool _, _, h | .int .., _, h | .flt .., _, h | .cpx .., _, h | .nilp, _, h | .emp, _, h | .nils, _, h | .rop .., _, h | .fn .., _, h => .inr (by simpa [imp] using h)
theorem imps_has (i id : Nat) : ∀ (cs : List A), A.datas cs = true → A.hasAny id (imps i cs).1 = true → (∃ o, look (imps i cs).2.1 id = some o) ∨ A.hasAny id cs = true
  | [], _, h => by simp [imps, A.hasAny] at h
  | x :: r, hd, h => by
    simp only [A.datas] at hd
    split at hd
    · rename_i hx
      simp only [imps_cons] at h ⊢
      simp only [A.hasAny] at h ⊢
      cases h1 : (imp i x).1.has id
      · rw [h1] at h
        simp only at h
        rcases imps_has _ id r hd h with ⟨o, ho⟩ | h2
        · refine .inl ?_
          rw [look_append]
          cases look (imp i x).2.1 id with
          | none => exact ⟨o, ho⟩
          | some o' => exact ⟨o', rfl⟩
        · right
          cases x.has id
          · exact h2
          · rfl
      · rcases imp_has i id x hx h1 with ⟨o, ho⟩ | h2
        · exact .inl ⟨o, by rw [look_append, ho]⟩
        · exact .inr (by rw [h2])
    · cases hd
end
end
section
variable {P : Program} {B : Nat} {cv : Nat → Option Value} {ob : Nat → Option O} {o : Oper} {a : Act} {w : World}
omit [XS] in
theorem execOp_call {c : Call} (ho : o.op = .call c) {f : Operand} (hcal : c.callee = .value f) {g : Nat} {vs : Array Value} (hf : a.eval f = .func (.func g) #[] vs) :
    (execOp a.eval o).run P w = (callFunc g (c.args.map a.eval ++ vs)).run P w := by
  simp [execOp, ho, resolve, hcal, hf, Deferred.ofValue, invoke]
theorem q_ext {cfg : Cfg} (hc : CfgOK P cfg) {c : Call} (ho : o.op = .call c) {f : Operand} (hcal : c.callee = .value f) {g : Nat} {vs : Array Value} (hf : a.eval f = .func (.func g) #[] vs)
    {e : Ext} (he : cfg.xt g = some e) {args : List A} (hsz : (c.args.map a.eval ++ vs).size = args.length) (hargs : ∀ i, i < args.length → Rel w cv ((c.args.map a.eval ++ vs).getD i undef) (args.getD i .any))
    {cc : Bool} {r : A} (h : extA e args = some (cc, r)) (hct : cc = true) : QSound P B cv ob o a w r [] := by
  obtain ⟨fn, hfn, hname, hbody, hnext, hfind⟩ := hc.xt g e he
  have hrun : ∀ v w', (extRun e (c.args.map a.eval ++ vs)).run P w = .ok v w' → (execOp a.eval o).run P w = .ok (.value v) w' := by
    intro v w' hr
    rw [execOp_call ho hcal hf, run_callFunc_extern hfn hname hbody hnext hfind, hr]
    rfl
  generalize hav : c.args.map a.eval ++ vs = av at *
  have one : ∀ x, args = [x] → ∃ v, av = #[v] ∧ Rel w cv v x := by
    intro x hx
    subst hx
    simp only [List.length_cons, List.length_nil, Nat.zero_add] at hsz
    match av, hsz, hargs with
    | ⟨[v]⟩, _, hargs => exact ⟨v, rfl, by simpa [Array.getD] using hargs 0 (by simp)⟩
  unfold extA at h
  split at h
  · rename_i x
    injection h with h; injection h with h1 h2; subst h2
    obtain ⟨v, rfl, hv⟩ := one _ rfl
    obtain ⟨b, rfl, f⟩ := hv.flt_inv
    obtain ⟨r, w', hr, hd, hf⟩ := run_sqrt (P := P) (w := w) f
    exact QSound.value' (.float .f64 r) w' (hrun _ _ hr) (Grow.of_drew hd) (.data (.flt hf)) (live_flt _ _)
  · rename_i x
    injection h with h; injection h with h1 h2; subst h2
    obtain ⟨v, rfl, hv⟩ := one _ rfl
    obtain ⟨b, rfl, f⟩ := hv.flt_inv
    have hn : isNaN .f32 x = false := by rw [← h1] at hct; simpa using hct
    have := f.eq hn
    subst this
    exact QSound.value' (.int .u32 b) w (hrun _ _ rfl) (Grow.refl w) (.data (.int _ _)) (live_int _ _)
  · rename_i x
    injection h with h; injection h with h1 h2; subst h2
    obtain ⟨v, rfl, hv⟩ := one _ rfl
    obtain ⟨b, rfl, f⟩ := hv.flt_inv
    have hn : isNaN .f64 x = false := by rw [← h1] at hct; simpa using hct
    have := f.eq hn
    subst this
    exact QSound.value' (.int .u64 b) w (hrun _ _ rfl) (Grow.refl w) (.data (.int _ _)) (live_int _ _)
  · rename_i n
    injection h with h; injection h with h1 h2; subst h2
    obtain ⟨v, rfl, hv⟩ := one _ rfl
    have := hv.int_inv
    subst this
    rw [← h1] at hct
    simp only [Bool.and_eq_true, decide_eq_true_eq] at hct
    exact QSound.value' (.float .f32 n.toNat) w (hrun _ _ rfl) (Grow.refl w) (.data (.flt (FR.mk (by simp [Lit.wf]; omega)))) (live_flt _ _)
  · rename_i n
    injection h with h; injection h with h1 h2; subst h2
    obtain ⟨v, rfl, hv⟩ := one _ rfl
    have := hv.int_inv
    subst this
    rw [← h1] at hct
    simp only [Bool.and_eq_true, decide_eq_true_eq] at hct
    exact QSound.value' (.float .f64 n.toNat) w (hrun _ _ rfl) (Grow.refl w) (.data (.flt (FR.mk (by simp [Lit.wf]; omega)))) (live_flt _ _)
  · cases h
omit [XS] in
theorem toD_same (obj : Nat → Option O) : ∀ fuel, (∀ x c d, toD obj fuel x = some (c, d) → x.data = true → d = x) ∧ (∀ xs c ds, toDs obj fuel xs = some (c, ds) → A.datas xs = true → ds = xs)
  | 0 => ⟨fun x c d h => by simp [toD] at h, fun xs c ds h => by simp [toDs] at h⟩
  | fuel + 1 => by
    obtain ⟨ih1, ih2⟩ := toD_same obj fuel
    refine ⟨fun x c d h hd => ?_, fun xs c ds h hd => ?_⟩
    · cases x with
      | agg cs =>
        simp only [toD] at h
        split at h
        · rename_i c' ds' e; simp only [Option.some.injEq, Prod.mk.injEq] at h; obtain ⟨_, rfl⟩ := h
          rw [ih2 cs _ _ e (by simpa [A.data] using hd)]
        · cases h
      | tup cs =>
        simp only [toD] at h
        split at h
        · rename_i c' ds' e; simp only [Option.some.injEq, Prod.mk.injEq] at h; obtain ⟨_, rfl⟩ := h
          rw [ih2 cs _ _ e (by simpa [A.data] using hd)]
        · cases h
      | fn f cs =>
        simp only [toD] at h
        split at h
        · rename_i c' ds' e; simp only [Option.some.injEq, Prod.mk.injEq] at h; obtain ⟨_, rfl⟩ := h
          rw [ih2 cs _ _ e (by simpa [A.data] using hd)]
        · cases h
      | rop d o =>
        simp only [toD] at h
        split at h
        · simp only [Option.some.injEq, Prod.mk.injEq] at h; exact h.2.symm
        · cases h
      | any => simp [A.data] at hd
      | ptr => simp [A.data] at hd
      | rpt => simp [A.data] at hd
      | sl => simp [A.data] at hd
      | _ => simp only [toD, Option.some.injEq, Prod.mk.injEq] at h; exact h.2.symm
    · cases xs with
      | nil => simp only [toDs, Option.some.injEq, Prod.mk.injEq] at h; exact h.2.symm
      | cons x r =>
        simp only [A.datas] at hd
        split at hd
        · rename_i hx
          simp only [toDs] at h
          split at h
          · rename_i c1 d1 e1
            split at h
            · rename_i c2 d2 e2
              simp only [Option.some.injEq, Prod.mk.injEq] at h
              obtain ⟨_, rfl⟩ := h
              rw [ih1 x _ _ e1 hx, ih2 r _ _ e2 hd]
            · cases h
          · cases h
        · cases hd
theorem q_env {cfg : Cfg} (hc : CfgOK P cfg) {c : Call} (ho : o.op = .call c) {f : Operand} (hcal : c.callee = .value f) {g : Nat} {vs : Array Value} (hf : a.eval f = .func (.func g) #[] vs)
    {s : List A → Option (Bool × A)} (hs : cfg.env g = some s) {args : List A} (hsz : (c.args.map a.eval ++ vs).size = args.length) (hargs : ∀ i, i < args.length → Rel w cv ((c.args.map a.eval ++ vs).getD i undef) (args.getD i .any))
    {obj : Nat → Option O} (hob : ∀ i o', obj i = some o' → ob i = some o') (hm : MemOK B w cv ob) {c1 c2 : Bool} {ds : List A} {r : A} (hd : toDs obj 64 args = some (c1, ds)) (hr : s ds = some (c2, r)) (hct : c2 = true) (hrd : r.data = true) (hpa : r.plainR = true ∨ A.datas args = true)
    {own : Bool} {base : Nat} (hfresh : ∀ id, base ≤ id → id < base + 16 → ob id = none) (hj : own = true → (imp base r).2.2 ≤ base + 16) (hBw : B ≤ w.heap.size) (hXw : XS.Bx ≤ w.heap.size) :
    QSound P B cv ob o a w (cond own (imp base r).1 r) (cond own (imp base r).2.1 []) := by
  obtain ⟨⟨fn, hfn, hbody, hname⟩, hcon⟩ := hc.env g s hs
  have hpure := hcon ds c2 r hr hct
  have hds := (toD_datas hob hm 64).2 args c1 ds hd
  have hcall := hpure w (c.args.map a.eval ++ vs) (fun b => b < w.heap.size ∧ (r.plainR = true ∨ Sx w cv b)) (fun b hb => hb.1) (by rw [hsz, hds.1]) (fun i hi => by
    rcases hpa with hp | hda
    · have := hds.2 (c.args.map a.eval ++ vs).toList (fun j hj => by rw [toList_getD]; exact hargs j hj) i hi
      rw [toList_getD] at this
      exact this.mono fun b hb => ⟨⟨hb, .inl hp⟩, rfl⟩
    · have e := (toD_same obj 64).2 args c1 ds hd hda
      subst e
      exact ((hargs i hi).toData (datas_getD hda hi)).mono fun b hb => ⟨⟨hb.1, .inr hb⟩, rfl⟩)
  have hold : ∀ b, (r.plainR = false ∧ b < w.heap.size ∧ (r.plainR = true ∨ Sx w cv b)) → Sx w cv b := fun b hb => by
    rcases hb.2.2 with h | h
    · rw [h] at hb; cases hb.1
    · exact h
  have hrun : (execOp a.eval o).run P w = .ok (.enter g (c.args.map a.eval ++ vs)) w := by
    rw [execOp_call ho hcal hf]
    have hb : fn.body.isNone = false := by simpa using hbody
    have hb' : fn.body ≠ none := by intro e; rw [e] at hbody; cases hbody
    have h1 : fn.name ≠ "runtime.NumGoroutine" := by simpa using hname
    simp [callFunc, hfn, h1, hb']
  intro K Q hK
  show o.upon P a K Q _
  rw [hrun]
  refine hcall.mono ?_
  rintro e w' ⟨v, rfl, hbelow, hpost⟩
  show K (a.put o.dst v) w'
  have hgrow : Grow w w' := hbelow
  obtain ⟨cvn, hrange, hinj, hobj, hrel⟩ := hpost base
  cases own with
  | false =>
    simp only [cond_false] at hK
    have hfr := freeze (cv := cvn) (B := w.heap.size) (T := fun b => w.heap.size ≤ b ∨ Sx w cv b) (fun b hb => .inl hb) (fun b hb => ⟨hb.1.imp_right (hold b), hb.2.1⟩) base r v hrd hobj hrel
    refine hK v w' cv (.of_grow cv hgrow) (by intro id o' h; cases h) (fun id u h => .inl h) (fun i j u u' b hi _ h => by rw [hi] at h; cases h) (.data (hfr.mono fun b hb => ⟨⟨hb.2, fun id u hu e => ?_, ?_⟩, rfl⟩)) (fun id hid => by rw [hfr.noHas id] at hid; cases hid)
    · rcases hb.1 with hb | hb
      · have := (hm.dom id u hu).2 b e
        omega
      · exact hb.2.1 id u hu e
    · rcases hb.1 with hb | hb
      · exact .inl (Nat.le_trans hXw hb)
      · exact hb.2.2
  | true =>
    simp only [cond_true] at hK
    have hle := hj rfl
    have hcvn : ∀ id u, cvn id = some u → cv id = none := by
      intro id u hu
      have := hrange id u hu
      cases hcv : cv id with
      | none => rfl
      | some u' =>
        obtain ⟨o', ho'⟩ := (hm.dom id u' hcv).1
        rw [hfresh id this.1 (by omega)] at ho'
        cases ho'
    let cv' : Nat → Option Value := fun id => match cvn id with | some u => some u | none => cv id
    have cv'n : ∀ id u, cvn id = some u → cv' id = some u := fun id u h => by simp only [cv', h]
    have cv'o : ∀ id, cvn id = none → cv' id = cv id := fun id h => by simp only [cv', h]
    have hstep : CvStep B w w' cv cv' := by
      refine ⟨hgrow, fun id u hu => ?_, fun id u hu => ?_⟩
      · cases hn : cvn id with
        | none => rw [cv'o id hn]; exact hu
        | some u' => rw [hcvn id u' hn] at hu; cases hu
      · cases hn : cvn id with
        | none => rw [cv'o id hn] at hu; exact .inl hu
        | some u' =>
          rw [cv'n id u' hn] at hu
          injection hu with hu
          subst hu
          exact .inr ⟨hcvn id _ hn, (hrange id _ hn).2.2⟩
    have hSx : ∀ b, ((w.heap.size ≤ b ∨ (r.plainR = false ∧ b < w.heap.size ∧ (r.plainR = true ∨ Sx w cv b))) ∧ Sy w' cvn b) → Sx w' cv' b ∧ w'.heap[b]? = w'.heap[b]? := by
      rintro b ⟨hb, hlt, hnb⟩
      refine ⟨⟨hlt, fun id u hu e => ?_, hb.elim (fun hb => .inl (Nat.le_trans hXw hb)) fun hb => (hold b hb).2.2⟩, rfl⟩
      cases hn : cvn id with
      | none =>
        rw [cv'o id hn] at hu
        rcases hb with hb | hb
        · have := (hm.dom id u hu).2 b e
          omega
        · exact (hold b hb).2.1 id u hu e
      | some u' =>
        rw [cv'n id u' hn] at hu
        injection hu with hu
        subst hu
        exact hnb id _ hn e
    have hown : ∀ id o', look (imp base r).2.1 id = some o' → ∃ u, cvn id = some u := by
      intro id o' h
      have := hobj id o' h
      cases o' with
      | var cs => obtain ⟨b, vs, E, h, _⟩ := this; exact ⟨_, h⟩
      | row e esz len get => obtain ⟨v, E, xs, h, _⟩ := this; exact ⟨_, h⟩
      | arr e esz len cs => obtain ⟨v, E, xs, h, _⟩ := this; exact ⟨_, h⟩
    refine hK v w' cv' hstep (fun id o' h => ?_) (fun id u hu => ?_) (fun i j u u' b hi hj hni hnj hb hb' => ?_) ?_ (fun id hid => ?_)
    · obtain ⟨u, hu⟩ := hown id o' h
      have hrows : ∃ e esz len get, o' = .row e esz len get := imp_rows base r id o' h
      obtain ⟨e, esz, len, get, rfl⟩ := hrows
      refine ⟨?_, fun i hi => by simp [O.has] at hi⟩
      have h1 := (hobj id _ h).step (cv' := cv') hSx (by rw [cv'n id u hu, hu]) (fun _ _ _ _ => rfl) (fun i hi => by simp [O.has] at hi)
      obtain ⟨v', E, xs, h2, hor, h3⟩ := h1
      refine ⟨v', E, xs, h2, ⟨hor.1, ?_⟩, h3⟩
      rcases hor.2 with h4 | ⟨g, cap, cur, h5, h6, h7⟩
      · exact .inl h4
      · exact .inr ⟨g, cap, cur, h5, Nat.le_trans hBw h6, h7⟩
    · cases hn : cvn id with
      | none => rw [cv'o id hn] at hu; exact .inl hu
      | some u' => exact .inr (imp_objs base r id (hrange id u' hn).1 (hrange id u' hn).2.1)
    · have g1 : ∃ u1, cvn i = some u1 := by
        cases hn : cvn i with
        | none => rw [cv'o i hn, hni] at hi; cases hi
        | some u1 => exact ⟨u1, rfl⟩
      have g2 : ∃ u1, cvn j = some u1 := by
        cases hn : cvn j with
        | none => rw [cv'o j hn, hnj] at hj; cases hj
        | some u1 => exact ⟨u1, rfl⟩
      obtain ⟨u1, g1⟩ := g1
      obtain ⟨u2, g2⟩ := g2
      rw [cv'n i u1 g1] at hi
      rw [cv'n j u2 g2] at hj
      injection hi with hi
      injection hj with hj
      subst hi hj
      exact hinj i j _ _ b g1 g2 hb hb'
    · refine hrel.mono hSx fun id hid => .inr ?_
      rcases imp_has base id r hrd hid with ⟨o', ho'⟩ | h2
      · obtain ⟨u, hu⟩ := hown id o' ho'
        rw [cv'n id u hu, hu]
      · rw [data_noHas' r hrd id] at h2; cases h2
    · rcases imp_has base id r hrd hid with h1 | h2
      · exact .inr h1
      · rw [data_noHas' r hrd id] at h2; cases h2
end
end Go.Fw

/-
  All operations that change nothing that was there, together.
-/
namespace Go.Fw
variable [XS]
open Go.RowKit (Below)
section
variable {P : Program} {B : Nat} {cv : Nat → Option Value} {ob : Nat → Option O} {o : Oper} {a : Act} {w : World}
theorem QSound.toData {base e esz len : Nat} {get : Row A} (h : QSound P B cv ob o a w (.sl base len) [(base, .row e esz len get)]) (hf : cv base = none) (hm : MemOK B w cv ob) (hXw : XS.Bx ≤ w.heap.size) : QSound P B cv ob o a w (.ro esz len get) [] := by
  intro K Q hK
  refine h K Q fun v w' cv' hst hobj hcvn hinj hrel hlive => ?_
  obtain ⟨⟨u, E, xs, hu, hown, hE, hpos, hz, hr⟩, _⟩ := hobj base (.row e esz len get) (by simp [look])
  obtain ⟨hvu, p, c, hv⟩ := hrel.sl_inv hu
  have hsub : ∀ b, Sx w' cv' b → Sx w' cv b ∧ w'.heap[b]? = w'.heap[b]? := fun b hb => ⟨⟨hb.1, fun id u' hu' => hb.2.1 id u' (hst.old id u' hu'), hb.2.2⟩, rfl⟩
  have hnew : ∀ b, blk u = some b → Sx w' cv b := fun b hb => by
    rcases hst.new base u hu with h1 | ⟨_, h1⟩
    · rw [hf] at h1; cases h1
    · have h2 := h1 b hb
      exact ⟨h2.2, fun id u' hu' e' => by have := (hm.dom id u' hu').2 b e'; omega, .inl (by omega)⟩
  refine hK v w' cv (.of_grow cv hst.grow) (by intro id o' h; cases h) (fun id u h => .inl h) (fun i j u u' b hi _ h => by rw [hi] at h; cases h) (.data ?_) (fun id hid => by simp [A.has] at hid)
  rw [hvu]
  obtain ⟨hxl, hown⟩ := hown
  rcases hown with ⟨hnil, hl0⟩ | ⟨g, cap, cur, hv2, hg, hheap, hle, hmax, hcs, htake⟩
  · subst hl0
    rw [hnil]
    exact .ro (b := 0) (o := 0) (Nat.le_refl _) (fun _ _ => undef) (fun h => by omega) (fun i hi => by omega) (fun i j hi => by omega) (fun i j hi => by omega) (fun i j hi => by omega)
  · have hSg := hnew g (by rw [hv2]; rfl)
    rw [hv2]
    refine .ro (b := g) (o := 0) hle (fun i j => xs.getD (i * esz + j) undef) (fun _ => ⟨rfl, hSg⟩) hz (fun i j hi hj => ?_) (fun i j hi hj => (hr i j hi hj).1) (fun i j hi hj => (hr i j hi hj).2.mono hsub)
    rw [Nat.zero_add, cell_of_row w' g _ cur E (0, 0) hheap]
    have hlt := mul_lt hi hj
    have h1 : xs[i * esz + j]? = cur[i * esz + j]? := by rw [← htake, List.getElem?_take, if_pos hlt]; simp
    have hlt2 : i * esz + j < cur.size := by
      have : len * esz ≤ cap * esz := Nat.mul_le_mul_right _ hle
      omega
    simp only [List.getD, h1, Array.getElem?_eq_getElem hlt2, Option.getD_some]
theorem args_rel {get : Nat → A} (hs : Slots w cv ob a get) (xs : Array Operand) {vs : Array Value} {caps : List A} (hvs : vs.size = caps.length) (hr : ∀ i, i < caps.length → Rel w cv (vs.getD i undef) (caps.getD i .any)) :
    (xs.map a.eval ++ vs).size = (xs.toList.map (opd get) ++ caps).length ∧ ∀ i, i < (xs.toList.map (opd get) ++ caps).length → Rel w cv ((xs.map a.eval ++ vs).getD i undef) ((xs.toList.map (opd get) ++ caps).getD i .any) := by
  have h1 := map_eval_rel hs xs
  have l1 := LRel.of_array h1.1 h1.2.1
  have l2 := LRel.of_array hvs hr
  have := l1.append l2
  rw [← Array.toList_append] at this
  exact this.to_array
theorem evalQ_sound {cfg : Cfg} (hc : CfgOK P cfg) {get : Nat → A} {obj : Nat → Option O} {own : Bool} {base : Nat} {c : Bool} {x : A} {os : List (Nat × O)}
    (h : evalQ cfg get obj own base o = some (c, x, os)) (hct : c = true) (hs : Slots w cv ob a get) (hob : ∀ i o', obj i = some o' → ob i = some o') (hm : MemOK B w cv ob)
    (hBw : B ≤ w.heap.size) (hXw : XS.Bx ≤ w.heap.size) (hfresh : ∀ id, base ≤ id → id < base + 16 → ob id = none) : QSound P B cv ob o a w x os := by
  have hf : cv base = none := by
    cases hcv : cv base with
    | none => rfl
    | some u =>
      obtain ⟨o', ho'⟩ := (hm.dom base u hcv).1
      rw [hfresh base (Nat.le_refl _) (by omega)] at ho'
      cases ho'
  unfold evalQ at h
  split at h
  case h_1 y ho =>
    simp only [Option.some.injEq, Prod.mk.injEq] at h
    obtain ⟨_, rfl, rfl⟩ := h
    exact QSound.value (a.eval y) w (by simp [execOp, ho]) (Grow.refl w) (hs.opd y).1 (hs.opd y).2 hm
  case h_2 y ho =>
    simp only [Option.some.injEq, Prod.mk.injEq] at h
    obtain ⟨_, rfl, rfl⟩ := h
    exact QSound.value (a.eval y) w (by simp [execOp, ho]) (Grow.refl w) (hs.opd y).1 (hs.opd y).2 hm
  case h_3 t ho =>
    split at h
    · rename_i ti ht
      simp only [Option.some.injEq, Prod.mk.injEq] at h
      obtain ⟨_, rfl, rfl⟩ := h
      exact q_alloc hc ht ho hf hm
    · cases h
  case h_4 t y ho =>
    have hy := hs.opd y
    split at h
    · cases h
    · rename_i hne
      simp only [Option.some.injEq, Prod.mk.injEq] at h
      obtain ⟨_, rfl, rfl⟩ := h
      exact q_box ho hf hm hy.1 hy.2 hne
  case h_5 t parts ho =>
    split at h
    · rename_i ti ht
      split at h
      · cases h
      · rename_i he
        split at h
        · rename_i cs hcs
          simp only [Option.some.injEq, Prod.mk.injEq] at h
          obtain ⟨_, rfl, rfl⟩ := h
          exact q_build hc ht ho hs hm (by intro e; rw [e] at he; cases he) hcs
        · cases h
    · cases h
  case h_6 t len parts ho =>
    split at h
    · rename_i ti ht
      split at h
      · rename_i e he
        split at h
        · rename_i ei hei
          split at h
          · rename_i l hl
            split at h
            · rename_i h1 h2
              split at h
              · simp only [Option.some.injEq, Prod.mk.injEq] at h
                obtain ⟨_, rfl, rfl⟩ := h
                exact q_buildSlice hc ht he hei ho hs hm hl h1 h2 hf hBw
              · simp only [Option.some.injEq, Prod.mk.injEq] at h
                obtain ⟨_, rfl, rfl⟩ := h
                exact (q_buildSlice hc ht he hei ho hs hm hl h1 h2 hf hBw).toData hf hm hXw
            · cases h
          · split at h
            · rename_i l hl
              split at h
              · rename_i h1 h2
                simp only [Option.some.injEq, Prod.mk.injEq] at h
                obtain ⟨_, rfl, rfl⟩ := h
                exact q_buildArr hc ht he hei ho hs hm hl h1 h2 hf hBw
              · cases h
            · cases h
        · cases h
      · cases h
    · cases h
  case h_7 t y ho =>
    have hy := hs.opd y
    split at h
    · rename_i ti ht
      split at h
      · rename_i r hr
        simp only [Option.some.injEq, Prod.mk.injEq] at h
        obtain ⟨_, rfl, rfl⟩ := h
        exact q_load hc ht ho hob hm hy.1 hy.2 hr
      · cases h
    · cases h
  case h_8 y ho =>
    have hy := hs.opd y
    split at h
    · rename_i i k e
      rw [e] at hy
      simp only [Option.some.injEq, Prod.mk.injEq] at h
      obtain ⟨_, rfl, rfl⟩ := h
      obtain ⟨b, off, ev⟩ := ptr_pointer hy.1 hy.2 hm (.inl ⟨_, _, rfl⟩)
      exact q_nilCheck ho hy.1 hy.2 hm ⟨_, ev⟩
    · rename_i i e0 j k e
      rw [e] at hy
      simp only [Option.some.injEq, Prod.mk.injEq] at h
      obtain ⟨_, rfl, rfl⟩ := h
      obtain ⟨b, off, ev⟩ := ptr_pointer hy.1 hy.2 hm (.inr (.inl ⟨_, _, _, _, rfl⟩))
      exact q_nilCheck ho hy.1 hy.2 hm ⟨_, ev⟩
    · rename_i d k e
      rw [e] at hy
      simp only [Option.some.injEq, Prod.mk.injEq] at h
      obtain ⟨_, rfl, rfl⟩ := h
      obtain ⟨b, off, ev⟩ := ptr_pointer hy.1 hy.2 hm (.inr (.inr ⟨_, _, rfl⟩))
      exact q_nilCheck ho hy.1 hy.2 hm ⟨_, ev⟩
    · cases h
  case h_9 op t y z t' ho =>
    split at h
    · rename_i c' r hr
      simp only [Option.some.injEq, Prod.mk.injEq] at h
      obtain ⟨rfl, rfl, rfl⟩ := h
      exact q_binOp hc ho (hs.opd y).1 (hs.opd z).1 hm hr hct
    · cases h
  case h_10 op t y ho =>
    split at h
    · rename_i r hr
      simp only [Option.some.injEq, Prod.mk.injEq] at h
      obtain ⟨_, rfl, rfl⟩ := h
      exact q_unOp ho (hs.opd y).1 hm hr
    · cases h
  case h_11 s d y ho =>
    split at h
    · rename_i c' r hr
      simp only [Option.some.injEq, Prod.mk.injEq] at h
      obtain ⟨rfl, rfl, rfl⟩ := h
      exact q_convert hc ho (hs.opd y).1 hm hr hct
    · cases h
  case h_12 t l l' ho =>
    split at h
    · cases h
    · rename_i hll
      split at h
      · rename_i ti ht
        split at h
        · rename_i e he
          split at h
          · rename_i ei hei
            split at h
            · rename_i n hn
              split at h
              · cases h
              · rename_i hby
                simp only [Option.some.injEq, Prod.mk.injEq] at h
                obtain ⟨h1, rfl, rfl⟩ := h
                rw [← h1] at hct
                simp only [Bool.and_eq_true, decide_eq_true_eq] at hct
                have hl := (hs.opd l).1
                rw [hn] at hl
                exact q_makeSlice hc ht he hei ho hll hl.int_inv hct.1 hct.2 hby hf hBw
            · cases h
          · cases h
        · cases h
      · cases h
  case h_13 t y lo hi mx ho =>
    split at h
    · rename_i ti ht
      split at h
      · rename_i e he
        split at h
        · rename_i ei hei
          split at h
          · rename_i c' r hr
            simp only [Option.some.injEq, Prod.mk.injEq] at h
            obtain ⟨rfl, rfl, rfl⟩ := h
            exact q_slice hc ht he hei ho hs hm hr hct
          · cases h
        · cases h
      · cases h
    · cases h
  case h_14 t y f ho =>
    have hy := hs.opd y
    split at h
    · rename_i ti ht
      split at h
      · rename_i off sz hf'
        split at h
        · rename_i i k e
          rw [e] at hy
          simp only [Option.some.injEq, Prod.mk.injEq] at h
          obtain ⟨_, rfl, rfl⟩ := h
          exact q_fieldAddr hc ht ho hf' hy.1 hy.2 hm rfl
        · rename_i i e0 j k e
          rw [e] at hy
          simp only [Option.some.injEq, Prod.mk.injEq] at h
          obtain ⟨_, rfl, rfl⟩ := h
          exact q_fieldAddr hc ht ho hf' hy.1 hy.2 hm rfl
        · rename_i d k e
          rw [e] at hy
          simp only [Option.some.injEq, Prod.mk.injEq] at h
          obtain ⟨_, rfl, rfl⟩ := h
          exact q_fieldAddr hc ht ho hf' hy.1 hy.2 hm rfl
        · cases h
      · cases h
    · cases h
  case h_15 t y i ho =>
    have hy := hs.opd y
    split at h
    · rename_i c' r hr
      simp only [Option.some.injEq, Prod.mk.injEq] at h
      obtain ⟨rfl, rfl, rfl⟩ := h
      exact q_indexAddr hc ho hob hy.1 hy.2 (hs.opd i).1 hm hr hct
    · cases h
  case h_16 y i ho =>
    have hy := hs.opd y
    split at h
    · rename_i vs e
      rw [e] at hy
      split at h
      · rename_i r hr
        simp only [Option.some.injEq, Prod.mk.injEq] at h
        obtain ⟨_, rfl, rfl⟩ := h
        exact q_extract ho hy.1 hy.2 hm hr
      · cases h
    · cases h
  case h_17 f first caps ho =>
    split at h
    · rename_i hfirst
      simp only [Option.some.injEq, Prod.mk.injEq] at h
      obtain ⟨_, rfl, rfl⟩ := h
      exact q_makeFunc ho hfirst hs hm
    · cases h
  case h_18 cl ho =>
    split at h
    · rename_i y hcal hargs
      split at h
      · rename_i t hts
        split at h
        · rename_i ti ht
          split at h
          · rename_i e he
            split at h
            · rename_i n hn
              simp only [Option.some.injEq, Prod.mk.injEq] at h
              obtain ⟨_, rfl, rfl⟩ := h
              exact q_len hc ho hcal hargs hts ht he (hs.opd y).1 (hs.opd y).2 hm hn
            · cases h
          · cases h
        · cases h
      · cases h
    · rename_i y hcal hargs
      split at h
      · rename_i t hts
        split at h
        · rename_i ti ht
          split at h
          · rename_i e he
            split at h
            · rename_i hn
              simp only [Option.some.injEq, Prod.mk.injEq] at h
              obtain ⟨_, rfl, rfl⟩ := h
              have hy := (hs.opd y).1
              rw [hn] at hy
              exact q_cap hc ho hcal hargs hts ht he hy hm
            · cases h
          · cases h
        · cases h
      · cases h
    · rename_i y hcal hargs
      split at h
      · rename_i k n m e
        simp only [Option.some.injEq, Prod.mk.injEq] at h
        obtain ⟨_, rfl, rfl⟩ := h
        have hy := (hs.opd y).1
        rw [e] at hy
        exact q_real ho hcal hargs hy hm
      · cases h
    · rename_i y hcal hargs
      split at h
      · rename_i k n m e
        simp only [Option.some.injEq, Prod.mk.injEq] at h
        obtain ⟨_, rfl, rfl⟩ := h
        have hy := (hs.opd y).1
        rw [e] at hy
        exact q_imag ho hcal hargs hy hm
      · cases h
    · rename_i y z hcal hargs
      split at h
      · rename_i k n k' m e1 e2
        split at h
        · rename_i hk
          have := of_decide_eq_true hk
          subst this
          simp only [Option.some.injEq, Prod.mk.injEq] at h
          obtain ⟨_, rfl, rfl⟩ := h
          have hy := (hs.opd y).1
          have hz := (hs.opd z).1
          rw [e1] at hy
          rw [e2] at hz
          exact q_complex ho hcal hargs hy hz hm
        · cases h
      · cases h
    · rename_i y z hcal hargs
      split at h
      · rename_i k n k' m e1 e2
        split at h
        · rename_i hk
          have := of_decide_eq_true hk
          subst this
          simp only [Option.some.injEq, Prod.mk.injEq] at h
          obtain ⟨_, rfl, rfl⟩ := h
          have hy := (hs.opd y).1
          have hz := (hs.opd z).1
          rw [e1] at hy
          rw [e2] at hz
          exact q_max ho hcal hargs hy hz hm
        · cases h
      · cases h
    · rename_i f hcal
      split at h
      · rename_i g caps hfn
        have hfr := (hs.opd f).1
        rw [hfn] at hfr
        obtain ⟨vs, hfv, hvs, hvr⟩ := hfr.fn_inv
        have hal := args_rel hs cl.args hvs hvr
        unfold callA at h
        split at h
        · rename_i e he
          split at h
          · rename_i c' r hr
            simp only [Option.some.injEq, Prod.mk.injEq] at h
            obtain ⟨rfl, rfl, rfl⟩ := h
            exact q_ext hc ho hcal hfv he hal.1 hal.2 hr hct
          · cases h
        · split at h
          · cases h
          · rename_i s hsenv
            split at h
            · cases h
            · rename_i c1 ds hds
              split at h
              · cases h
              · rename_i c2 r hr
                split at h
                · cases h
                · rename_i hrd
                  simp only [Bool.and_eq_true, Bool.or_eq_true] at hrd
                  split at h
                  · split at h
                    rename_i a' os' j' himp
                    split at h
                    · rename_i hble
                      simp only [Option.some.injEq, Prod.mk.injEq] at h
                      obtain ⟨h1, rfl, rfl⟩ := h
                      rw [← h1] at hct
                      simp only [Bool.and_eq_true] at hct
                      have hq := q_env (own := true) (base := base) hc ho hcal hfv hsenv hal.1 hal.2 hob hm hds hr hct.2 hrd.1 hrd.2 hfresh (fun _ => by rw [himp]; exact Nat.le_of_ble_eq_true hble) hBw hXw
                      rw [himp] at hq
                      exact hq
                    · cases h
                  · simp only [Option.some.injEq, Prod.mk.injEq] at h
                    obtain ⟨h1, rfl, rfl⟩ := h
                    rw [← h1] at hct
                    simp only [Bool.and_eq_true] at hct
                    exact q_env (own := false) (base := base) hc ho hcal hfv hsenv hal.1 hal.2 hob hm hds hr hct.2 hrd.1 hrd.2 hfresh (fun e => by cases e) hBw hXw
      · cases h
    · cases h
  case h_19 => cases h
end
end Go.Fw

/-
  append, as the model does it; comparisons with nil.
-/
namespace Go.Fw
variable [XS]
open Go.RowKit (Below)
section
variable {P : Program} {B : Nat} {w : World}
omit [XS] in
theorem run_append_zero (t ty e : TypeId) (i : TypeInfo) (ht : P.underlying t = some (.slice e)) (hi : P.info? e = some i) (base : Option Addr) (n cap cp : Nat) (hb : base = none ∨ ∃ g, base = some ⟨g, 0, none⟩) (h : n ≤ cap) :
    (Builtin.append_ #[t, t] ty #[.slice base n cap, .slice none 0 cp]).run P w = .ok (.slice base n cap) w := by
  rcases hb with rfl | ⟨g, rfl⟩ <;> simp [Builtin.append_, run_underlying ht, sizeOf, typeInfo, hi, Builtin.lenOf, Builtin.firstCells, h, storeCells]
def Grew (B : Nat) (w w' : World) (e esz : Nat) (v v' : Value) (n : Nat) (xs : List Value) : Prop :=
  (w'.ownsRow B e esz v' n xs ∧ w.grownBy w' v.ownBlock ∧ v'.ownBlock = v.ownBlock) ∨ (w'.ownsRow w.heap.size e esz v' n xs ∧ w.grownBy w' none)
omit [XS] in
theorem append_out {cfg : Cfg} (hc : CfgOK P cfg) {t e ty : Nat} {ti ei : TI} (ht : cfg.tt t = some ti) (he : ti.elem = some e) (hei : cfg.tt e = some ei) (hby : ei.bytes ≤ 1000)
    {v : Value} {l : Nat} {xs : List Value} (hown : w.ownsRow B e ei.size v l xs)
    {p : Option Addr} {m cp : Nat} {news : List Value} (hl : news.length = m * ei.size) (hp : p = none → m = 0) (hnews : ∀ ad, p = some ad → ∀ j u, news[j]? = some u → w.cell? (ad.add j) = some u) (h1 : ∀ u, u ∈ news → u.oneCell' = true)
    (hmax : l + m ≤ 1073741824) :
    ∃ v' w', (Builtin.append_ #[t, t] ty #[v, .slice p m cp]).run P w = .ok v' w' ∧ Grew B w w' e ei.size v v' (l + m) (xs ++ news) := by
  have hu := (hc.tt t ti ht).elem e he
  obtain ⟨i, d, z, hi, hud, hs, hb, hz, hzz, hag, hzl, hza, hz1⟩ := (hc.tt e ei hei).info
  have hpos := (hc.tt e ei hei).pos
  have hzs : z.cells.size = ei.size := by have := (zerosOk_rel w (fun _ => True) hzz).1; simp at this; omega
  have hbytes : (l + m) * i.bytes ≤ 140737488355328 := by
    have : (l + m) * i.bytes ≤ 1073741824 * 1000 := Nat.mul_le_mul hmax (by omega)
    omega
  have h63 : l + m ≤ maxLen := by unfold maxLen; omega
  have fresh : ∀ ad, p = some ad → w.ownsRow w.heap.size e ei.size (.slice none 0 0) 0 [] → ∃ v' w', (Builtin.append_ #[t, t] ty #[.slice none 0 0, .slice (some ad) m cp]).run P w = .ok v' w' ∧ w'.ownsRow w.heap.size e ei.size v' m news ∧ w.grownBy w' none := by
    intro ad had hown
    obtain ⟨v', w', hr, ho, hg, _⟩ := run_append_own (P := P) w w.heap.size t ty e i z ei.size i.bytes hu hi hz hs rfl hzs hpos (.slice none 0 0) 0 [] hown ad m cp news hl (hnews ad had) h1 (by omega) (by simp only [Nat.zero_add]; exact Nat.le_trans (Nat.mul_le_mul_right _ (by omega)) hbytes) (Nat.le_refl _)
    simp only [Nat.zero_add, List.nil_append] at ho
    exact ⟨v', w', hr, ho, hg⟩
  have grows : ∀ ad b cap, p = some ad → cap < l + m → xs.length = l * ei.size → (∀ j u, xs[j]? = some u → w.cell? (b.add j) = some u) → ∃ v' w', (Builtin.append_ #[t, t] ty #[.slice (some b) l cap, .slice (some ad) m cp]).run P w = .ok v' w' ∧ w'.ownsRow w.heap.size e ei.size v' (l + m) (xs ++ news) ∧ w.grownBy w' none := by
    intro ad b cap had hlt hxl hold
    exact run_append_arg_grows (P := P) w t ty e i z ei.size i.bytes hu hi hz hs rfl hzs hpos b l cap xs hxl hold ad m cp news hl (hnews ad had) hlt h63 hbytes
  have noth : p = none → news = [] ∧ m = 0 := fun e => ⟨List.eq_nil_of_length_eq_zero (by rw [hl, hp e, Nat.zero_mul]), hp e⟩
  rcases hown.2 with ⟨rfl, rfl⟩ | ⟨g, cap, cur, rfl, hgB, hheap, hle, hcm, hcs, htake⟩
  · have hx : xs = [] := List.eq_nil_of_length_eq_zero (by simpa using hown.1)
    subst hx
    cases p with
    | none =>
      obtain ⟨rfl, rfl⟩ := noth rfl
      exact ⟨_, w, run_append_zero t ty e i hu hi none 0 0 cp (.inl rfl) (Nat.le_refl _), .inl ⟨by simpa using hown, ⟨rfl, rfl, rfl, Nat.le_refl _, fun _ _ _ => rfl⟩, rfl⟩⟩
    | some ad =>
      obtain ⟨v', w', hr, ho, hg⟩ := fresh ad rfl (World.ownsRow_nil w _ e ei.size)
      exact ⟨v', w', hr, .inr ⟨by simpa using ho, hg⟩⟩
  · cases p with
    | none =>
      obtain ⟨rfl, rfl⟩ := noth rfl
      exact ⟨_, w, run_append_zero t ty e i hu hi _ l cap cp (.inr ⟨g, rfl⟩) hle, .inl ⟨by simpa using hown, ⟨rfl, rfl, rfl, Nat.le_refl _, fun _ _ _ => rfl⟩, rfl⟩⟩
    | some ad =>
      by_cases hroom : l + m ≤ cap
      · obtain ⟨w', hr, ho, hg⟩ := run_append_fits (P := P) w B t ty e i ei.size hu hi hs g l cap xs hown ad m cp news hl (hnews ad rfl) h1 hroom
        exact ⟨_, w', hr, .inl ⟨ho, hg, rfl⟩⟩
      · obtain ⟨v', w', hr, ho, hg⟩ := grows ad ⟨g, 0, none⟩ cap rfl (by omega) hown.1 (hown.cells (g := g) rfl)
        exact ⟨v', w', hr, .inr ⟨ho, hg⟩⟩
omit [XS] in
theorem append_emp {cfg : Cfg} (hc : CfgOK P cfg) {t e ty : Nat} {ti ei : TI} (ht : cfg.tt t = some ti) (he : ti.elem = some e) (hei : cfg.tt e = some ei) (hby : ei.bytes ≤ 1000)
    (b : Option Addr) {p : Option Addr} {m cp : Nat} {news : List Value} (hl : news.length = m * ei.size) (hp : p = none → m = 0) (hnews : ∀ ad, p = some ad → ∀ j u, news[j]? = some u → w.cell? (ad.add j) = some u) (h1 : ∀ u, u ∈ news → u.oneCell' = true)
    (hmax : m ≤ 1073741824) (hm : 0 < m) :
    ∃ v' w', (Builtin.append_ #[t, t] ty #[.slice b 0 0, .slice p m cp]).run P w = .ok v' w' ∧ w'.ownsRow w.heap.size e ei.size v' m news ∧ w.grownBy w' none := by
  obtain ⟨l, hl0⟩ : ∃ l : Nat, l = 0 := ⟨0, rfl⟩
  obtain ⟨xs, hxs⟩ : ∃ xs : List Value, xs = [] := ⟨[], rfl⟩
  have hu := (hc.tt t ti ht).elem e he
  obtain ⟨i, d, z, hi, hud, hs, hb, hz, hzz, hag, hzl, hza, hz1⟩ := (hc.tt e ei hei).info
  have hpos := (hc.tt e ei hei).pos
  have hzs : z.cells.size = ei.size := by have := (zerosOk_rel w (fun _ => True) hzz).1; simp at this; omega
  have hbytes : (l + m) * i.bytes ≤ 140737488355328 := by
    have : (l + m) * i.bytes ≤ 1073741824 * 1000 := Nat.mul_le_mul (by omega) (by omega)
    omega
  have h63 : l + m ≤ maxLen := by unfold maxLen; omega
  have fresh : ∀ ad, p = some ad → w.ownsRow w.heap.size e ei.size (.slice none 0 0) 0 [] → ∃ v' w', (Builtin.append_ #[t, t] ty #[.slice none 0 0, .slice (some ad) m cp]).run P w = .ok v' w' ∧ w'.ownsRow w.heap.size e ei.size v' m news ∧ w.grownBy w' none := by
    intro ad had hown
    obtain ⟨v', w', hr, ho, hg, _⟩ := run_append_own (P := P) w w.heap.size t ty e i z ei.size i.bytes hu hi hz hs rfl hzs hpos (.slice none 0 0) 0 [] hown ad m cp news hl (hnews ad had) h1 (by omega) (by simp only [Nat.zero_add]; exact Nat.le_trans (Nat.mul_le_mul_right _ (by omega)) hbytes) (Nat.le_refl _)
    simp only [Nat.zero_add, List.nil_append] at ho
    exact ⟨v', w', hr, ho, hg⟩
  have grows : ∀ ad b cap, p = some ad → cap < l + m → xs.length = l * ei.size → (∀ j u, xs[j]? = some u → w.cell? (b.add j) = some u) → ∃ v' w', (Builtin.append_ #[t, t] ty #[.slice (some b) l cap, .slice (some ad) m cp]).run P w = .ok v' w' ∧ w'.ownsRow w.heap.size e ei.size v' (l + m) (xs ++ news) ∧ w.grownBy w' none := by
    intro ad b cap had hlt hxl hold
    exact run_append_arg_grows (P := P) w t ty e i z ei.size i.bytes hu hi hz hs rfl hzs hpos b l cap xs hxl hold ad m cp news hl (hnews ad had) hlt h63 hbytes
  have noth : p = none → news = [] ∧ m = 0 := fun e => ⟨List.eq_nil_of_length_eq_zero (by rw [hl, hp e, Nat.zero_mul]), hp e⟩
  subst hl0 hxs
  cases p with
  | none => have := hp rfl; omega
  | some ad =>
    cases b with
    | none => exact fresh ad rfl (World.ownsRow_nil w _ e ei.size)
    | some b =>
      obtain ⟨v', w', hr, ho, hg⟩ := grows ad b 0 rfl (by omega) (by simp) (fun j u hu => by simp at hu)
      simp only [Nat.zero_add, List.nil_append] at ho
      exact ⟨v', w', hr, ho, hg⟩
end
section
variable {P : Program} {B : Nat} {a : Act} {w : World} {cv : Nat → Option Value} {ob : Nat → Option O} {o : Oper}
structure Src (w : World) (cv : Nat → Option Value) (v : Value) (esz m : Nat) (get : Nat → A) (p : Option Addr) (cp : Nat) (news : List Value) : Prop where
  val : v = .slice p m cp
  len : news.length = m * esz
  none : p = none → m = 0
  cells : ∀ ad, p = some ad → ∀ j u, news[j]? = some u → w.cell? (ad.add j) = some u
  size : ∀ i, i < m → (get i).cells.length = esz
  rel : ∀ i j, i < m → j < esz → ((get i).cells.getD j .any).flat = true ∧ RelD w (Sx w cv) (news.getD (i * esz + j) undef) ((get i).cells.getD j .any)
theorem Src.one {v : Value} {esz m cp : Nat} {get : Nat → A} {p : Option Addr} {news : List Value} (h : Src w cv v esz m get p cp news) (hpos : 0 < esz) : ∀ u, u ∈ news → u.oneCell' = true := by
  intro u hu
  obtain ⟨k, hk⟩ := List.mem_iff_getElem?.1 hu
  have hkl : k < m * esz := by have := (List.getElem?_eq_some_iff.1 hk).1; rw [h.len] at this; exact this
  have hi : k / esz < m := (Nat.div_lt_iff_lt_mul hpos).2 hkl
  have hj : k % esz < esz := Nat.mod_lt _ hpos
  have hr := h.rel (k / esz) (k % esz) hi hj
  have e : k / esz * esz + k % esz = k := by rw [Nat.mul_comm]; exact Nat.div_add_mod k esz
  have hn : news.getD k undef = u := by simp [List.getD, hk]
  rw [e, hn] at hr
  exact (hr.2.flat_one hr.1).1
omit [XS] in
theorem add_add (ad : Addr) (b o j : Nat) (h : ad = ⟨b, o, none⟩) : ad.add j = ⟨b, o + j, none⟩ := by subst h; exact add_off b o j
theorem src_ro {v : Value} {esz m : Nat} {get : Row A} (h : RelD w (Sx w cv) v (.ro esz m get)) (hpos : 0 < esz) : ∃ p cp news, Src w cv v esz m get p cp news := by
  cases h with
  | @ro p cp _ _ _ b o hk f ha hz hc hf hr =>
    refine ⟨p, cp, (List.range (m * esz)).map fun k => f (k / esz) (k % esz), rfl, by simp, fun hp => ?_, fun ad had j u hu => ?_, hz, fun i j hi hj => ⟨hf i j hi hj, ?_⟩⟩
    · by_cases h0 : 0 < m
      · rw [(ha h0).1] at hp; cases hp
      · omega
    · obtain ⟨hlt, hv⟩ := List.getElem?_eq_some_iff.1 hu
      have hlt' : j < m * esz := by simpa using hlt
      have hi : j / esz < m := (Nat.div_lt_iff_lt_mul hpos).2 hlt'
      have hm : 0 < m := Nat.lt_of_le_of_lt (Nat.zero_le _) hi
      have := (ha hm).1
      rw [this] at had
      injection had with had
      rw [add_add ad b o j had.symm]
      have h2 := hc (j / esz) (j % esz) hi (Nat.mod_lt _ hpos)
      have e : j / esz * esz + j % esz = j := by rw [Nat.mul_comm]; exact Nat.div_add_mod j esz
      rw [e] at h2
      rw [h2, ← hv]
      simp
    · have hlt := mul_lt hi hj
      have h1 : (i * esz + j) / esz = i := by rw [Nat.mul_comm, Nat.mul_add_div hpos, Nat.div_eq_of_lt hj, Nat.add_zero]
      have h2 : (i * esz + j) % esz = j := by rw [Nat.mul_comm, Nat.mul_add_mod, Nat.mod_eq_of_lt hj]
      simp only [List.getD, List.getElem?_map, List.getElem?_range hlt, Option.map_some, Option.getD_some, h1, h2]
      exact hr i j hi hj
theorem src_sl {ob : Nat → Option O} {v : Value} {id e esz m len : Nat} {get : Row A} (hm : MemOK B w cv ob) (hx : Rel w cv v (.sl id len)) (hid : ob id = some (.row e esz m get)) : ∃ p cp news, Src w cv v esz m get p cp news := by
  obtain ⟨⟨u, E, xs, hcv, hown, hE, hpos, hz, hrel⟩, _⟩ := hm.obj id _ hid
  obtain ⟨rfl, p, c, hu⟩ := hx.sl_inv hcv
  obtain ⟨hxl, hown⟩ := hown
  rcases hown with ⟨hnil, rfl⟩ | ⟨g, cap, cur, hv, hgB, hheap, hle, hcm, hcs, htake⟩
  · exact ⟨none, 0, xs, hnil, hxl, fun _ => rfl, (fun ad had => by cases had), (fun i hi => by omega), (fun i j hi => by omega)⟩
  · refine ⟨some ⟨g, 0, none⟩, cap, xs, hv, hxl, (fun h => by cases h), fun ad had j z hj => ?_, hz, hrel⟩
    injection had with had
    rw [add_add ad g 0 j had.symm, Nat.zero_add, cell_of_row w g j cur E (0, 0) hheap]
    rw [← htake, List.getElem?_take] at hj
    split at hj
    · simpa using hj
    · cases hj
omit [XS] in
theorem exec_append {o : Oper} {c : Call} (ho : o.op = .call c) (hb : c.callee = .builtin .append) {x y : Operand} (hargs : c.args.toList = [x, y]) {t : Nat} (hts : c.argTypes.toList = [t, t]) {v : Value} {w' : World}
    (hr : (Builtin.append_ #[t, t] o.type #[a.eval x, a.eval y]).run P w = .ok v w') : (execOp a.eval o).run P w = .ok (.value v) w' := by
  refine execOp_builtin ho hb (f := Builtin.append_) (fun _ _ _ _ => rfl) ?_
  have hts' : c.argTypes = #[t, t] := by have := congrArg List.toArray hts; simpa using this
  rw [args2 hargs, hts']
  simpa using hr
theorem q_append {cfg : Cfg} (hc : CfgOK P cfg) {c : Call} (ho : o.op = .call c) (hb : c.callee = .builtin .append) {x y : Operand} (hargs : c.args.toList = [x, y]) {t e : Nat} (hts : c.argTypes.toList = [t, t])
    {ti ei : TI} (ht : cfg.tt t = some ti) (he : ti.elem = some e) (hei : cfg.tt e = some ei) (hby : ei.bytes ≤ 1000) (hx : Rel w cv (a.eval x) .emp)
    {m : Nat} {getx : Row A} (hsrc : ∃ p cp news, Src w cv (a.eval y) ei.size m getx.at p cp news) (hm : 0 < m) (hmax : m ≤ 1073741824) {base : Nat} (hf : cv base = none) (hBw : B ≤ w.heap.size) :
    QSound P B cv ob o a w (.sl base m) [(base, .row e ei.size m getx)] := by
  obtain ⟨p, cp, news, hs⟩ := hsrc
  obtain ⟨b, hu⟩ := hx.emp_inv
  have hpos := (hc.tt e ei hei).pos
  obtain ⟨v', w', hr, hown, hg⟩ := append_emp (P := P) (ty := o.type) hc ht he hei hby b hs.len hs.none hs.cells (hs.one hpos) hmax hm
  have hrun := exec_append ho hb hargs hts (v := v') (w' := w') (by rw [hu, hs.val]; exact hr)
  have hgrow : Grow w w' := ⟨hg.os, hg.tape, hg.output, hg.size, fun k hk => hg.block k hk (by simp)⟩
  have hvs : ∃ p c, v' = .slice p m c := by
    rcases hown.2 with ⟨rfl, h2⟩ | ⟨g, cap, cur, rfl, _⟩
    · exact ⟨_, _, by rw [h2]⟩
    · exact ⟨_, _, rfl⟩
  have hvb : ∀ bb, blk v' = some bb → w.heap.size ≤ bb ∧ bb < w'.heap.size := by
    intro bb hbb
    obtain ⟨p', c', rfl⟩ := hvs
    refine hown.lt bb ?_
    cases p' <;> simp [blk] at hbb
    simp [Value.ownBlock, hbb]
  have hst : CvStep B w w' cv (upd cv base v') := by
    refine ⟨hgrow, fun id u' hu' => ?_, fun id u' hu' => ?_⟩
    · rw [upd_other cv v' (fun e' => by rw [e', hf] at hu'; cases hu')]; exact hu'
    · by_cases e' : id = base
      · subst e'
        rw [upd_same] at hu'
        injection hu' with hu'
        subst hu'
        exact .inr ⟨hf, hvb⟩
      · rw [upd_other cv v' e'] at hu'; exact .inl hu'
  intro K Q hK
  show o.upon P a K Q _
  rw [hrun]
  refine hK v' w' (upd cv base v') hst (fun id o' hl => ?_) (fun id u' hu' => ?_) (fun i j u1 u2 bb hi hj hni hnj _ _ => ?_) (.sl fun z hz => ?_) (fun id hid => ?_)
  · simp only [look] at hl
    split at hl
    · rename_i hbq
      have e' := Nat.eq_of_beq_eq_true hbq
      subst e'
      injection hl with hl
      subst hl
      refine ⟨⟨v', e, news, upd_same _ _ _, ⟨hown.1, ?_⟩, fun _ => rfl, hpos, hs.size, fun i j hi hj => ⟨(hs.rel i j hi hj).1, (hs.rel i j hi hj).2.mono hst.sx⟩⟩, fun i hi => by simp [O.has] at hi⟩
      rcases hown.2 with h4 | ⟨g, cap, cur, h5, h6, h7⟩
      · exact .inl h4
      · exact .inr ⟨g, cap, cur, h5, Nat.le_trans hBw h6, h7⟩
    · cases hl
  · by_cases e' : id = base
    · subst e'; exact .inr ⟨_, by simp [look]; rfl⟩
    · rw [upd_other cv v' e'] at hu'; exact .inl hu'
  · have ei' : i = base := by
      by_cases e' : i = base
      · exact e'
      · rw [upd_other cv v' e', hni] at hi; cases hi
    have ej' : j = base := by
      by_cases e' : j = base
      · exact e'
      · rw [upd_other cv v' e', hnj] at hj; cases hj
    rw [ei', ej']
  · rw [upd_same] at hz
    injection hz with hz
    obtain ⟨p', c', rfl⟩ := hvs
    exact ⟨hz, p', c', hz.symm⟩
  · simp only [A.has] at hid
    have := Nat.eq_of_beq_eq_true hid
    subst this
    exact .inr ⟨_, by simp [look]; rfl⟩
theorem q_newRow {v' : Value} {w' : World} {e esz m : Nat} {get : Row A} {news : List Value} {base : Nat} (hrun : (execOp a.eval o).run P w = .ok (.value v') w') (hown : w'.ownsRow w.heap.size e esz v' m news) (hg : w.grownBy w' none) (hpos : 0 < esz)
    (hsize : ∀ i, i < m → (get i).cells.length = esz) (hrel : ∀ i j, i < m → j < esz → ((get i).cells.getD j .any).flat = true ∧ RelD w (Sx w cv) (news.getD (i * esz + j) undef) ((get i).cells.getD j .any)) (hf : cv base = none) (hBw : B ≤ w.heap.size) :
    QSound P B cv ob o a w (.sl base m) [(base, .row e esz m get)] := by
  have hgrow : Grow w w' := ⟨hg.os, hg.tape, hg.output, hg.size, fun k hk => hg.block k hk (by simp)⟩
  have hvs : ∃ p c, v' = .slice p m c := by
    rcases hown.2 with ⟨rfl, h2⟩ | ⟨g, cap, cur, rfl, _⟩
    · exact ⟨_, _, by rw [h2]⟩
    · exact ⟨_, _, rfl⟩
  have hvb : ∀ bb, blk v' = some bb → w.heap.size ≤ bb ∧ bb < w'.heap.size := by
    intro bb hbb
    obtain ⟨p', c', rfl⟩ := hvs
    refine hown.lt bb ?_
    cases p' <;> simp [blk] at hbb
    simp [Value.ownBlock, hbb]
  have hst : CvStep B w w' cv (upd cv base v') := by
    refine ⟨hgrow, fun id u' hu' => ?_, fun id u' hu' => ?_⟩
    · rw [upd_other cv v' (fun e' => by rw [e', hf] at hu'; cases hu')]; exact hu'
    · by_cases e' : id = base
      · subst e'
        rw [upd_same] at hu'
        injection hu' with hu'
        subst hu'
        exact .inr ⟨hf, hvb⟩
      · rw [upd_other cv v' e'] at hu'; exact .inl hu'
  intro K Q hK
  show o.upon P a K Q _
  rw [hrun]
  refine hK v' w' (upd cv base v') hst (fun id o' hl => ?_) (fun id u' hu' => ?_) (fun i j u1 u2 bb hi hj hni hnj _ _ => ?_) (.sl fun z hz => ?_) (fun id hid => ?_)
  · simp only [look] at hl
    split at hl
    · rename_i hbq
      have e' := Nat.eq_of_beq_eq_true hbq
      subst e'
      injection hl with hl
      subst hl
      refine ⟨⟨v', e, news, upd_same _ _ _, ⟨hown.1, ?_⟩, fun _ => rfl, hpos, hsize, fun i j hi hj => ⟨(hrel i j hi hj).1, (hrel i j hi hj).2.mono hst.sx⟩⟩, fun i hi => by simp [O.has] at hi⟩
      rcases hown.2 with h4 | ⟨g, cap, cur, h5, h6, h7⟩
      · exact .inl h4
      · exact .inr ⟨g, cap, cur, h5, Nat.le_trans hBw h6, h7⟩
    · cases hl
  · by_cases e' : id = base
    · subst e'; exact .inr ⟨_, by simp [look]; rfl⟩
    · rw [upd_other cv v' e'] at hu'; exact .inl hu'
  · have ei' : i = base := by
      by_cases e' : i = base
      · exact e'
      · rw [upd_other cv v' e', hni] at hi; cases hi
    have ej' : j = base := by
      by_cases e' : j = base
      · exact e'
      · rw [upd_other cv v' e', hnj] at hj; cases hj
    rw [ei', ej']
  · rw [upd_same] at hz
    injection hz with hz
    obtain ⟨p', c', rfl⟩ := hvs
    exact ⟨hz, p', c', hz.symm⟩
  · simp only [A.has] at hid
    have := Nat.eq_of_beq_eq_true hid
    subst this
    exact .inr ⟨_, by simp [look]; rfl⟩
omit [XS] in
theorem exec_appendZ {o : Oper} {c : Call} (ho : o.op = .call c) (hb : c.callee = .builtin .append) {x y : Operand} (hargs : c.args.toList = [x, y]) {t t' : Nat} (hts : c.argTypes.toList = [t, t']) {v : Value} {w' : World}
    (hr : (Builtin.append_ #[t, t'] o.type #[a.eval x, a.eval y]).run P w = .ok v w') : (execOp a.eval o).run P w = .ok (.value v) w' := by
  refine execOp_builtin ho hb (f := Builtin.append_) (fun _ _ _ _ => rfl) ?_
  have hts' : c.argTypes = #[t, t'] := by have := congrArg List.toArray hts; simpa using this
  rw [args2 hargs, hts']
  simpa using hr
omit [XS] in
theorem zeroCells_toList_getD (z : Array Value) (n p : Nat) (hz : 0 < z.size) (hp : p < n * z.size) : (Builtin.zeroCells z n).toList.getD p undef = z.getD (p % z.size) undef := by
  have hm : p % z.size < z.size := Nat.mod_lt _ hz
  simp [Builtin.zeroCells, List.getD, hp, hm]
theorem q_appendZ {cfg : Cfg} (hc : CfgOK P cfg) {c : Call} (ho : o.op = .call c) (hb : c.callee = .builtin .append) {x y : Operand} (hargs : c.args.toList = [x, y]) {t t' e : Nat} (hts : c.argTypes.toList = [t, t'])
    {ti ei ti' : TI} (ht : cfg.tt t = some ti) (he : ti.elem = some e) (hei : cfg.tt e = some ei) (hby : ei.bytes ≤ 1000) (ht' : cfg.tt t' = some ti') {k : IntKind} (hk : ti'.ik = some k) (hx : Rel w cv (a.eval x) .emp)
    {k2 : IntKind} {n : Int} (hy : a.eval y = .int k2 n) (hn : 0 < n) (hn2 : n ≤ 1073741824) {base : Nat} (hf : cv base = none) (hBw : B ≤ w.heap.size) :
    QSound P B cv ob o a w (.sl base n.toNat) [(base, .row e ei.size n.toNat (.rep (match ei.agg with | true => .agg ei.zero | false => ei.zero.getD 0 .any)))] := by
  have hu := (hc.tt t ti ht).elem e he
  have hu2 := (hc.tt t' ti' ht').ik k hk
  obtain ⟨i, d, z, hi, hud, hs, hb1, hz, hzz, hag, hzl, hza, hz1⟩ := (hc.tt e ei hei).info
  have hb' : i.bytes ≤ 1000 := by rw [hb1]; exact hby
  have hpos := (hc.tt e ei hei).pos
  have hzr := zerosOk_rel w (Sx w cv) hzz
  have hzs : z.cells.size = ei.size := by have := hzr.1; simp at this; omega
  obtain ⟨m, rfl⟩ : ∃ m : Nat, n = m := ⟨n.toNat, by omega⟩
  have hm : 0 < m := by omega
  have hm2 : m ≤ 1073741824 := by omega
  obtain ⟨b, hu3⟩ := hx.emp_inv
  have hbytes : m * i.bytes ≤ 140737488355328 := by
    have : m * i.bytes ≤ 1073741824 * 1000 := Nat.mul_le_mul hm2 hb'
    omega
  have hold : (Builtin.firstCells i.size 0 (.slice b 0 0)).run P w.drew = .ok (([] : List Value).toArray) w.drew := by
    cases b with
    | none => exact run_firstCells_none w.drew i.size 0 0 0
    | some ad => exact run_firstCells_some w.drew i.size 0 ad 0 0 [] (by simp) (fun j v hj => by simp at hj)
  have hr := Lib.run_append_grow_zeros w t t' o.type e i z k2 k hu hu2 hi hz b 0 0 [] hold m hm (by omega) (by omega) (by omega) (by omega) (growslice_fits (by omega) (by simpa using hbytes))
  rw [Nat.zero_add] at hr
  have hge := grownCap_ge w m 0 e
  have hcm := grownCap_le_maxLen w m 0 e (by unfold maxLen; omega)
  have hrun := exec_appendZ (a := a) (w := w) ho hb hargs hts (by rw [hu3, hy]; exact hr)
  show QSound P B cv ob o a w (.sl base m) [(base, .row e ei.size m _)]
  have hsz : ∀ q, (Builtin.zeroCells z.cells q).size = q * ei.size := fun q => by rw [size_zeroCells, hzs]
  refine q_newRow (news := (Builtin.zeroCells z.cells m).toList) hrun ⟨by simp [hsz], .inr ⟨w.heap.size, _, _, rfl, Nat.le_refl _, heap_alloc_new w.drew _, hge, hcm, ?_, ?_⟩⟩ ⟨rfl, rfl, rfl, by simp, fun k hk _ => heap_alloc_old w.drew _ hk⟩ hpos (fun q _ => ?_) (fun q j hq hj => ?_) hf hBw
  · simp only [Array.size_append, hsz, List.size_toArray, List.length_nil, Nat.zero_add, ← Nat.add_mul]
    congr 1
    omega
  · have e1 : m * ei.size = (Builtin.zeroCells z.cells m).toList.length := by simp [hsz]
    simp only [Array.toList_append, List.nil_append]
    rw [e1]
    exact List.take_left
  · rw [Row.rep_at]
    cases hagg : ei.agg
    · show (ei.zero.getD 0 .any).cells.length = ei.size
      have h1 := hz1 hagg
      have := (hzr.2 0 (by omega)).2.2.1
      rw [flat_cells this]
      simp [h1]
    · show (A.agg ei.zero).cells.length = ei.size
      simpa [A.cells] using hzl
  · have hcell : (match ei.agg with | true => A.agg ei.zero | false => ei.zero.getD 0 .any).cells.getD j .any = ei.zero.getD j .any := by
      cases hagg : ei.agg
      · have h1 := hz1 hagg
        have h0 : j = 0 := by omega
        subst h0
        simp only
        have := (hzr.2 0 (by omega)).2.2.1
        rw [flat_cells this]
        rfl
      · rfl
    rw [Row.rep_at]
    show A.flat ((match ei.agg with | true => A.agg ei.zero | false => ei.zero.getD 0 .any).cells.getD j .any) = true ∧ RelD w _ _ ((match ei.agg with | true => A.agg ei.zero | false => ei.zero.getD 0 .any).cells.getD j .any)
    have hlt := mul_lt hq hj
    rw [hcell, zeroCells_toList_getD _ _ _ (by omega) (by rw [hzs]; exact hlt)]
    have hmod : (q * ei.size + j) % z.cells.size = j := by
      rw [hzs, Nat.add_comm, Nat.add_mul_mod_self_right, Nat.mod_eq_of_lt hj]
    rw [hmod]
    have h2 := hzr.2 j (by omega)
    rw [toList_getD] at h2
    exact ⟨h2.2.2.1, h2.1⟩
theorem q_eqlNil {cfg : Cfg} (hc : CfgOK P cfg) {t e t' : Nat} {ti : TI} (ht : cfg.tt t = some ti) (he : ti.elem = some e) {x : Operand} (ho : o.op = .binOp .eql t x (.const (.slice none 0 0)) t') (hm : MemOK B w cv ob)
    (hv : ∃ p n c, a.eval x = .slice (some p) n c) : QSound P B cv ob o a w (.bool false) [] := by
  obtain ⟨p, n, c, hv⟩ := hv
  have hu := (hc.tt t ti ht).elem e he
  refine QSound.value (.bool false) w (execOp_binOp ho (by rw [hv]; rfl) ?_) (Grow.refl w) (.data (.bool _)) (live_bool _) hm
  rw [hv]
  show (binOp .eql t (.slice (some p) n c) (.slice none 0 0)).run P w = .ok (.bool false) w
  simp only [binOp]
  simp [Op.equal, Op.maxDepth, Lib.run_equalIn_slice_nil w 9999 t e (some p) n c 0 0 hu]
theorem evalNew_sound {cfg : Cfg} (hc : CfgOK P cfg) {get : Nat → A} {obj : Nat → Option O} {own : Bool} {base : Nat} {c : Bool} {x : A} {os : List (Nat × O)}
    (h : evalNew cfg get obj own base o = some (c, x, os)) (hct : c = true) (hs : Slots w cv ob a get) (hob : ∀ i o', obj i = some o' → ob i = some o') (hm : MemOK B w cv ob)
    (hBw : B ≤ w.heap.size) (hXw : XS.Bx ≤ w.heap.size) (hfresh : ∀ id, base ≤ id → id < base + 16 → ob id = none) : QSound P B cv ob o a w x os := by
  have hf : cv base = none := by
    cases hcv : cv base with
    | none => rfl
    | some u =>
      obtain ⟨o', ho'⟩ := (hm.dom base u hcv).1
      rw [hfresh base (Nat.le_refl _) (by omega)] at ho'
      cases ho'
  unfold evalNew at h
  split at h
  · -- an empty slice literal
    rename_i t parts ho
    split at h
    · rename_i ti ht
      split at h
      · rename_i e he
        split at h
        · rename_i ei hei
          split at h
          · rename_i hp
            simp only [Option.some.injEq, Prod.mk.injEq] at h
            obtain ⟨_, rfl, rfl⟩ := h
            have hu := (hc.tt t ti ht).elem e he
            obtain ⟨i, d, z, hi, hud, hsz, hb, hz, hzz, hag, hzl, hza, hz1⟩ := (hc.tt e ei hei).info
            refine QSound.value' (.slice (some ⟨w.heap.size, 0, none⟩) 0 0) (w.alloc (.cells #[] e)) ?_ (Grow.alloc _ _) (.data (.emp _)) (fun id hid => by simp [A.has] at hid)
            have hpa : parts = #[] := by have := congrArg List.toArray hp; simpa using this
            simp only [execOp, ho, Sem.run_bind]
            subst hpa
            unfold Instr.buildSlice
            have hr0 : Array.range 0 = #[] := rfl
            simp [run_underlying hu, run_sizeOf hi, Instr.fill, newRow, hr0]
          · cases h
        · cases h
      · cases h
    · cases h
  · -- a comparison with nil
    rename_i t y t' ho
    have hy := hs.opd y
    split at h
    · rename_i ti ht
      split at h
      · rename_i e he
        split at h
        · rename_i esz len get' hx
          simp only [Option.some.injEq, Prod.mk.injEq] at h
          obtain ⟨h1, rfl, rfl⟩ := h
          rw [← h1] at hct
          have hpos := of_decide_eq_true hct
          rw [hx] at hy
          refine q_eqlNil hc ht he ho hm ?_
          have hro := hy.1.ro_inv
          revert hro
          generalize a.eval y = z
          intro hro
          cases hro with
          | ro hk f ha => exact ⟨_, _, _, by rw [(ha hpos).1]⟩
        · rename_i id len hx
          split at h
          · rename_i e0 esz l g hid
            simp only [Option.some.injEq, Prod.mk.injEq] at h
            obtain ⟨h1, rfl, rfl⟩ := h
            rw [← h1] at hct
            have hpos := of_decide_eq_true hct
            rw [hx] at hy
            obtain ⟨⟨u, E, xs, hcv, hown, _⟩, _⟩ := hm.obj id _ (hob _ _ hid)
            obtain ⟨hu, _⟩ := hy.1.sl_inv hcv
            refine q_eqlNil hc ht he ho hm ?_
            rcases hown.2 with ⟨_, h0⟩ | ⟨g', cap, cur, hv, _⟩
            · omega
            · exact ⟨_, _, _, hu.trans hv⟩
          · cases h
        · cases h
      · cases h
    · cases h
  · -- append onto nothing
    rename_i cl ho
    split at h
    · rename_i s y t t' hb hargs hts
      split at h
      · rename_i ti h1 ht
        have e1 := Nat.eq_of_beq_eq_true h1
        subst e1
        split at h
        · rename_i e he
          split at h
          · rename_i ei hei
            split at h
            · rename_i hby hx
              have hb1 := Nat.le_of_ble_eq_true hby
              have rs := hs.opd s
              rw [hx] at rs
              have ry := hs.opd y
              have hpos := (hc.tt e ei hei).pos
              split at h
              · rename_i esz m getx hy
                split at h
                · rename_i hbe
                  have e2 := Nat.eq_of_beq_eq_true hbe
                  subst e2
                  simp only [Option.some.injEq, Prod.mk.injEq] at h
                  obtain ⟨h2, rfl, rfl⟩ := h
                  rw [← h2] at hct
                  simp only [Bool.and_eq_true, decide_eq_true_eq] at hct
                  rw [hy] at ry
                  exact q_append hc ho hb hargs hts ht he hei hb1 rs.1 (src_ro ry.1.ro_inv hpos) hct.1 hct.2 hf hBw
                · cases h
              · rename_i id len hy
                split at h
                · rename_i e0 esz m getx hid
                  split at h
                  · rename_i hbe
                    have e2 := Nat.eq_of_beq_eq_true hbe
                    subst e2
                    simp only [Option.some.injEq, Prod.mk.injEq] at h
                    obtain ⟨h2, rfl, rfl⟩ := h
                    rw [← h2] at hct
                    simp only [Bool.and_eq_true, decide_eq_true_eq] at hct
                    rw [hy] at ry
                    exact q_append hc ho hb hargs hts ht he hei hb1 rs.1 (src_sl hm ry.1 (hob _ _ hid)) hct.1 hct.2 hf hBw
                  · cases h
                · cases h
              · cases h
            · cases h
          · cases h
        · cases h
      · rename_i hbb ti ht
        split at h
        · rename_i e ti' he ht'
          split at h
          · rename_i k ei k2 n hk hei hx hy
            split at h
            · rename_i hby
              simp only [Option.some.injEq, Prod.mk.injEq] at h
              obtain ⟨h1, rfl, rfl⟩ := h
              rw [← h1] at hct
              simp only [Bool.and_eq_true, decide_eq_true_eq] at hct
              have rs := hs.opd s
              rw [hx] at rs
              have ry := hs.opd y
              rw [hy] at ry
              exact q_appendZ hc ho hb hargs hts ht he hei (Nat.le_of_ble_eq_true hby) ht' hk rs.1 ry.1.int_inv hct.1 hct.2 hf hBw
            · cases h
          · cases h
        · cases h
      · cases h
    · cases h
  · cases h
theorem evalX_sound {cfg : Cfg} (hc : CfgOK P cfg) {get : Nat → A} {obj : Nat → Option O} {own : Bool} {base : Nat} {c : Bool} {x : A} {os : List (Nat × O)}
    (h : evalX cfg get obj own base o = some (c, x, os)) (hct : c = true) (hs : Slots w cv ob a get) (hob : ∀ i o', obj i = some o' → ob i = some o') (hm : MemOK B w cv ob)
    (hBw : B ≤ w.heap.size) (hXw : XS.Bx ≤ w.heap.size) (hfresh : ∀ id, base ≤ id → id < base + 16 → ob id = none) : QSound P B cv ob o a w x os := by
  unfold evalX at h
  split at h
  · rename_i r hr
    injection h with h
    subst h
    exact evalNew_sound hc hr hct hs hob hm hBw hXw hfresh
  · exact evalQ_sound hc h hct hs hob hm hBw hXw hfresh
end
end Go.Fw

/-
  One operation of a region, from an abstract state to the next.
-/
namespace Go.Fw
variable [XS]
open Go.RowKit (Below)
def StepOK (P : Program) (ops : Array Oper) (Q : Exit → Act → World → Prop) (o : Oper) (K : Act → World → Prop) (a : Act) (w : World) : Prop :=
  (Region.wanted o (yielded ops a.tmps) = true → o.wp P a w K Q) ∧ (Region.wanted o (yielded ops a.tmps) = false → K (a.put o.dst undef) w)
omit [XS] in
theorem StepOK.wpOp {P : Program} {ops : Array Oper} {Q : Exit → Act → World → Prop} {o : Oper} {K : Act → World → Prop} {a : Act} {w : World} {i : Nat} (hi : ops[i]? = some o) (h : StepOK P ops Q o K a w) :
    wpOp P ops Q i K a w := by
  unfold Go.wpOp
  rw [hi]
  simp only
  cases hw : Region.wanted o (yielded ops a.tmps)
  · simp only [Bool.false_eq_true, if_false]; exact h.2 hw
  · simp only [if_true]; exact .inl (h.1 hw)
omit [XS] in
theorem put_size (a : Act) (d : Option Nat) (v : Value) : (a.put d v).tmps.size = a.tmps.size := by
  cases d <;> simp [Act.put]
omit [XS] in
theorem put_defers (a : Act) (d : Option Nat) (v : Value) : (a.put d v).defers = a.defers := by
  cases d <;> simp [Act.put]
omit [XS] in
theorem put_same (a : Act) (d : Nat) (v : Value) (h : d < a.tmps.size) : (a.put (some d) v).tmps.getD d undef = v := by
  simp [Act.put, Array.getD, h]
omit [XS] in
theorem put_other (a : Act) (d t : Nat) (v : Value) (h : t ≠ d) : (a.put (some d) v).tmps.getD t undef = a.tmps.getD t undef := by
  simp only [Act.put, Array.getD, Array.size_setIfInBounds]
  by_cases ht : t < a.tmps.size
  · simp [ht, Array.getElem_setIfInBounds, Ne.symm h]
  · simp [ht]
omit [XS] in
theorem blt_lt {a b : Nat} (h : Nat.blt a b = true) : a < b := Nat.le_of_ble_eq_true h
omit [XS] in
theorem grdAt_t {gs : List Grd} {t : Nat} {g : Grd} (h : grdAt gs t = some g) : g.t = t := by
  induction gs with
  | nil => cases h
  | cons x r ih =>
    simp only [grdAt] at h
    split at h
    · rename_i hb
      injection h with h
      subst h
      exact Nat.eq_of_beq_eq_true hb
    · exact ih h
omit [XS] in
theorem grdAt_mem {gs : List Grd} {t : Nat} {g : Grd} (h : grdAt gs t = some g) : g ∈ gs := by
  induction gs with
  | nil => cases h
  | cons x r ih =>
    simp only [grdAt] at h
    split at h
    · injection h with h; subst h; exact List.mem_cons_self
    · exact List.mem_cons_of_mem _ (ih h)
omit [XS] in
theorem grdFree_mem {gs : List Grd} {d : Nat} (h : grdFree gs d = true) : ∀ g, g ∈ gs → g.s ≠ d ∧ g.t ≠ d := by
  induction gs with
  | nil => intro g hg; cases hg
  | cons x r ih =>
    intro g hg
    simp only [grdFree] at h
    split at h
    · rename_i h1 h2
      rcases List.mem_cons.1 hg with rfl | hg
      · exact ⟨Nat.ne_of_beq_eq_false h1, Nat.ne_of_beq_eq_false h2⟩
      · exact ih h g hg
    · cases h
omit [XS] in
theorem grdFree_none {gs : List Grd} {d : Nat} (h : grdFree gs d = true) : grdAt gs d = none := by
  cases hg : grdAt gs d with
  | none => rfl
  | some g => exact absurd (grdAt_t hg) (grdFree_mem h g (grdAt_mem hg)).2
omit [XS] in
theorem look_cons_same {β : Type} (d : Nat) (x : β) (r : List (Nat × β)) : look ((d, x) :: r) d = some x := by
  simp [look]
omit [XS] in
theorem look_cons_other {β : Type} {d t : Nat} (x : β) (r : List (Nat × β)) (h : t ≠ d) : look ((d, x) :: r) t = look r t := by
  have : Nat.beq d t = false := by
    cases hb : Nat.beq d t
    · rfl
    · exact absurd (Nat.eq_of_beq_eq_true hb).symm h
  simp [look, this]
omit [XS] in
theorem gcond_of {σ σ' : St} {s : Nat} {w : Bool} (h1 : grdAt σ'.grds s = grdAt σ.grds s) (h2 : look σ'.tmps s = look σ.tmps s) (h3 : ∀ g, grdAt σ.grds s = some g → look σ'.tmps g.s = look σ.tmps g.s) :
    gcond σ' s w = gcond σ s w := by
  unfold gcond
  rw [h1]
  cases hg : grdAt σ.grds s with
  | none => simp only [St.get, h2]
  | some g => simp only [St.get, h3 g hg]
section
variable {P : Program} {B : Nat} {w0 : World} {U : Nat → Prop} {G : Value → A → Prop} {σ : St} {a : Act} {w : World} {cv : Nat → Option Value}
theorem SRcv.get (h : SRcv B w0 U G σ a w cv) (t : Nat) : Rel w cv (a.tmps.getD t undef) (σ.get t) ∧ Live σ.obj (σ.get t) := by
  unfold St.get
  cases hl : look σ.tmps t with
  | none => exact ⟨.any _, fun id hid => by simp [A.has] at hid⟩
  | some x => exact h.slot t x hl
omit [XS] in
theorem live_any {ob : Nat → Option O} : Live ob .any := fun id hid => by simp [A.has] at hid
theorem SRcv.slots0 (h : SRcv B w0 U G σ a w cv) : Slots w cv σ.obj a σ.get0 := by
  refine ⟨fun t => ?_, fun t => ?_⟩
  · unfold St.get0
    split
    · exact (h.get t).1
    · exact .any _
  · unfold St.get0
    split
    · exact (h.get t).2
    · exact live_any
theorem SRcv.slotsG (h : SRcv B w0 U G σ a w cv) {s : Nat} {b : Bool} (hg : gcond σ s b = some true) : Slots w cv σ.obj a (σ.getG s b) := by
  have key : ∀ t, Rel w cv (a.tmps.getD t undef) (σ.getG s b t) ∧ Live σ.obj (σ.getG s b t) := by
    intro t
    unfold St.getG
    split
    · exact h.get t
    · rename_i g hgt
      obtain ⟨_, _, c, hc, hrel, _⟩ := h.grd t g hgt
      split
      · rename_i hb
        simp only [Bool.and_eq_true, beq_iff_eq] at hb
        have e := Nat.eq_of_beq_eq_true hb.1
        rw [e, hb.2, hg] at hc
        injection hc with hc
        exact hrel hc.symm
      · split
        · exact ⟨.any _, live_any⟩
        · rename_i g2 hg2
          split
          · rename_i hb
            simp only [Bool.and_eq_true, beq_iff_eq] at hb
            have e := Nat.eq_of_beq_eq_true hb.1
            obtain ⟨_, _, c2, hc2, _, _⟩ := h.grd s g2 hg2
            have hc2t : c2 = true := by
              unfold gcond at hg
              rw [hg2] at hg
              simp only at hg
              split at hg
              · rename_i bb b0 _ hget
                injection hg with hg
                simp only [Bool.and_eq_true] at hg
                unfold gcond at hc2
                have hno : grdAt σ.grds g2.s = none := by
                  cases hn : grdAt σ.grds g2.s with
                  | none => rfl
                  | some g3 =>
                    obtain ⟨_, hl, _⟩ := h.grd g2.s g3 hn
                    simp only [St.get, hl] at hget
                    cases hget
                rw [hno] at hc2
                simp only [hget, Option.some.injEq] at hc2
                rw [← hc2]
                exact hg.1
              · cases hg
            rw [e, hb.2, hc2] at hc
            injection hc with hc
            exact hrel (by rw [← hc]; exact hc2t)
          · exact ⟨.any _, live_any⟩
  exact ⟨fun t => (key t).1, fun t => (key t).2⟩
theorem SRcv.wanted (h : SRcv B w0 U G σ a w cv) {ops : Array Oper} {o : Oper} {s : Nat} {b gc : Bool} (hgd : guardOf ops o = some (some (s, b))) (hg : gcond σ s b = some gc) : Region.wanted o (yielded ops a.tmps) = gc := by
  unfold guardOf at hgd
  split at hgd
  · cases hgd
  · rename_i j want hguard
    split at hgd
    · rename_i oj hoj
      split at hgd
      · rename_i s' hs'
        simp only [Option.some.injEq, Prod.mk.injEq] at hgd
        obtain ⟨rfl, rfl⟩ := hgd
        have hy : yielded ops a.tmps j = match a.tmps[s']? with | some (.bool b) => some b | _ => none := by
          unfold yielded
          rw [hoj]
          simp only [Option.bind_some, hs']
          cases a.tmps[s']? with
          | none => rfl
          | some v => cases v <;> rfl
        have hy2 : ∀ x : Bool, a.tmps.getD s' undef = .bool x → yielded ops a.tmps j = some x := by
          intro x hx
          rw [hy]
          have : a.tmps[s']? = some (.bool x) := by
            by_cases hlt : s' < a.tmps.size
            · simp [Array.getD, hlt] at hx; simp [hlt, hx]
            · simp [Array.getD, hlt, undef] at hx
          rw [this]
        have hy3 : a.tmps.getD s' undef = undef → yielded ops a.tmps j = none := by
          intro hx
          rw [hy]
          by_cases hlt : s' < a.tmps.size
          · simp [Array.getD, hlt] at hx; simp [hlt, hx, undef]
          · simp [hlt]
        unfold Region.wanted
        rw [hguard]
        simp only
        unfold gcond at hg
        split at hg
        · split at hg
          · rename_i x hget
            injection hg with hg
            have := (h.get s').1
            rw [hget] at this
            rw [hy2 x this.bool_inv, ← hg]
            cases x <;> cases want <;> rfl
          · cases hg
        · rename_i g hgs
          split at hg
          · rename_i x b0 hga hget
            injection hg with hg
            obtain ⟨_, _, c, hc, hr1, hr2⟩ := h.grd s' g hgs
            have hno : grdAt σ.grds g.s = none := by
              cases hn : grdAt σ.grds g.s with
              | none => rfl
              | some g3 =>
                obtain ⟨_, hl, _⟩ := h.grd g.s g3 hn
                simp only [St.get, hl] at hget
                cases hget
            unfold gcond at hc
            rw [hno] at hc
            simp only [hget, Option.some.injEq] at hc
            cases hcb : c
            · rw [hy3 (hr2 hcb), ← hg, hc, hcb]
              cases want <;> rfl
            · have := (hr1 hcb).1
              rw [hga] at this
              rw [hy2 x this.bool_inv, ← hg, hc, hcb]
              cases x <;> cases want <;> rfl
          · cases hg
      · cases hgd
    · cases hgd
omit [XS] in
theorem idsOk_mem {base : Nat} {os : List (Nat × O)} (h : idsOk base os = true) : ∀ id o, look os id = some o → base ≤ id ∧ id < base + 16 := by
  induction os with
  | nil => intro id o hl; cases hl
  | cons p r ih =>
    intro id o hl
    simp only [idsOk] at h
    split at h
    · rename_i h1 h2
      simp only [look] at hl
      split at hl
      · rename_i hb
        have e := Nat.eq_of_beq_eq_true hb
        subst e
        exact ⟨Nat.le_of_ble_eq_true h1, blt_lt h2⟩
      · exact ih h id o hl
    · cases h
theorem SRcv.step (h : SRcv B w0 U G σ a w cv) {w' : World} {cv' : Nat → Option Value} {os : List (Nat × O)} {base : Nat} (hs : CvStep B w w' cv cv')
    (hobj : ∀ id o', look os id = some o' → ObjOK B w' cv' id o' ∧ ∀ i, o'.has i = true → (∃ o'', σ.obj i = some o'') ∨ ∃ o'', look os i = some o'')
    (hdom : ∀ id u, cv' id = some u → cv id = some u ∨ ∃ o', look os id = some o')
    (hinj : ∀ i j u u' b, cv' i = some u → cv' j = some u' → cv i = none → cv j = none → blk u = some b → blk u' = some b → i = j)
    (hids : idsOk base os = true) (hfresh : ∀ id, base ≤ id → id < base + 16 → ¬ U id) (hnext : base + 16 ≤ σ.next) :
    SRcv B w0 (fun id => U id ∨ (base ≤ id ∧ id < base + 16)) G (σ.addObjs os) a w' cv' := by
  have hob : ∀ id, (σ.addObjs os).obj id = match look os id with | some x => some x | none => σ.obj id := fun id => by
    show look (os ++ σ.mem) id = _
    rw [look_append]
    cases look os id <;> rfl
  have hkeep : ∀ id, (∃ o, σ.obj id = some o) → ∃ o, (σ.addObjs os).obj id = some o := by
    rintro id ⟨o, ho⟩
    rw [hob]
    cases look os id with
    | none => exact ⟨o, ho⟩
    | some x => exact ⟨x, rfl⟩
  have hlive : ∀ {x : A}, Live σ.obj x → Live (σ.addObjs os).obj x := fun hl id hid => hkeep id (hl id hid)
  have hrel : ∀ {v : Value} {x : A}, Rel w cv v x → Live σ.obj x → Rel w' cv' v x := fun hr hl => hr.step hs fun id hid => h.mem.live (hl id hid)
  refine ⟨h.size, h.defers, Grow.below h.below h.hB' hs.grow, Nat.le_trans h.hB (Below.size hs.grow), ?_, h.lon, ?_, ?_, ?_, ?_, ?_⟩
  · rintro id (hu | hu)
    · exact h.lo id hu
    · show id < σ.next; omega
  · intro id o ho
    rw [hob] at ho
    cases hl : look os id with
    | none => rw [hl] at ho; exact .inl (h.used id o ho)
    | some x => exact .inr (idsOk_mem hids id x hl)
  · refine h.mem.add hs h.hB' (fun id o ho => ?_) (fun id o ho => hkeep id ⟨o, ho⟩) (fun id u hu => ?_) hinj
    · rw [hob] at ho
      cases hl : look os id with
      | none => rw [hl] at ho; exact .inl ho
      | some x =>
        rw [hl] at ho
        injection ho with ho
        subst ho
        have := hobj id x hl
        refine .inr ⟨this.1, fun i hi => ?_⟩
        rcases this.2 i hi with h1 | ⟨o'', h1⟩
        · exact hkeep i h1
        · rw [hob, h1]; exact ⟨_, rfl⟩
    · rcases hdom id u hu with h1 | ⟨o', h1⟩
      · exact hkeep id (h.mem.dom id u h1).1
      · rw [hob, h1]; exact ⟨_, rfl⟩
  · intro t x hx
    have := h.slot t x hx
    exact ⟨hrel this.1 this.2, hlive this.2⟩
  · intro t g hg
    obtain ⟨h1, h2, c, h4, h5, h6⟩ := h.grd t g hg
    exact ⟨h1, h2, c, h4, fun hc => ⟨hrel (h5 hc).1 (h5 hc).2, hlive (h5 hc).2⟩, h6⟩
  · intro v x hp
    have := h.ghost v x hp
    exact ⟨hrel this.1 this.2.1, hlive this.2.1, this.2.2⟩
theorem SRcv.put (h : SRcv B w0 U G σ a w cv) {d : Option Nat} {x : A} {v : Value} {σ' : St} (hp : σ.put d x = some σ') (hr : Rel w cv v x) (hl : Live σ.obj x) : SRcv B w0 U G σ' (a.put d v) w cv := by
  cases d with
  | none =>
    simp only [St.put, Option.some.injEq] at hp
    subst hp
    exact h
  | some d =>
    simp only [St.put] at hp
    split at hp
    · rename_i h1 h2
      simp only [Option.some.injEq] at hp
      subst hp
      have hd : d < a.tmps.size := by rw [h.size]; exact blt_lt h1
      have hfree := grdFree_mem h2
      refine ⟨by rw [put_size]; exact h.size, by rw [put_defers]; exact h.defers, h.below, h.hB, h.lo, h.lon, h.used, h.mem, ?_, ?_, h.ghost⟩
      · intro t y hy
        by_cases e : t = d
        · subst e
          rw [look_cons_same] at hy
          injection hy with hy
          subst hy
          rw [put_same a t v hd]
          exact ⟨hr, hl⟩
        · rw [look_cons_other x _ e] at hy
          rw [put_other a d t v e]
          exact h.slot t y hy
      · intro t g hg
        obtain ⟨e1, e2, c, e4, e5, e6⟩ := h.grd t g hg
        have hgm := hfree g (grdAt_mem hg)
        have htd : t ≠ d := by rw [← e1]; exact hgm.2
        refine ⟨e1, by rw [look_cons_other x _ htd]; exact e2, c, ?_, ?_, ?_⟩
        · rw [← e4]
          exact gcond_of (σ := σ) rfl (look_cons_other x _ hgm.1) (fun g' hg' => look_cons_other x _ (hfree g' (grdAt_mem hg')).1)
        · rw [put_other a d t v htd]; exact e5
        · rw [put_other a d t v htd]; exact e6
    · cases hp
theorem SRcv.monoU (h : SRcv B w0 U G σ a w cv) {U' : Nat → Prop} (hU : ∀ id, U id → U' id) (hlo : ∀ id, U' id → id < σ.next) : SRcv B w0 U' G σ a w cv :=
  ⟨h.size, h.defers, h.below, h.hB, hlo, h.lon, fun id o ho => hU id (h.used id o ho), h.mem, h.slot, h.grd, h.ghost⟩
theorem SRcv.putG (h : SRcv B w0 U G σ a w cv) {d s : Nat} {b c : Bool} {x : A} {v : Value} (h1 : Nat.blt d σ.n = true) (h2 : grdFree σ.grds d = true) (hsd : s ≠ d) (hg : gcond σ s b = some c)
    (hr : c = true → Rel w cv v x ∧ Live σ.obj x) (hu : c = false → v = undef) (hs2 : ∀ g, grdAt σ.grds s = some g → g.s ≠ d) :
    SRcv B w0 U G { σ with tmps := (d, .any) :: σ.tmps, grds := ⟨d, s, b, x⟩ :: σ.grds } (a.put (some d) v) w cv := by
  have hd : d < a.tmps.size := by rw [h.size]; exact blt_lt h1
  have hfree := grdFree_mem h2
  have hgrd : ∀ t, t ≠ d → grdAt (⟨d, s, b, x⟩ :: σ.grds) t = grdAt σ.grds t := by
    intro t ht
    have : Nat.beq d t = false := by
      cases hb : Nat.beq d t
      · rfl
      · exact absurd (Nat.eq_of_beq_eq_true hb).symm ht
    simp [grdAt, this]
  refine ⟨by rw [put_size]; exact h.size, by rw [put_defers]; exact h.defers, h.below, h.hB, h.lo, h.lon, h.used, h.mem, ?_, ?_, h.ghost⟩
  · intro t y hy
    by_cases e : t = d
    · subst e
      have hy : look ((t, A.any) :: σ.tmps) t = some y := hy
      rw [look_cons_same] at hy
      injection hy with hy
      subst hy
      exact ⟨.any _, live_any⟩
    · have hy : look ((d, A.any) :: σ.tmps) t = some y := hy
      rw [look_cons_other A.any _ e] at hy
      rw [put_other a d t v e]
      exact h.slot t y hy
  · intro t g hgt
    by_cases e : t = d
    · subst e
      have hgt' : g = ⟨t, s, b, x⟩ := by simpa [grdAt] using hgt.symm
      subst hgt'
      refine ⟨rfl, look_cons_same _ _ _, c, ?_, ?_, ?_⟩
      · rw [← hg]
        exact gcond_of (σ := σ) (hgrd s hsd) (look_cons_other A.any _ hsd) (fun g' hg' => look_cons_other A.any _ (hs2 g' hg'))
      · rw [put_same a t v hd]; exact hr
      · rw [put_same a t v hd]; exact hu
    · have hgt : grdAt (⟨d, s, b, x⟩ :: σ.grds) t = some g := hgt
      rw [hgrd t e] at hgt
      obtain ⟨e1, e2, c', e4, e5, e6⟩ := h.grd t g hgt
      have hgm := hfree g (grdAt_mem hgt)
      refine ⟨e1, by rw [look_cons_other A.any _ e]; exact e2, c', ?_, ?_, ?_⟩
      · rw [← e4]
        exact gcond_of (σ := σ) (hgrd _ hgm.1) (look_cons_other A.any _ hgm.1) (fun g' hg' => look_cons_other A.any _ (hfree g' (grdAt_mem hg')).1)
      · rw [put_other a d t v e]; exact e5
      · rw [put_other a d t v e]; exact e6
end
end Go.Fw

/-
  One reading operation of a region: right, guard and all.
-/
namespace Go.Fw
variable [XS]
open Go.RowKit (Below)
section
variable {P : Program} {B : Nat} {w0 : World} {U : Nat → Prop} {G : Value → A → Prop} {σ : St} {a : Act} {w : World} {cv : Nat → Option Value}
theorem pickA_rel {b : Bool} {x y r : A} {vx vy : Value} (h : pickA b x y = some r) (hx : b = true → Rel w cv vx x) (hy : b = false → Rel w cv vy y) :
    Rel w cv (if b then vx else vy) r ∧ ∀ id, r.has id = false := by
  unfold pickA at h
  split at h
  · injection h with h
    subst h
    cases b
    · simp only [Bool.false_eq_true, if_false, cond_false]; exact ⟨hy rfl, fun _ => rfl⟩
    · simp only [if_true, cond_true]; exact ⟨hx rfl, fun _ => rfl⟩
  · split at h
    · rename_i hk
      have := of_decide_eq_true hk
      subst this
      injection h with h
      subst h
      cases b
      · simp only [Bool.false_eq_true, if_false, cond_false]; exact ⟨hy rfl, fun _ => rfl⟩
      · simp only [if_true, cond_true]; exact ⟨hx rfl, fun _ => rfl⟩
    · cases h
  · split at h
    · rename_i hk
      have := of_decide_eq_true hk
      subst this
      injection h with h
      subst h
      cases b
      · simp only [Bool.false_eq_true, if_false, cond_false]; exact ⟨hy rfl, fun _ => rfl⟩
      · simp only [if_true, cond_true]; exact ⟨hx rfl, fun _ => rfl⟩
    · cases h
  · cases h
theorem pick_sound (h : SRcv B w0 U G σ a w cv) {get : Nat → A} (hs : Slots w cv σ.obj a get) {o : Oper} {r : A} (hp : pickOf σ get o = some r)
    (hside : ∀ s b, get s = .bool b → gcond σ s b ≠ none → gcond σ s b = some true) : QSound P B cv σ.obj o a w r [] := by
  unfold pickOf at hp
  split at hp
  · rename_i c x y ho
    split at hp
    · rename_i s
      split at hp
      · rename_i b hgs
        split at hp
        · cases hp
        rename_i gcv hgcv
        have hsd := hside s b hgs (by rw [hgcv]; simp)
        have hc := hs.rel s
        rw [hgs] at hc
        have side : ∀ (wnt : Bool) (z : Operand), b = wnt → Rel w cv (a.eval z) (match z with
            | .tmp t => match grdAt σ.grds t with
              | some g => match Nat.beq g.s s && (g.w == wnt) with
                | true => g.a
                | false => get t
              | none => get t
            | z => opd get z) := by
          intro wnt z hb
          cases z with
          | tmp t =>
            simp only
            split
            · rename_i g hg
              split
              · rename_i hbb
                simp only [Bool.and_eq_true, beq_iff_eq] at hbb
                have e := Nat.eq_of_beq_eq_true hbb.1
                obtain ⟨_, _, cc, h4, h5, _⟩ := h.grd t g hg
                rw [e, hbb.2, ← hb, hsd] at h4
                injection h4 with h4
                exact (h5 h4.symm).1
              · exact hs.rel t
            · exact hs.rel t
          | const v => exact (hs.opd (.const v)).1
          | global g => exact (hs.opd (.global g)).1
          | func f => exact (hs.opd (.func f)).1
        have hr := pickA_rel (vx := a.eval x) (vy := a.eval y) hp (fun hb => side true x hb) (fun hb => side false y hb)
        refine QSound.value (if b then a.eval x else a.eval y) w ?_ (Grow.refl w) hr.1 (live_none hr.2) h.mem
        simp only [execOp, ho, Sem.run_bind]
        have : a.eval (.tmp s) = .bool b := hc.bool_inv
        rw [this]
        cases b <;> simp [asBool]
      · cases hp
    · cases hp
  · cases hp
theorem Slots.restr {ob : Nat → Option O} {get : Nat → A} (h : Slots w cv ob a get) (l : List Nat) : Slots w cv ob a (restr l get) := by
  refine ⟨fun t => ?_, fun t => ?_⟩
  · unfold Fw.restr
    split
    · exact h.rel t
    · exact .any _
  · unfold Fw.restr
    split
    · exact h.live t
    · exact live_any
omit [XS] in
theorem gcond_get {s : Nat} {b : Bool} (hg : grdAt σ.grds s = none) (h : σ.get s = .bool b) : gcond σ s b = some true := by
  unfold gcond
  rw [hg]
  simp only [h]
  simp
theorem qStep_sound {cfg : Cfg} (hc : CfgOK P cfg) {obj : Nat → Option O} {own : Nat → Bool} {base : Nat} {ops : Array Oper} {o : Oper} {c : Bool} {σ' : St} (h : SRcv B w0 U G σ a w cv)
    (hq : qStep cfg obj own base ops o σ = some (c, σ')) (hct : c = true) (hob : ∀ i o', obj i = some o' → σ.obj i = some o') (hfresh : ∀ id, base ≤ id → id < base + 16 → ¬ U id) (hnext : base + 16 ≤ σ.next)
    {K : Act → World → Prop} {Q : Exit → Act → World → Prop} (hK : ∀ a' w', SR B w0 (fun id => U id ∨ (base ≤ id ∧ id < base + 16)) G σ' a' w' → K a' w') : StepOK P ops Q o K a w := by
  have hfreshO : ∀ id, base ≤ id → id < base + 16 → σ.obj id = none := by
    intro id h1 h2
    cases ho : σ.obj id with
    | none => rfl
    | some o' => exact absurd (h.used id o' ho) (hfresh id h1 h2)
  unfold qStep at hq
  split at hq
  · cases hq
  rename_i r hr
  unfold qVal at hr
  split at hr
  · cases hr
  · -- no guard
    rename_i hgd
    have hguard : o.guard = none := by
      unfold guardOf at hgd
      split at hgd
      · assumption
      · split at hgd
        · split at hgd <;> simp at hgd
        · cases hgd
    have hw : Region.wanted o (yielded ops a.tmps) = true := by unfold Region.wanted; rw [hguard]
    split at hr
    · cases hr
    · rename_i c' x os hev
      injection hr with hr
      subst hr
      simp only [qPut] at hq
      split at hq
      · cases hq
      · rename_i hids
        split at hq
        · rename_i σ1 hput
          simp only [Option.some.injEq, Prod.mk.injEq] at hq
          obtain ⟨rfl, rfl⟩ := hq
          have hsound : QSound P B cv σ.obj o a w x os := by
            split at hev
            · split at hev
              · rename_i r' hp
                simp only [Option.some.injEq, Prod.mk.injEq] at hev
                obtain ⟨_, rfl, rfl⟩ := hev
                refine pick_sound h h.slots0 hp fun s b hsb _ => ?_
                unfold St.get0 at hsb
                split at hsb
                · rename_i hn; exact gcond_get hn hsb
                · cases hsb
              · cases hev
            · exact evalX_sound hc hev hct (h.slots0.restr _) hob h.mem h.hB' h.hX hfreshO
          refine ⟨fun _ => hsound K Q ?_, fun hf => by rw [hw] at hf; cases hf⟩
          intro v w' cv' h1 h2 h3 h4 h5 h6
          refine hK _ _ ⟨cv', ?_⟩
          have hst := h.step h1 h2 h3 h4 hids hfresh hnext
          refine hst.put hput h5 fun id hid => ?_
          have hobx : (σ.addObjs os).obj id = match look os id with | some x => some x | none => σ.obj id := by
            show look (os ++ σ.mem) id = _
            rw [look_append]
            cases look os id <;> rfl
          rw [hobx]
          rcases h6 id hid with ⟨o1, h7⟩ | ⟨o1, h7⟩
          · cases look os id with
            | none => exact ⟨o1, h7⟩
            | some z => exact ⟨z, rfl⟩
          · rw [h7]; exact ⟨o1, rfl⟩
        · cases hq
  · -- a guard
    rename_i s b hgd
    split at hr
    · cases hr
    · rename_i gc hgc
      have hw := h.wanted hgd hgc
      split at hr
      · rename_i c' x hev
        injection hr with hr
        subst hr
        simp only [qPut] at hq
        split at hq
        · cases hq
        · rename_i d hd
          split at hq
          · rename_i h1 h2 h3
            simp only [Option.some.injEq, Prod.mk.injEq] at hq
            obtain ⟨hcc, rfl⟩ := hq
            have hsd : s ≠ d := Nat.ne_of_beq_eq_false h3
            have hfree := grdFree_mem h2
            have hU : ∀ id, U id ∨ (base ≤ id ∧ id < base + 16) → id < σ.next := fun id hid => by
              rcases hid with hu | hu
              · exact h.lo id hu
              · omega
            cases hgcb : gc
            · -- it is passed over
              refine ⟨(fun ht => by rw [hw, hgcb] at ht; cases ht), fun _ => ?_⟩
              rw [hd]
              exact hK _ _ ⟨cv, (h.putG h1 h2 hsd (c := false) (by rw [hgc, hgcb]) (fun e => by cases e) (fun _ => rfl) (fun g hg => (hfree g (grdAt_mem hg)).1)).monoU (fun id hu => .inl hu) hU⟩
            · have hgt : gcond σ s b = some true := by rw [hgc, hgcb]
              have hct' : c' = true := by rw [← hcc, hgcb] at hct; simpa using hct
              have hsl := h.slotsG hgt
              have hsound : QSound P B cv σ.obj o a w x [] := by
                split at hev
                · split at hev
                  · rename_i r' hp
                    simp only [Option.some.injEq, Prod.mk.injEq] at hev
                    have hx := hev.2.1
                    subst hx
                    refine pick_sound h hsl hp fun s2 b2 hsb hne => ?_
                    unfold St.getG at hsb
                    split at hsb
                    · rename_i hn; exact gcond_get hn hsb
                    · rename_i g hg2
                      have key : g.a = .bool b2 ∧ ∀ b0, σ.get g.s = .bool b0 → (b0 == g.w) = true := by
                        have noG : ∀ {t b0}, σ.get t = .bool b0 → grdAt σ.grds t = none := by
                          intro t b0 ht
                          cases hn : grdAt σ.grds t with
                          | none => rfl
                          | some g3 =>
                            obtain ⟨_, hl, _⟩ := h.grd t g3 hn
                            simp only [St.get, hl] at ht
                            cases ht
                        split at hsb
                        · rename_i hbb
                          simp only [Bool.and_eq_true, beq_iff_eq] at hbb
                          have e := Nat.eq_of_beq_eq_true hbb.1
                          refine ⟨hsb, fun b0 hb0 => ?_⟩
                          rw [e] at hb0
                          unfold gcond at hgt
                          rw [noG hb0] at hgt
                          simp only [hb0, Option.some.injEq] at hgt
                          rw [hbb.2]
                          exact hgt
                        · split at hsb
                          · cases hsb
                          · rename_i g4 hg4
                            split at hsb
                            · rename_i hbb
                              simp only [Bool.and_eq_true, beq_iff_eq] at hbb
                              have e := Nat.eq_of_beq_eq_true hbb.1
                              refine ⟨hsb, fun b0 hb0 => ?_⟩
                              unfold gcond at hgt
                              rw [hg4] at hgt
                              simp only at hgt
                              rw [e] at hb0
                              rw [hb0] at hgt
                              split at hgt
                              · rename_i x1 x2 _ hx2
                                injection hx2 with hx2
                                subst hx2
                                injection hgt with hgt
                                simp only [Bool.and_eq_true] at hgt
                                rw [hbb.2]
                                exact hgt.1
                              · cases hgt
                            · cases hsb
                      unfold gcond at hne ⊢
                      rw [hg2] at hne ⊢
                      simp only [key.1] at hne ⊢
                      cases hget : σ.get g.s with
                      | bool b0 => simp only [key.2 b0 hget]; simp
                      | _ => rw [hget] at hne; exact absurd rfl hne
                  · cases hev
                · exact evalX_sound hc hev hct' (hsl.restr _) hob h.mem h.hB' h.hX hfreshO
              refine ⟨fun _ => hsound K Q ?_, fun hf => by rw [hw, hgcb] at hf; cases hf⟩
              intro v w' cv' h4 h5 h6 h7 h8 h9
              rw [hd]
              refine hK _ _ ⟨cv', ?_⟩
              have hst := h.step (os := []) h4 h5 h6 h7 rfl hfresh hnext
              refine hst.putG h1 h2 hsd (c := true) hgt (fun _ => ⟨h8, fun id hid => ?_⟩) (fun e => by cases e) (fun g hg => (hfree g (grdAt_mem hg)).1)
              rcases h9 id hid with h10 | ⟨o1, h10⟩
              · exact h10
              · cases h10
          · cases hq
      · cases hr
end
end Go.Fw

/-
  The operations that write into the call's own memory: stores, append.
-/
namespace Go.Fw
variable [XS]
open Go.RowKit (Below)
omit [XS] in
theorem below_setRow {B : Nat} {a w : World} (h : Below B a w) {g : Nat} (hg : B ≤ g) (cs : Array Value) : Below B a (w.setRow g cs) :=
  h.trans ⟨rfl, rfl, rfl, by simp [World.setRow], fun k hk => setRow_other w g k cs (by omega)⟩
omit [XS] in
theorem size_setRow' (w : World) (g : Nat) (cs : Array Value) : (w.setRow g cs).heap.size = w.heap.size := by simp [World.setRow]
section
variable {P : Program} {B : Nat} {w0 : World} {U : Nat → Prop} {G : Value → A → Prop} {σ : St} {a : Act} {w : World} {cv : Nat → Option Value}
theorem SRcv.write (h : SRcv B w0 U G σ a w cv) {id g E : Nat} {o' : O} {u : Value} {old cs : Array Value} (hcv : cv id = some u) (hb : blk u = some g) (hg : w.heap[g]? = some (.cells old E (0, 0)))
    (hobj : ObjOK B (w.setRow g cs) cv id o') (hlive : ∀ i, o'.has i = true → ∃ o'', σ.obj i = some o'') :
    SRcv B w0 U G { σ with mem := (id, o') :: σ.mem } a (w.setRow g cs) cv := by
  have hgB := (h.mem.dom id u hcv).2 g hb
  have hsx : ∀ b, Sx w cv b → Sx (w.setRow g cs) cv b ∧ (w.setRow g cs).heap[b]? = w.heap[b]? := by
    rintro b ⟨h1, h2⟩
    refine ⟨⟨by rw [size_setRow']; exact h1, h2⟩, setRow_other w g b cs fun e => ?_⟩
    subst e
    exact h2.1 id u hcv hb
  have hob : ∀ i, St.obj { σ with mem := (id, o') :: σ.mem } i = if i = id then some o' else σ.obj i := by
    intro i
    show look ((id, o') :: σ.mem) i = _
    by_cases e : i = id
    · subst e; simp [look_cons_same]
    · rw [look_cons_other o' _ e, if_neg e]; rfl
  have hkeep : ∀ i, (∃ o, σ.obj i = some o) → ∃ o, St.obj { σ with mem := (id, o') :: σ.mem } i = some o := by
    rintro i ⟨o, ho⟩
    rw [hob]
    by_cases e : i = id
    · exact ⟨o', by simp [e]⟩
    · exact ⟨o, by simp [e, ho]⟩
  have hrel : ∀ {v : Value} {x : A}, Rel w cv v x → Rel (w.setRow g cs) cv v x := fun hr => hr.mono hsx fun _ _ => .inr rfl
  have hl : ∀ {x : A}, Live σ.obj x → Live (St.obj { σ with mem := (id, o') :: σ.mem }) x := fun hx i hi => hkeep i (hx i hi)
  refine ⟨h.size, h.defers, below_setRow h.below hgB.1 cs, by rw [size_setRow']; exact h.hB, h.lo, h.lon, ?_, ⟨?_, ?_, h.mem.inj⟩, ?_, ?_, ?_⟩
  · intro i o ho
    rw [hob] at ho
    by_cases e : i = id
    · subst e
      obtain ⟨o1, ho1⟩ := (h.mem.dom i u hcv).1
      exact h.used i o1 ho1
    · rw [if_neg e] at ho; exact h.used i o ho
  · intro i o ho
    rw [hob] at ho
    by_cases e : i = id
    · rw [if_pos e] at ho
      injection ho with ho
      subst ho e
      exact ⟨hobj, fun j hj => hkeep j (hlive j hj)⟩
    · rw [if_neg e] at ho
      have := h.mem.obj i o ho
      refine ⟨this.1.step hsx rfl (fun u' b hu' hb' => setRow_other w g b cs fun e' => ?_) (fun j _ => .inr rfl), fun j hj => hkeep j (this.2 j hj)⟩
      subst e'
      exact e (h.mem.inj i id u' u b hu' hcv hb' hb)
  · intro i u' hu'
    refine ⟨hkeep i (h.mem.dom i u' hu').1, fun b hb' => ?_⟩
    rw [size_setRow']
    exact (h.mem.dom i u' hu').2 b hb'
  · intro t x hx
    have := h.slot t x hx
    exact ⟨hrel this.1, hl this.2⟩
  · intro t g' hg'
    obtain ⟨e1, e2, c, e3, e4, e5⟩ := h.grd t g' hg'
    exact ⟨e1, e2, c, e3, fun hc => ⟨hrel (e4 hc).1, hl (e4 hc).2⟩, e5⟩
  · intro v x hx
    have := h.ghost v x hx
    exact ⟨hrel this.1, hl this.2.1, this.2.2⟩
theorem SR.of_write {base : Nat} {id : Nat} {o' : O} {a' : Act} {w' : World} (h : SRcv B w0 U G { σ with mem := (id, o') :: σ.mem } a' w' cv) (hnext : base + 16 ≤ σ.next) :
    SR B w0 (fun i => U i ∨ (base ≤ i ∧ i < base + 16)) G { σ with mem := (id, o') :: σ.mem } a' w' :=
  ⟨cv, h.monoU (fun i hi => .inl hi) (fun i hi => by
    rcases hi with hi | hi
    · exact h.lo i hi
    · show i < σ.next; omega)⟩
omit [XS] in
theorem storeVar_run {cfg : Cfg} (hc : CfgOK P cfg) {t : Nat} {ti : TI} (ht : cfg.tt t = some ti) {g off E : Nat} {cur : Array Value} {v : Value} (hg : w.heap[g]? = some (.cells cur E (0, 0)))
    (hs : v.cells.size = ti.size) (hl : off + ti.size ≤ cur.size) (h1 : ∀ u, u ∈ v.cells.toList → u.oneCell' = true) :
    (storeVar t ⟨g, off, none⟩ v).run P w = .ok () (w.setRow g (cur.toList.take off ++ v.cells.toList ++ cur.toList.drop (off + ti.size)).toArray) := by
  obtain ⟨i, hi, hisz⟩ := TIOK.sizeE (t := t) (hc.tt t ti ht)
  have hst := run_storeCells_at P g off E v.cells.toList 0 cur w hg (by simp [hs]; omega) h1
  simp only [Nat.add_zero, Array.length_toList, hs] at hst
  simp only [storeVar, Sem.run_bind, run_sizeOf hi, Result.andThen_ok, hisz, hs, ne_eq, not_true, if_false, hst]
theorem rel_flat_cells {v : Value} {x : A} (hx : Rel w cv v x) (hl : ∀ id, x.has id = true → ∃ u, cv id = some u) (hk : x ≠ .any) (hf : allFlat x.cells = true) : ∀ u, u ∈ v.cells.toList → u.oneCell' = true := by
  intro u hu
  have hc := cells_rel hx hk hl
  obtain ⟨j, hj⟩ := List.mem_iff_getElem?.1 hu
  have hjl : j < v.cells.size := by have := (List.getElem?_eq_some_iff.1 hj).1; simpa using this
  have hr := hc.2 j (by omega)
  have hfl := allFlat_mem hf (x.cells.getD j .any) (by rw [List.getD, List.getElem?_eq_getElem (by omega)]; exact List.getElem_mem (by omega))
  have := (hr.flat_one hfl fun id hid => hl id (cells_has hid)).1
  rw [← toList_getD, List.getD, hj] at this
  exact this
omit [XS] in
theorem allFlat_ne {x : A} (h : allFlat x.cells = true) : x ≠ .any := by rintro rfl; simp [A.cells, allFlat, A.flat] at h
omit [XS] in
theorem exec_store {o : Oper} {t : Nat} {x y : Operand} (ho : o.op = .store t x y) {b off : Nat} (hx : a.eval x = .pointer (some ⟨b, off, none⟩)) {w' : World} (hr : (storeVar t ⟨b, off, none⟩ (a.eval y)).run P w = .ok () w') :
    (execOp a.eval o).run P w = .ok .skip w' := by
  simp only [execOp, ho, Instr.storeAt, hx, Instr.sureAddr, Sem.run_bind, Sem.run_pure, Result.andThen_ok, hr]
theorem wStep_var {cfg : Cfg} (hc : CfgOK P cfg) {base : Nat} {o : Oper} (hguard : o.guard = none) (hd : o.dst = none) {t : Nat} {x y : Operand} (ho : o.op = .store t x y) {ti : TI} (ht : cfg.tt t = some ti) {id off : Nat} {ax : A} {cs : List A}
    (h : SRcv B w0 U G σ a w cv) (hx : opd σ.get0 x = .ptr id off) (hy : opd σ.get0 y = ax) (hid : σ.obj id = some (.var cs)) (hsz : ax.cells.length = ti.size) (hfl : allFlat ax.cells = true) (hoff : off + ti.size ≤ cs.length) (hnext : base + 16 ≤ σ.next)
    {ops : Array Oper} {K : Act → World → Prop} {Q : Exit → Act → World → Prop}
    (hK : ∀ a' w', SR B w0 (fun i => U i ∨ (base ≤ i ∧ i < base + 16)) G { σ with mem := (id, .var (setCells cs off ax.cells)) :: σ.mem } a' w' → K a' w') : StepOK P ops Q o K a w := by
  have hs := h.slots0
  have rx := hs.opd x
  have ry := hs.opd y
  rw [hx] at rx
  rw [hy] at ry
  obtain ⟨⟨b, vs, E, hcv, hheap, hvs, hrel⟩, hlive⟩ := h.mem.obj id _ hid
  obtain ⟨b', hb', ex⟩ := rx.1.ptr_inv hcv
  injection hb' with hb'; injection hb' with hb'; injection hb' with hb'; subst hb'
  have hyl : ∀ i, ax.has i = true → ∃ u, cv i = some u := fun i hi => h.mem.live (ry.2 i hi)
  have hcr := cells_LRel ry.1 (allFlat_ne hfl) hyl
  have hvc : (a.eval y).cells.size = ti.size := by have := hcr.len; simp at this; omega
  have hrun := storeVar_run (w := w) (off := off) hc ht hheap hvc (by omega) (rel_flat_cells ry.1 hyl (allFlat_ne hfl) hfl)
  refine ⟨fun _ => ?_, fun hf => by unfold Region.wanted at hf; rw [hguard] at hf; cases hf⟩
  show o.upon P a K Q _
  rw [exec_store ho ex hrun]
  show K (a.put o.dst undef) _
  rw [hd]
  refine hK a _ (SR.of_write (cv := cv) ?_ hnext)
  have hsx : ∀ bb, Sx w cv bb → Sx (w.setRow b (vs.toList.take off ++ (a.eval y).cells.toList ++ vs.toList.drop (off + ti.size)).toArray) cv bb ∧ (w.setRow b (vs.toList.take off ++ (a.eval y).cells.toList ++ vs.toList.drop (off + ti.size)).toArray).heap[bb]? = w.heap[bb]? := by
    rintro bb ⟨h1, h2⟩
    refine ⟨⟨by rw [size_setRow']; exact h1, h2⟩, setRow_other w b bb _ fun e => ?_⟩
    subst e
    exact h2.1 id _ hcv rfl
  refine h.write hcv rfl hheap ⟨b, _, E, hcv, setRow_heap w b vs _ E (0, 0) hheap, ?_, ?_⟩ ?_
  · simp only [setCells, List.size_toArray, List.length_append, List.length_take, List.length_drop, Array.length_toList, hvc, hsz]
    omega
  · have hall := (((LRel.of_array hvs hrel).take off).append hcr).append ((LRel.of_array hvs hrel).drop (off + ax.cells.length))
    intro j hj
    have h9 := hall.at_ j hj
    rw [hsz] at h9
    rw [getD_toArray]
    simp only [setCells, hsz]
    exact RelS.mono h9 hsx fun _ _ => .inr rfl
  · intro i hi
    simp only [O.has] at hi
    obtain ⟨z, hz, hzi⟩ := hasAny_iff.1 hi
    rcases List.mem_append.1 hz with hz | hz
    · rcases List.mem_append.1 hz with hz | hz
      · exact hlive i (by simp only [O.has]; exact hasAny_iff.2 ⟨z, List.mem_of_mem_take hz, hzi⟩)
      · exact (LiveL.cells ry.2) z hz i hzi
    · exact hlive i (by simp only [O.has]; exact hasAny_iff.2 ⟨z, List.mem_of_mem_drop hz, hzi⟩)
omit [XS] in
theorem take_take_eq (l : List Value) (n off sz : Nat) (m : List Value) (hm : m.length = sz) (hn : off + sz ≤ n) (hl : n ≤ l.length) :
    (l.take off ++ m ++ l.drop (off + sz)).take n = (l.take n).take off ++ m ++ (l.take n).drop (off + sz) := by
  rw [List.take_append, List.take_of_length_le (by simp; omega)]
  congr 1
  · rw [List.take_take, Nat.min_eq_left (by omega)]
  · rw [List.drop_take]
    congr 1
    simp [hm]; omega
theorem wStep_row {cfg : Cfg} (hc : CfgOK P cfg) {base : Nat} {o : Oper} (hguard : o.guard = none) (hd : o.dst = none) {t : Nat} {x y : Operand} (ho : o.op = .store t x y) {ti : TI} (ht : cfg.tt t = some ti) {id off esz i e len : Nat} {ax : A} {get : Row A}
    (h : SRcv B w0 U G σ a w cv) (hx : opd σ.get0 x = .rpt id esz i off) (hy : opd σ.get0 y = ax) (hid : σ.obj id = some (.row e esz len get)) (hsz : ax.cells.length = ti.size) (hfl : allFlat ax.cells = true) (hoff : off + ti.size ≤ esz) (hdat : ax.data = true) (hnext : base + 16 ≤ σ.next)
    (get' : Row A) (hg1 : ∀ j, j ≠ i → get' j = get j) (hg2 : (get' i).cells.length = esz) (hg3 : ∀ jj, jj < esz → (get' i).cells.getD jj .any = if off ≤ jj ∧ jj < off + ti.size then ax.cells.getD (jj - off) .any else (get i).cells.getD jj .any)
    {ops : Array Oper} {K : Act → World → Prop} {Q : Exit → Act → World → Prop}
    (hK : ∀ a' w', SR B w0 (fun i => U i ∨ (base ≤ i ∧ i < base + 16)) G { σ with mem := (id, .row e esz len get') :: σ.mem } a' w' → K a' w') : StepOK P ops Q o K a w := by
  have hs := h.slots0
  have rx := hs.opd x
  have ry := hs.opd y
  rw [hx] at rx
  rw [hy] at ry
  obtain ⟨⟨u, E, xs, hcv, hown, hE, hpos, hz, hrel⟩, hlive⟩ := h.mem.obj id _ hid
  obtain ⟨b, l, c, hu, hil, ex⟩ := rx.1.rpt_inv hcv
  subst hu
  have hyl : ∀ i, ax.has i = true → ∃ u, cv i = some u := fun i hi => h.mem.live (ry.2 i hi)
  have hcr := cells_LRel ry.1 (allFlat_ne hfl) hyl
  have hvc : (a.eval y).cells.size = ti.size := by have := hcr.len; simp at this; omega
  obtain ⟨hxl, hown⟩ := hown
  rcases hown with ⟨hnil, _⟩ | ⟨g, cap, cur, hv, hgB, hheap, hle, hmax, hcs, htake⟩
  · cases hnil
  injection hv with hv1 hv2 hv3
  injection hv1 with hv1; injection hv1 with hv1
  subst hv1 hv2 hv3
  have hle' : l * esz ≤ cur.size := by rw [hcs]; exact Nat.mul_le_mul_right _ hle
  have hseg : i * esz + off + ti.size ≤ l * esz := by
    have : (i + 1) * esz ≤ l * esz := Nat.mul_le_mul_right _ hil
    rw [Nat.add_mul, Nat.one_mul] at this
    omega
  have hrun := storeVar_run (w := w) (off := i * esz + off) hc ht hheap hvc (by omega) (rel_flat_cells ry.1 hyl (allFlat_ne hfl) hfl)
  refine ⟨fun _ => ?_, fun hf => by unfold Region.wanted at hf; rw [hguard] at hf; cases hf⟩
  show o.upon P a K Q _
  rw [exec_store ho ex hrun]
  show K (a.put o.dst undef) _
  rw [hd]
  refine hK a _ (SR.of_write (cv := cv) ?_ hnext)
  generalize hcur' : (cur.toList.take (i * esz + off) ++ (a.eval y).cells.toList ++ cur.toList.drop (i * esz + off + ti.size)).toArray = cur'
  have hsx : ∀ bb, Sx w cv bb → Sx (w.setRow b cur') cv bb ∧ (w.setRow b cur').heap[bb]? = w.heap[bb]? := by
    rintro bb ⟨h1, h2⟩
    refine ⟨⟨by rw [size_setRow']; exact h1, h2⟩, setRow_other w b bb _ fun e => ?_⟩
    subst e
    exact h2.1 id _ hcv rfl
  have hlen' : cur'.size = cur.size := by
    rw [← hcur']
    simp only [List.size_toArray, List.length_append, List.length_take, List.length_drop, Array.length_toList, hvc]
    omega
  refine h.write hcv rfl hheap ⟨_, E, cur'.toList.take (l * esz), hcv, ⟨by simp; omega, .inr ⟨b, c, cur', rfl, hgB, setRow_heap w b cur _ E (0, 0) hheap, hle, hmax, by rw [hlen', hcs], rfl⟩⟩, hE, hpos, ?_, ?_⟩ (fun j hj => by simp [O.has] at hj)
  · intro j hj
    by_cases e : j = i
    · rw [e]; exact hg2
    · rw [hg1 j e]; exact hz j hj
  · intro j jj hj hjj
    have hval : (cur'.toList.take (l * esz)).getD (j * esz + jj) undef = if j = i ∧ off ≤ jj ∧ jj < off + ti.size then (a.eval y).cells.getD (jj - off) undef else xs.getD (j * esz + jj) undef := by
      have hxs : xs.getD (j * esz + jj) undef = cur.toList.getD (j * esz + jj) undef := by rw [← htake, getD_take _ _ _ _ (mul_lt hj hjj)]
      rw [getD_take _ _ _ _ (mul_lt hj hjj), hxs, ← hcur']
      simp only [List.append_assoc]
      have hlt := mul_lt hj hjj
      by_cases hji : j = i
      · subst hji
        by_cases h1 : jj < off
        · rw [if_neg (by omega), getD_append_left _ _ _ _ (by simp; omega), getD_take _ _ _ _ (by omega)]
        · rw [getD_append_right _ _ _ _ (by simp; omega)]
          rw [show j * esz + jj - (cur.toList.take (j * esz + off)).length = jj - off by simp; omega]
          by_cases h2 : jj < off + ti.size
          · rw [if_pos ⟨rfl, by omega, h2⟩, getD_append_left _ _ _ _ (by simp [hvc]; omega), toList_getD]
          · rw [if_neg (by omega), getD_append_right _ _ _ _ (by simp [hvc]; omega), getD_drop]
            congr 1
            simp [hvc]; omega
      · rw [if_neg (fun h => hji h.1)]
        rcases Nat.lt_or_gt_of_ne hji with hlt' | hgt'
        · have : (j + 1) * esz ≤ i * esz := Nat.mul_le_mul_right _ hlt'
          rw [Nat.add_mul, Nat.one_mul] at this
          rw [getD_append_left _ _ _ _ (by simp; omega), getD_take _ _ _ _ (by omega)]
        · have : (i + 1) * esz ≤ j * esz := Nat.mul_le_mul_right _ hgt'
          rw [Nat.add_mul, Nat.one_mul] at this
          rw [getD_append_right _ _ _ _ (by simp; omega), getD_append_right _ _ _ _ (by simp [hvc]; omega), getD_drop]
          congr 1
          simp [hvc]; omega
    rw [hval]
    by_cases hji : j = i
    · subst hji
      rw [hg3 jj hjj]
      by_cases h1 : off ≤ jj ∧ jj < off + ti.size
      · rw [if_pos h1, if_pos ⟨rfl, h1⟩]
        have hjc : jj - off < ax.cells.length := by omega
        refine ⟨allFlat_mem hfl _ (by rw [List.getD, List.getElem?_eq_getElem hjc]; exact List.getElem_mem hjc), ?_⟩
        have := hcr.at_ (jj - off) hjc
        rw [toList_getD] at this
        exact (Rel.toData this (data_cells hdat hjc)).mono hsx
      · rw [if_neg h1, if_neg (fun h => h1 h.2)]
        exact ⟨(hrel j jj hj hjj).1, (hrel j jj hj hjj).2.mono hsx⟩
    · rw [if_neg (fun h => hji h.1), hg1 j hji]
      exact ⟨(hrel j jj hj hjj).1, (hrel j jj hj hjj).2.mono hsx⟩
theorem wStep_arr {cfg : Cfg} (hc : CfgOK P cfg) {base : Nat} {o : Oper} (hguard : o.guard = none) (hd : o.dst = none) {t : Nat} {x y : Operand} (ho : o.op = .store t x y) {ti : TI} (ht : cfg.tt t = some ti) {id off e esz i len : Nat} {ax : A} {cs : List A}
    (h : SRcv B w0 U G σ a w cv) (hx : opd σ.get0 x = .rpt id esz i off) (hy : opd σ.get0 y = ax) (hid : σ.obj id = some (.arr e esz len cs)) (hsz : ax.cells.length = ti.size) (hfl : allFlat ax.cells = true) (hoff : off + ti.size ≤ esz) (hnext : base + 16 ≤ σ.next)
    {ops : Array Oper} {K : Act → World → Prop} {Q : Exit → Act → World → Prop}
    (hK : ∀ a' w', SR B w0 (fun i => U i ∨ (base ≤ i ∧ i < base + 16)) G { σ with mem := (id, .arr e esz len (setCells cs (i * esz + off) ax.cells)) :: σ.mem } a' w' → K a' w') : StepOK P ops Q o K a w := by
  have hs := h.slots0
  have rx := hs.opd x
  have ry := hs.opd y
  rw [hx] at rx
  rw [hy] at ry
  obtain ⟨⟨u, E, xs, hcv, hown, hE, hpos, hcl, ⟨p0, c0, hv0⟩, hrel⟩, hlive⟩ := h.mem.obj id _ hid
  obtain ⟨b, l, c, hu, hil, ex⟩ := rx.1.rpt_inv hcv
  rw [hu] at hv0
  injection hv0 with _ hl0 _
  subst hu hl0
  have hyl : ∀ i, ax.has i = true → ∃ u, cv i = some u := fun i hi => h.mem.live (ry.2 i hi)
  have hcr := cells_LRel ry.1 (allFlat_ne hfl) hyl
  have hvc : (a.eval y).cells.size = ti.size := by have := hcr.len; simp at this; omega
  obtain ⟨hxl, hown⟩ := hown
  rcases hown with ⟨hnil, _⟩ | ⟨g, cap, cur, hv, hgB, hheap, hle, hmax, hcs, htake⟩
  · cases hnil
  injection hv with hv1 hv2 hv3
  injection hv1 with hv1; injection hv1 with hv1
  subst hv1 hv3
  have hle' : l * esz ≤ cur.size := by rw [hcs]; exact Nat.mul_le_mul_right _ hle
  have hseg : i * esz + off + ti.size ≤ l * esz := by
    have : (i + 1) * esz ≤ l * esz := Nat.mul_le_mul_right _ hil
    rw [Nat.add_mul, Nat.one_mul] at this
    omega
  have hrun := storeVar_run (w := w) (off := i * esz + off) hc ht hheap hvc (by omega) (rel_flat_cells ry.1 hyl (allFlat_ne hfl) hfl)
  refine ⟨fun _ => ?_, fun hf => by unfold Region.wanted at hf; rw [hguard] at hf; cases hf⟩
  show o.upon P a K Q _
  rw [exec_store ho ex hrun]
  show K (a.put o.dst undef) _
  rw [hd]
  refine hK a _ (SR.of_write (cv := cv) ?_ hnext)
  generalize hcur' : (cur.toList.take (i * esz + off) ++ (a.eval y).cells.toList ++ cur.toList.drop (i * esz + off + ti.size)).toArray = cur'
  have hsx : ∀ bb, Sx w cv bb → Sx (w.setRow b cur') cv bb ∧ (w.setRow b cur').heap[bb]? = w.heap[bb]? := by
    rintro bb ⟨h1, h2⟩
    refine ⟨⟨by rw [size_setRow']; exact h1, h2⟩, setRow_other w b bb _ fun e => ?_⟩
    subst e
    exact h2.1 id _ hcv rfl
  have hlen' : cur'.size = cur.size := by
    rw [← hcur']
    simp only [List.size_toArray, List.length_append, List.length_take, List.length_drop, Array.length_toList, hvc]
    omega
  have htk : cur'.toList.take (l * esz) = xs.take (i * esz + off) ++ (a.eval y).cells.toList ++ xs.drop (i * esz + off + ti.size) := by
    rw [← hcur', ← htake]
    exact take_take_eq cur.toList (l * esz) (i * esz + off) ti.size (a.eval y).cells.toList (by simp [hvc]) hseg (by simp; omega)
  have hset : (setCells cs (i * esz + off) ax.cells).length = l * esz := by
    simp only [setCells, List.length_append, List.length_take, List.length_drop]
    omega
  refine h.write hcv rfl hheap ⟨_, E, cur'.toList.take (l * esz), hcv, ⟨by simp; omega, .inr ⟨b, c, cur', rfl, hgB, setRow_heap w b cur _ E (0, 0) hheap, hle, hmax, by rw [hlen', hcs], rfl⟩⟩, hE, hpos, hset, ⟨_, _, rfl⟩, ?_⟩ ?_
  · rw [htk]
    have hxs : LRel (Rel w cv) xs cs := ⟨by rw [hxl, hcl], fun j hj => hrel j hj⟩
    have hall := ((hxs.take (i * esz + off)).append hcr).append (hxs.drop (i * esz + off + ax.cells.length))
    intro j hj
    have h9 := hall.at_ j hj
    rw [hsz] at h9
    simp only [setCells, hsz]
    exact RelS.mono h9 hsx fun _ _ => .inr rfl
  · intro i' hi
    simp only [O.has] at hi
    obtain ⟨z, hz, hzi⟩ := hasAny_iff.1 hi
    rcases List.mem_append.1 hz with hz | hz
    · rcases List.mem_append.1 hz with hz | hz
      · exact hlive i' (by simp only [O.has]; exact hasAny_iff.2 ⟨z, List.mem_of_mem_take hz, hzi⟩)
      · exact (LiveL.cells ry.2) z hz i' hzi
    · exact hlive i' (by simp only [O.has]; exact hasAny_iff.2 ⟨z, List.mem_of_mem_drop hz, hzi⟩)
end
end Go.Fw

/-
  append onto a slice of the call's own.
-/
namespace Go.Fw
variable [XS]
open Go.RowKit (Below)
omit [XS] in
theorem has_erase (id : Nat) (x : A) : (x.erase id).has id = false := by
  unfold A.erase
  cases h : x.has id
  · simp [h]
  · rfl
omit [XS] in
theorem erase_has {id i : Nat} {x : A} (h : (x.erase id).has i = true) : x.has i = true ∧ i ≠ id := by
  refine ⟨?_, fun e => by rw [e, has_erase] at h; cases h⟩
  unfold A.erase at h
  cases hx : x.has id
  · rw [hx] at h; exact h
  · rw [hx] at h; simp [A.has] at h
omit [XS] in
theorem look_map {β γ : Type} (f : β → γ) (l : List (Nat × β)) (t : Nat) : look (l.map fun p => (p.1, f p.2)) t = (look l t).map f := by
  induction l with
  | nil => rfl
  | cons p r ih =>
    simp only [List.map_cons, look]
    cases Nat.beq p.1 t
    · exact ih
    · rfl
omit [XS] in
theorem erase_rel {w : World} {S : Nat → Prop} {cv : Nat → Option Value} {v : Value} {x : A} (id : Nat) (h : RelS w S cv v x) : RelS w S cv v (x.erase id) := by
  unfold A.erase
  cases x.has id
  · exact h
  · exact .any v
section
variable {P : Program} {B : Nat} {w0 : World} {U : Nat → Prop} {G : Value → A → Prop} {σ : St} {a : Act} {w : World} {cv : Nat → Option Value}
theorem SRcv.regrowO (h : SRcv B w0 U G σ a w cv) (hgr : σ.grds = []) {id e esz n : Nat} {nob : O} {u v' : Value} {w' : World} {xs : List Value} (hid : ∃ o, σ.obj id = some o) (hcv : cv id = some u) (hlo : σ.lo ≤ id)
    (hg : Grew B w w' e esz u v' n xs)
    (hnew : (∀ b, Sx w cv b → Sx w' (upd cv id v') b ∧ w'.heap[b]? = w.heap[b]?) → (∀ {v : Value} {x : A}, Rel w cv v x → Rel w' (upd cv id v') v (x.erase id)) → w'.ownsRow B e esz v' n xs → ObjOK B w' (upd cv id v') id nob)
    (hlive : ∀ j, nob.has j = true → ∃ o, σ.obj j = some o) (hv' : ∃ p c, v' = .slice p n c) :
    SRcv B w0 U G ((σ.erase id).addObjs [(id, nob)]) a w' (upd cv id v') ∧ Rel w' (upd cv id v') v' (.sl id n) := by
  have gb : w.grownBy w' u.ownBlock := by
    rcases hg with ⟨_, hg, _⟩ | ⟨_, hg⟩
    · exact hg
    · exact ⟨hg.os, hg.tape, hg.output, hg.size, fun k hk _ => hg.block k hk (by simp)⟩
  have hub := (h.mem.dom id u hcv).2
  have ownblk : ∀ {z : Value} {b : Nat}, blk z = some b → (∃ p l c, z = .slice p l c) → z.ownBlock = some b := by
    rintro z b hb ⟨p, l, c, rfl⟩
    cases p <;> simp [blk] at hb
    simp [Value.ownBlock, hb]
  have hus : (∃ p l c, u = .slice p l c) ∨ u.ownBlock = none := by
    cases u <;> first | exact .inl ⟨_, _, _, rfl⟩ | exact .inr rfl
  have hv'b : ∀ b, blk v' = some b → (blk u = some b ∨ w.heap.size ≤ b) ∧ B ≤ b ∧ b < w'.heap.size := by
    intro b hb
    obtain ⟨p, c, rfl⟩ := hv'
    have hob := ownblk hb ⟨_, _, _, rfl⟩
    rcases hg with ⟨ho, _, hsame⟩ | ⟨ho, _⟩
    · have := ho.lt b hob
      exact ⟨.inl (blk_slice (by rw [← hsame]; exact hob)), this⟩
    · have := ho.lt b hob
      exact ⟨.inr this.1, Nat.le_trans h.hB' this.1, this.2⟩
  have hsx : ∀ b, Sx w cv b → Sx w' (upd cv id v') b ∧ w'.heap[b]? = w.heap[b]? := by
    rintro b ⟨h1, h2⟩
    refine ⟨⟨Nat.lt_of_lt_of_le h1 gb.size, fun i z hz' e' => ?_, h2.2⟩, gb.block b h1 fun e' => ?_⟩
    · by_cases ei : i = id
      · subst ei
        rw [upd_same] at hz'
        injection hz' with hz'
        subst hz'
        rcases (hv'b b e').1 with h3 | h3
        · exact h2.1 i u hcv h3
        · omega
      · rw [upd_other cv v' ei] at hz'; exact h2.1 i z hz' e'
    · exact h2.1 id u hcv (blk_slice e'.symm)
  have hcvo : ∀ {x : A}, x.has id = false → ∀ i, x.has i = true → upd cv id v' i = none ∨ upd cv id v' i = cv i := by
    intro x hx i hi
    refine .inr (upd_other cv v' fun e' => ?_)
    rw [e', hx] at hi; cases hi
  have hob : ∀ i, ((σ.erase id).addObjs [(id, nob)]).obj i = if i = id then some (nob) else (σ.obj i).map (O.erase id) := by
    intro i
    show look ([(id, nob)] ++ σ.mem.map fun p => (p.1, p.2.erase id)) i = _
    by_cases ei : i = id
    · subst ei; simp [look]
    · have : Nat.beq id i = false := by
        cases hb : Nat.beq id i
        · rfl
        · exact absurd (Nat.eq_of_beq_eq_true hb).symm ei
      simp only [List.cons_append, List.nil_append, look, this, if_neg ei]
      rw [look_map]
      rfl
  have hkeep : ∀ i, (∃ o, σ.obj i = some o) → ∃ o, ((σ.erase id).addObjs [(id, nob)]).obj i = some o := by
    rintro i ⟨o, ho⟩
    rw [hob]
    by_cases ei : i = id
    · exact ⟨_, by rw [if_pos ei]⟩
    · exact ⟨o.erase id, by rw [if_neg ei, ho]; rfl⟩
  have liveE : ∀ {x : A}, Live σ.obj x → Live ((σ.erase id).addObjs [(id, nob)]).obj (x.erase id) := fun hl i hi => hkeep i (hl i (erase_has hi).1)
  have relE : ∀ {v : Value} {x : A}, Rel w cv v x → Rel w' (upd cv id v') v (x.erase id) := fun hr => (erase_rel id hr).mono hsx (hcvo (has_erase id _))
  refine ⟨⟨h.size, h.defers, ?_, Nat.le_trans h.hB gb.size, h.lo, h.lon, ?_, ⟨?_, ?_, ?_⟩, ?_, ?_, ?_⟩, ?_⟩
  · exact h.below.grown gb h.hB' fun k hk => (hub k (blk_slice hk)).1
  · intro i o ho
    rw [hob] at ho
    by_cases ei : i = id
    · obtain ⟨o1, ho1⟩ := hid
      rw [ei]; exact h.used id o1 ho1
    · rw [if_neg ei] at ho
      cases hoi : σ.obj i with
      | none => rw [hoi] at ho; cases ho
      | some o1 => exact h.used i o1 hoi
  · intro i o ho
    rw [hob] at ho
    by_cases ei : i = id
    · subst ei
      rw [if_pos rfl] at ho
      injection ho with ho
      subst ho
      refine ⟨hnew hsx relE ?_, fun j hj => hkeep j (hlive j hj)⟩
      rcases hg with ⟨ho, _⟩ | ⟨ho, _⟩
      · exact ho
      · refine ⟨ho.1, ?_⟩
        rcases ho.2 with h4 | ⟨g, cap, cur, h5, h6, h7⟩
        · exact .inl h4
        · exact .inr ⟨g, cap, cur, h5, Nat.le_trans h.hB' h6, h7⟩
    · rw [if_neg ei] at ho
      cases hoi : σ.obj i with
      | none => rw [hoi] at ho; cases ho
      | some o1 =>
        rw [hoi] at ho
        injection ho with ho
        subst ho
        have hold := h.mem.obj i o1 hoi
        cases o1 with
        | var cs =>
          obtain ⟨⟨b, vs, E', hc1, hh, hz', hr⟩, hl1⟩ := hold
          have hbi : b ≠ v'.ownBlock.getD (w'.heap.size) := by
            intro e'
            cases hvb : v'.ownBlock with
            | none => rw [hvb] at e'; simp at e'; have := (h.mem.dom i _ hc1).2 b rfl; have := gb.size; omega
            | some b2 =>
              rw [hvb] at e'; simp only [Option.getD_some] at e'
              subst e'
              rcases (hv'b b (blk_slice hvb)).1 with h3 | h3
              · exact ei (h.mem.inj i id _ u b hc1 hcv rfl h3)
              · have := (h.mem.dom i _ hc1).2 b rfl; omega
          have hhb : w'.heap[b]? = w.heap[b]? := gb.block b ((h.mem.dom i _ hc1).2 b rfl).2 fun e' => ei (h.mem.inj i id _ u b hc1 hcv rfl (blk_slice e'.symm))
          refine ⟨⟨b, vs, E', (upd_other cv v' ei).trans hc1, hhb.trans hh, by simpa [O.erase] using hz', fun j hj => ?_⟩, fun j hj => ?_⟩
          · have hj' : j < cs.length := by simpa using hj
            have := relE (hr j hj')
            simpa [List.getD, List.getElem?_map, List.getElem?_eq_getElem hj'] using this
          · simp only [O.erase, O.has] at hj
            obtain ⟨x, hx, hxj⟩ := hasAny_iff.1 hj
            obtain ⟨y, hy, rfl⟩ := List.mem_map.1 hx
            exact hkeep j (hl1 j (by simp only [O.has]; exact hasAny_iff.2 ⟨y, hy, (erase_has hxj).1⟩))
        | arr e2 esz2 len2 cs =>
          obtain ⟨hA, hl1⟩ := hold
          obtain ⟨v1, E', xs, hc1, hown1, hE1, hp1, hl2, hv1, hr⟩ := hA
          have hh : ∀ b, blk v1 = some b → w'.heap[b]? = w.heap[b]? := fun b hb => gb.block b ((h.mem.dom i _ hc1).2 b hb).2 fun e' => ei (h.mem.inj i id _ u b hc1 hcv hb (blk_slice e'.symm))
          refine ⟨⟨v1, E', xs, (upd_other cv v' ei).trans hc1, ownsRow_block hown1 hh, hE1, hp1, by simpa [O.erase] using hl2, hv1, fun j hj => ?_⟩, fun j hj => ?_⟩
          · have hj' : j < cs.length := by simpa using hj
            have := relE (hr j hj')
            simpa [List.getD, List.getElem?_map, List.getElem?_eq_getElem hj'] using this
          · simp only [O.erase, O.has] at hj
            obtain ⟨x, hx, hxj⟩ := hasAny_iff.1 hj
            obtain ⟨y, hy, rfl⟩ := List.mem_map.1 hx
            exact hkeep j (hl1 j (by simp only [O.has]; exact hasAny_iff.2 ⟨y, hy, (erase_has hxj).1⟩))
        | row e2 esz2 len2 get2 =>
          obtain ⟨u2, hu2⟩ := h.mem.live ⟨_, hoi⟩
          refine ⟨hold.1.step hsx (upd_other cv v' ei) (fun u3 b hu3 hb3 => gb.block b ((h.mem.dom i u3 hu3).2 b hb3).2 fun e' => ei (h.mem.inj i id _ u b hu3 hcv hb3 (blk_slice e'.symm))) (fun j hj => by simp [O.has] at hj), fun j hj => by simp [O.erase, O.has] at hj⟩
  · intro i z hz'
    by_cases ei : i = id
    · subst ei
      rw [upd_same] at hz'
      injection hz' with hz'
      subst hz'
      exact ⟨hkeep i hid, fun b hb => (hv'b b hb).2⟩
    · rw [upd_other cv v' ei] at hz'
      have := h.mem.dom i z hz'
      exact ⟨hkeep i this.1, fun b hb => ⟨(this.2 b hb).1, Nat.lt_of_lt_of_le (this.2 b hb).2 gb.size⟩⟩
  · intro i j z z' b hi hj hb hb'
    have key : ∀ k y, k ≠ id → cv k = some y → blk y = some b → blk v' = some b → False := by
      intro k y hk hy hyb hvb
      rcases (hv'b b hvb).1 with h3 | h3
      · exact hk (h.mem.inj k id y u b hy hcv hyb h3)
      · have := (h.mem.dom k y hy).2 b hyb; omega
    by_cases ei : i = id
    · by_cases ej : j = id
      · rw [ei, ej]
      · rw [upd_other cv v' ej] at hj
        rw [ei, upd_same] at hi
        injection hi with hi
        subst hi
        exact (key j z' ej hj hb' hb).elim
    · rw [upd_other cv v' ei] at hi
      by_cases ej : j = id
      · rw [ej, upd_same] at hj
        injection hj with hj
        subst hj
        exact (key i z ei hi hb hb').elim
      · rw [upd_other cv v' ej] at hj
        exact h.mem.inj i j z z' b hi hj hb hb'
  · intro t x hx
    have hx' : (look σ.tmps t).map (A.erase id) = some x := by rw [← look_map]; exact hx
    cases hlk : look σ.tmps t with
    | none => rw [hlk] at hx'; cases hx'
    | some y =>
      rw [hlk] at hx'
      injection hx' with hx'
      subst hx'
      have := h.slot t y hlk
      exact ⟨relE this.1, liveE this.2⟩
  · intro t g hgt
    have : grdAt σ.grds t = some g := hgt
    rw [hgr] at this
    cases this
  · intro v x hx
    obtain ⟨h1, h2, h3⟩ := h.ghost v x hx
    have hno : x.has id = false := by
      cases hh : x.has id
      · rfl
      · have := h3 id hh; omega
    exact ⟨h1.mono hsx (hcvo hno), fun i hi => hkeep i (h2 i hi), h3⟩
  · refine .sl fun z hz' => ?_
    rw [upd_same] at hz'
    injection hz' with hz'
    obtain ⟨p, c, rfl⟩ := hv'
    exact ⟨hz', p, c, hz'.symm⟩
theorem SRcv.regrow (h : SRcv B w0 U G σ a w cv) (hgr : σ.grds = []) {id e esz n : Nat} {get : Row A} {u v' : Value} {w' : World} {xs : List Value} {E : Nat} (hid : ∃ o, σ.obj id = some o) (hcv : cv id = some u) (hlo : σ.lo ≤ id)
    (hg : Grew B w w' E esz u v' n xs) (hE : e ≠ 0 → E = e) (hpos : 0 < esz) (hz : ∀ i, i < n → (get i).cells.length = esz)
    (hrel : ∀ i j, i < n → j < esz → ((get i).cells.getD j .any).flat = true ∧ RelD w (Sx w cv) (xs.getD (i * esz + j) undef) ((get i).cells.getD j .any)) (hv' : ∃ p c, v' = .slice p n c) :
    SRcv B w0 U G ((σ.erase id).addObjs [(id, .row e esz n get)]) a w' (upd cv id v') ∧ Rel w' (upd cv id v') v' (.sl id n) :=
  h.regrowO hgr hid hcv hlo hg (fun hsx _ hown => ⟨v', E, xs, upd_same _ _ _, hown, hE, hpos, hz, fun i' j hi hj => ⟨(hrel i' j hi hj).1, (hrel i' j hi hj).2.mono hsx⟩⟩) (fun j hj => by simp [O.has] at hj) hv'
end
end Go.Fw

/-
  The writing operations together.
-/
namespace Go.Fw
variable [XS]
open Go.RowKit (Below)
section
variable {P : Program} {B : Nat} {w0 : World} {U : Nat → Prop} {G : Value → A → Prop} {σ : St} {a : Act} {w : World} {cv : Nat → Option Value}
omit [XS] in
theorem getD_append_row (xs news : List Value) (l m esz : Nat) (hl : xs.length = l * esz) {i j : Nat} (hj : j < esz) :
    (xs ++ news).getD (i * esz + j) undef = if i < l then xs.getD (i * esz + j) undef else news.getD ((i - l) * esz + j) undef := by
  by_cases h : i < l
  · rw [if_pos h, getD_append_left _ _ _ _ (by rw [hl]; exact mul_lt h hj)]
  · rw [if_neg h, getD_append_right _ _ _ _ (by rw [hl]; have : l * esz ≤ i * esz := Nat.mul_le_mul_right _ (by omega); omega)]
    congr 1
    rw [hl, Nat.mul_sub_right_distrib]
    have : l * esz ≤ i * esz := Nat.mul_le_mul_right _ (by omega)
    omega
theorem wStep_append {cfg : Cfg} (hc : CfgOK P cfg) {base : Nat} {o : Oper} (hguard : o.guard = none) {c : Call} (ho : o.op = .call c) (hb : c.callee = .builtin .append) {x y : Operand} (hargs : c.args.toList = [x, y]) {t e : Nat} (hts : c.argTypes.toList = [t, t])
    {ti ei : TI} (ht : cfg.tt t = some ti) (he : ti.elem = some e) (hei : cfg.tt e = some ei) (hby : ei.bytes ≤ 1000) (h : SRcv B w0 U G σ a w cv) (hgr : σ.grds = []) {id len l : Nat} {get : Row A} (hx : opd σ.get0 x = .sl id len) (hid : σ.obj id = some (.row e ei.size l get)) (hlo : σ.lo ≤ id)
    {m : Nat} {getx : Row A} (hsrc : ∃ p cp news, Src w cv (a.eval y) ei.size m getx.at p cp news) (hmax : l + m ≤ 1073741824) {σ' : St}
    (hput : ((σ.erase id).addObjs [(id, .row e ei.size (l + m) (.app l get getx))]).put o.dst (.sl id (l + m)) = some σ') (hnext : base + 16 ≤ σ.next) (hne : e ≠ 0)
    {ops : Array Oper} {K : Act → World → Prop} {Q : Exit → Act → World → Prop} (hK : ∀ a' w', SR B w0 (fun i => U i ∨ (base ≤ i ∧ i < base + 16)) G σ' a' w' → K a' w') : StepOK P ops Q o K a w := by
  obtain ⟨p, cp, news, hs⟩ := hsrc
  have rx := h.slots0.opd x
  rw [hx] at rx
  obtain ⟨⟨u, E, xs, hcv, hown, hE, hpos, hz, hrel⟩, _⟩ := h.mem.obj id _ hid
  have hEe := hE hne
  subst hEe
  obtain ⟨hu, _⟩ := rx.1.sl_inv hcv
  obtain ⟨v', w', hr, hg⟩ := append_out (P := P) (ty := o.type) hc ht he hei hby hown hs.len hs.none hs.cells (hs.one hpos) hmax
  have hrun := exec_append ho hb hargs hts (v := v') (w' := w') (by rw [hu, hs.val]; exact hr)
  refine ⟨fun _ => ?_, fun hf => by unfold Region.wanted at hf; rw [hguard] at hf; cases hf⟩
  show o.upon P a K Q _
  rw [hrun]
  show K (a.put o.dst v') w'
  have hv' : ∃ p c, v' = .slice p (l + m) c := by
    have : w'.ownsRow w.heap.size E ei.size v' (l + m) (xs ++ news) ∨ w'.ownsRow B E ei.size v' (l + m) (xs ++ news) := by
      rcases hg with ⟨h1, _⟩ | ⟨h1, _⟩
      · exact .inr h1
      · exact .inl h1
    rcases this with h1 | h1 <;> rcases h1.2 with ⟨rfl, h2⟩ | ⟨g, cap, cur, rfl, _⟩
    · exact ⟨_, _, by rw [h2]⟩
    · exact ⟨_, _, rfl⟩
    · exact ⟨_, _, by rw [h2]⟩
    · exact ⟨_, _, rfl⟩
  have hre := h.regrow hgr (e := E) (esz := ei.size) (n := l + m) (get := .app l get getx) ⟨_, hid⟩ hcv hlo hg (fun _ => rfl) hpos
    (fun i hi => by
      by_cases hil : i < l
      · simp only [Row.app_at, hil, decide_true]; exact hz i hil
      · simp only [Row.app_at, hil, decide_false]; exact hs.size _ (by omega))
    (fun i j hi hj => by
      rw [getD_append_row xs news l m ei.size hown.1 hj]
      by_cases hil : i < l
      · simp only [Row.app_at, hil, decide_true, if_true]; exact hrel i j hil hj
      · simp only [Row.app_at, hil, decide_false, if_false]; exact hs.rel _ j (by omega) hj) hv'
  refine hK _ _ ⟨_, (hre.1.put hput hre.2 fun i hi => ?_).monoU (fun i hi => .inl hi) fun i hi => ?_⟩
  · simp only [A.has] at hi
    have := Nat.eq_of_beq_eq_true hi
    subst this
    exact ⟨_, by show look _ _ = _; simp [St.addObjs, look]; rfl⟩
  · have hn : σ'.next = σ.next := by
      cases hd : o.dst with
      | none => rw [hd] at hput; simp only [St.put, Option.some.injEq] at hput; rw [← hput]; rfl
      | some d =>
        rw [hd] at hput
        simp only [St.put] at hput
        split at hput
        · injection hput with hput; rw [← hput]; rfl
        · cases hput
    rw [hn]
    rcases hi with hi | hi
    · exact h.lo i hi
    · omega
theorem wStep_slice {cfg : Cfg} (hc : CfgOK P cfg) {base : Nat} {o : Oper} (hguard : o.guard = none) {t e : Nat} {ti ei : TI} (ht : cfg.tt t = some ti) (he : ti.elem = some e) (hei : cfg.tt e = some ei) {x hi : Operand} (ho : o.op = .slice t x none (some hi) none)
    (h : SRcv B w0 U G σ a w cv) (hgr : σ.grds = []) {id len l e' esz : Nat} {get : Row A} (hx : opd σ.get0 x = .sl id len) {k : IntKind} {n : Int} (hh : opd σ.get0 hi = .int k n) (hid : σ.obj id = some (.row e' esz l get)) (hlo : σ.lo ≤ id) (h0 : 0 ≤ n) (hn : n ≤ Int.ofNat l) {σ' : St}
    (hput : ((σ.erase id).addObjs [(id, .row e' esz n.toNat get)]).put o.dst (.sl id n.toNat) = some σ') (hnext : base + 16 ≤ σ.next)
    {ops : Array Oper} {K : Act → World → Prop} {Q : Exit → Act → World → Prop} (hK : ∀ a' w', SR B w0 (fun i => U i ∨ (base ≤ i ∧ i < base + 16)) G σ' a' w' → K a' w') : StepOK P ops Q o K a w := by
  have hn : n ≤ (l : Int) := hn
  have rx := h.slots0.opd x
  rw [hx] at rx
  have rh := h.slots0.opd hi
  rw [hh] at rh
  obtain ⟨⟨u, E, xs, hcv, hown, hE, hpos, hz, hrel⟩, _⟩ := h.mem.obj id _ hid
  obtain ⟨hu, _⟩ := rx.1.sl_inv hcv
  have hint := rh.1.int_inv
  have hu1 := (hc.tt t ti ht).elem e he
  obtain ⟨hu', hel⟩ := elem_of hu1
  obtain ⟨info, hinfo, hisz⟩ := TIOK.sizeE (t := t) (hc.tt e ei hei)
  have hsz : (sizeOf (P.elem t)).run P w = .ok ei.size w := by rw [hel, run_sizeOf hinfo, hisz]
  have hmul : n.toNat * esz ≤ l * esz := Nat.mul_le_mul_right _ (by omega)
  obtain ⟨v', hv1, hv2, hv3, hv4⟩ : ∃ v', (∃ p c, v' = .slice p n.toNat c) ∧ (Instr.slice t u none (some (.int k n)) none).run P w = .ok v' w ∧ w.ownsRow B E esz v' n.toNat (xs.take (n.toNat * esz)) ∧ v'.ownBlock = u.ownBlock := by
    have hxl : (xs.take (n.toNat * esz)).length = n.toNat * esz := by rw [List.length_take, hown.1]; omega
    rcases hown.2 with ⟨rfl, hl0⟩ | ⟨g, cap, cur, rfl, hg, hheap, hle, hmax, hcs, htake⟩
    · subst hl0
      obtain rfl : n = 0 := by omega
      have hr := run_slice_h (P := P) w t none 0 0 hu' k 0 (by omega) (by omega)
      rw [hsz, Result.andThen_ok] at hr
      exact ⟨.slice none 0 0, ⟨none, 0, rfl⟩, hr, ⟨hxl, .inl ⟨rfl, rfl⟩⟩, rfl⟩
    · have hr := run_slice_h (P := P) w t (some ⟨g, 0, none⟩) l cap hu' k n h0 (by omega)
      rw [hsz, Result.andThen_ok] at hr
      have es : sliced (some ⟨g, 0, none⟩) 0 n.toNat cap ei.size = .slice (some ⟨g, 0, none⟩) n.toNat cap := by
        unfold sliced
        rw [Nat.zero_mul]
        by_cases hc0 : cap = 0
        · rw [if_pos hc0]; rfl
        · rw [if_neg hc0]; simp [Addr.add]
      rw [es] at hr
      refine ⟨_, ⟨_, _, rfl⟩, hr, ⟨hxl, .inr ⟨g, cap, cur, rfl, hg, hheap, by omega, hmax, hcs, ?_⟩⟩, rfl⟩
      rw [← htake, List.take_take]
      congr 1
      omega
  have hrun : (execOp a.eval o).run P w = .ok (.value v') w := by
    have hv2' : (Instr.slice t (a.eval x) ((none : Option Operand).map a.eval) ((some hi).map a.eval) ((none : Option Operand).map a.eval)).run P w = .ok v' w := by
      rw [hu]
      show (Instr.slice t u none (some (a.eval hi)) none).run P w = .ok v' w
      rw [hint]; exact hv2
    simp only [execOp, ho, Sem.run_bind, run_sliceAt_slice w t _ _ _ _ hu', hv2', Result.andThen_ok]
    rfl
  refine ⟨fun _ => ?_, fun hf => by unfold Region.wanted at hf; rw [hguard] at hf; cases hf⟩
  show o.upon P a K Q _
  rw [hrun]
  show K (a.put o.dst v') w
  have hre := h.regrow hgr (e := e') (esz := esz) (n := n.toNat) (get := get) (u := u) (v' := v') (w' := w) (xs := xs.take (n.toNat * esz)) (E := E) ⟨_, hid⟩ hcv hlo
    (.inl ⟨hv3, ⟨rfl, rfl, rfl, Nat.le_refl _, fun _ _ _ => rfl⟩, hv4⟩) hE hpos (fun i hi => hz i (by omega))
    (fun i j hi hj => by
      have hlt : i * esz + j < n.toNat * esz := mul_lt hi hj
      have e1 : (xs.take (n.toNat * esz)).getD (i * esz + j) undef = xs.getD (i * esz + j) undef := by simp [List.getD, List.getElem?_take, hlt]
      rw [e1]
      exact hrel i j (by omega) hj) hv1
  refine hK _ _ ⟨_, (hre.1.put hput hre.2 fun i hi => ?_).monoU (fun i hi => .inl hi) fun i hi => ?_⟩
  · simp only [A.has] at hi
    have := Nat.eq_of_beq_eq_true hi
    subst this
    exact ⟨_, by show look _ _ = _; simp [St.addObjs, look]; rfl⟩
  · have hn : σ'.next = σ.next := by
      cases hd : o.dst with
      | none => rw [hd] at hput; simp only [St.put, Option.some.injEq] at hput; rw [← hput]; rfl
      | some d =>
        rw [hd] at hput
        simp only [St.put] at hput
        split at hput
        · injection hput with hput; rw [← hput]; rfl
        · cases hput
    rw [hn]
    rcases hi with hi | hi
    · exact h.lo i hi
    · omega
theorem wStep_append0 {cfg : Cfg} (hc : CfgOK P cfg) {base : Nat} {o : Oper} (hguard : o.guard = none) {c : Call} (ho : o.op = .call c) (hb : c.callee = .builtin .append) {x y : Operand} (hargs : c.args.toList = [x, y]) {t e : Nat} (hts : c.argTypes.toList = [t, t])
    {ti ei : TI} (ht : cfg.tt t = some ti) (he : ti.elem = some e) (hei : cfg.tt e = some ei) (hby : ei.bytes ≤ 1000) (h : SRcv B w0 U G σ a w cv) (hx : opd σ.get0 x = .emp)
    {m : Nat} {getx : Row A} (hsrc : ∃ p cp news, Src w cv (a.eval y) ei.size m getx.at p cp news) (hm : 0 < m) (hmax : m ≤ 1073741824) {σ' : St}
    (hput : (σ.addObjs [(base, .row e ei.size m getx)]).put o.dst (.sl base m) = some σ') (hnext : base + 16 ≤ σ.next) (hfresh : ∀ id, base ≤ id → id < base + 16 → ¬ U id)
    {ops : Array Oper} {K : Act → World → Prop} {Q : Exit → Act → World → Prop} (hK : ∀ a' w', SR B w0 (fun i => U i ∨ (base ≤ i ∧ i < base + 16)) G σ' a' w' → K a' w') : StepOK P ops Q o K a w := by
  obtain ⟨p, cp, news, hs⟩ := hsrc
  have rx := h.slots0.opd x
  rw [hx] at rx
  obtain ⟨b, hu⟩ := rx.1.emp_inv
  have hpos := (hc.tt e ei hei).pos
  obtain ⟨v', w', hr, hown, hg⟩ := append_emp (P := P) (ty := o.type) hc ht he hei hby b hs.len hs.none hs.cells (hs.one hpos) hmax hm
  have hrun := exec_append ho hb hargs hts (v := v') (w' := w') (by rw [hu, hs.val]; exact hr)
  refine ⟨fun _ => ?_, fun hf => by unfold Region.wanted at hf; rw [hguard] at hf; cases hf⟩
  show o.upon P a K Q _
  rw [hrun]
  show K (a.put o.dst v') w'
  have hgrow : Grow w w' := ⟨hg.os, hg.tape, hg.output, hg.size, fun k hk => hg.block k hk (by simp)⟩
  have hcvb : cv base = none := by
    cases hcv : cv base with
    | none => rfl
    | some u =>
      obtain ⟨o', ho'⟩ := (h.mem.dom base u hcv).1
      exact absurd (h.used base o' ho') (hfresh base (Nat.le_refl _) (by omega))
  have hvs : ∃ p c, v' = .slice p m c := by
    rcases hown.2 with ⟨rfl, h2⟩ | ⟨g, cap, cur, rfl, _⟩
    · exact ⟨_, _, by rw [h2]⟩
    · exact ⟨_, _, rfl⟩
  have hvb : ∀ bb, blk v' = some bb → w.heap.size ≤ bb ∧ bb < w'.heap.size := by
    intro bb hbb
    obtain ⟨p', c', rfl⟩ := hvs
    refine hown.lt bb ?_
    cases p' <;> simp [blk] at hbb
    simp [Value.ownBlock, hbb]
  have hst : CvStep B w w' cv (upd cv base v') := by
    refine ⟨hgrow, fun id u' hu' => ?_, fun id u' hu' => ?_⟩
    · rw [upd_other cv v' (fun e' => by rw [e', hcvb] at hu'; cases hu')]; exact hu'
    · by_cases e' : id = base
      · subst e'
        rw [upd_same] at hu'
        injection hu' with hu'
        subst hu'
        exact .inr ⟨hcvb, hvb⟩
      · rw [upd_other cv v' e'] at hu'; exact .inl hu'
  have hstep := h.step (os := [(base, .row e ei.size m getx)]) (base := base) hst (fun id o' hl => by
      simp only [look] at hl
      split at hl
      · rename_i hbq
        have e' := Nat.eq_of_beq_eq_true hbq
        subst e'
        injection hl with hl
        subst hl
        refine ⟨⟨v', e, news, upd_same _ _ _, ⟨hown.1, ?_⟩, fun _ => rfl, hpos, hs.size, fun i j hi hj => ⟨(hs.rel i j hi hj).1, (hs.rel i j hi hj).2.mono hst.sx⟩⟩, fun i hi => by simp [O.has] at hi⟩
        rcases hown.2 with h4 | ⟨g, cap, cur, h5, h6, h7⟩
        · exact .inl h4
        · exact .inr ⟨g, cap, cur, h5, Nat.le_trans h.hB' h6, h7⟩
      · cases hl)
    (fun id u' hu' => by
      by_cases e' : id = base
      · subst e'; exact .inr ⟨_, by simp [look]; rfl⟩
      · rw [upd_other cv v' e'] at hu'; exact .inl hu')
    (fun i j u1 u2 bb hi hj hni hnj _ _ => by
      have ei' : i = base := by
        by_cases e' : i = base
        · exact e'
        · rw [upd_other cv v' e', hni] at hi; cases hi
      have ej' : j = base := by
        by_cases e' : j = base
        · exact e'
        · rw [upd_other cv v' e', hnj] at hj; cases hj
      rw [ei', ej'])
    (by
      have h1 : Nat.ble base base = true := Nat.ble_eq_true_of_le (Nat.le_refl _)
      have h2 : Nat.blt base (base + 16) = true := Nat.ble_eq_true_of_le (by omega)
      simp only [idsOk, h1, h2]) hfresh hnext
  refine hK _ _ ⟨_, hstep.put hput (.sl fun z hz => ?_) fun i hi => ?_⟩
  · rw [upd_same] at hz
    injection hz with hz
    obtain ⟨p', c', rfl⟩ := hvs
    exact ⟨hz, p', c', hz.symm⟩
  · simp only [A.has] at hi
    have := Nat.eq_of_beq_eq_true hi
    subst this
    exact ⟨_, by show look _ _ = _; simp [St.addObjs, look]; rfl⟩
end
end Go.Fw

/-
  The writing operations together.
-/
namespace Go.Fw
variable [XS]
open Go.RowKit (Below)
section
variable {P : Program} {B : Nat} {w0 : World} {U : Nat → Prop} {G : Value → A → Prop} {σ : St} {a : Act} {w : World} {cv : Nat → Option Value}
theorem rpt_lt (h : SRcv B w0 U G σ a w cv) {x : Operand} {id esz i off e len : Nat} {get : Row A} (hx : opd σ.get0 x = .rpt id esz i off) (hid : σ.obj id = some (.row e esz len get)) :
    i < len ∧ ∀ j, j < len → (get j).cells.length = esz := by
  have rx := h.slots0.opd x
  rw [hx] at rx
  obtain ⟨⟨u, E, xs, hcv, hown, hE, hpos, hz, hrel⟩, hlive⟩ := h.mem.obj id _ hid
  obtain ⟨b, l, c, hu, hil, ex⟩ := rx.1.rpt_inv hcv
  subst hu
  refine ⟨?_, hz⟩
  rcases hown.2 with ⟨hnil, _⟩ | ⟨g, cap, cur, hv, _⟩
  · cases hnil
  · injection hv with _ hv2 _
    rw [hv2] at hil
    exact hil
omit [XS] in
theorem getD_setCells (cs vs : List A) (off n : Nat) (hn : vs.length = n) (hl : off + n ≤ cs.length) (j : Nat) (hj : j < cs.length) :
    (setCells cs off vs).getD j .any = if off ≤ j ∧ j < off + n then vs.getD (j - off) .any else cs.getD j .any := by
  unfold setCells
  have h1 : (cs.take off).length = off := by simp; omega
  by_cases h : j < off
  · rw [List.append_assoc, getD_append_left _ _ _ _ (by rw [h1]; exact h), getD_take _ _ _ _ h, if_neg (by omega)]
  · by_cases h2 : j < off + n
    · rw [getD_append_left _ _ _ _ (by simp [h1]; omega), getD_append_right _ _ _ _ (by rw [h1]; omega), h1, if_pos (by omega)]
    · rw [getD_append_right _ _ _ _ (by simp [h1]; omega), getD_drop, if_neg (by omega)]
      congr 1
      simp [h1]; omega
theorem wStep_sound {cfg : Cfg} (hc : CfgOK P cfg) {base : Nat} {ops : Array Oper} {o : Oper} {c : Bool} {σ' : St} (h : SRcv B w0 U G σ a w cv)
    (hq : wStep cfg base o σ = some (c, σ')) (hct : c = true) (hfresh : ∀ id, base ≤ id → id < base + 16 → ¬ U id) (hnext : base + 16 ≤ σ.next)
    {K : Act → World → Prop} {Q : Exit → Act → World → Prop} (hK : ∀ a' w', SR B w0 (fun id => U id ∨ (base ≤ id ∧ id < base + 16)) G σ' a' w' → K a' w') : StepOK P ops Q o K a w := by
  unfold wStep at hq
  split at hq
  · rename_i hguard hgr
    split at hq
    · -- store
      rename_i t x y ho
      split at hq
      · rename_i ti id off ht hx
        split at hq
        · rename_i cs hid
          split at hq
          · rename_i h1 h2 hd
            simp only [Bool.and_eq_true] at h1
            simp only [Option.some.injEq, Prod.mk.injEq] at hq
            obtain ⟨_, rfl⟩ := hq
            exact wStep_var hc hguard hd ho ht h hx rfl hid (Nat.eq_of_beq_eq_true h1.1) h1.2 (Nat.le_of_ble_eq_true h2) hnext hK
          · cases hq
        · cases hq
      · rename_i ti id esz i off ht hx
        split at hq
        · rename_i e esz' len get hid
          split at hq
          · rename_i h1 h2 h3 h4 hd
            have e1 := Nat.eq_of_beq_eq_true h1
            subst e1
            simp only [Bool.and_eq_true] at h2
            have hsz := Nat.eq_of_beq_eq_true h2.1
            have hoff := Nat.le_of_ble_eq_true h3
            obtain ⟨hil, hz⟩ := rpt_lt h hx hid
            split at hq
            · rename_i h5 h6
              have e5 := Nat.eq_of_beq_eq_true h5
              have e6 := Nat.eq_of_beq_eq_true h6
              simp only [Option.some.injEq, Prod.mk.injEq] at hq
              obtain ⟨_, rfl⟩ := hq
              refine wStep_row hc hguard hd ho ht h hx rfl hid hsz h2.2 hoff h4 hnext _ (fun j hj => by simp [Row.set_at, hj]) (by simp [Row.set_at]; omega) (fun jj hjj => ?_) hK
              rw [if_pos (by omega)]
              simp [Row.set_at, e6]
            · simp only [Option.some.injEq, Prod.mk.injEq] at hq
              obtain ⟨_, rfl⟩ := hq
              have hgl := hz i hil
              refine wStep_row hc hguard hd ho ht h hx rfl hid hsz h2.2 hoff h4 hnext _ (fun j hj => by simp [Row.set_at, hj]) ?_ (fun jj hjj => ?_) hK
              · simp only [Row.set_at, decide_true]
                show (setCells (get i).cells off (opd σ.get0 y).cells).length = esz
                simp only [setCells, List.length_append, List.length_take, List.length_drop]
                omega
              · simp only [Row.set_at, decide_true]
                show (setCells (get i).cells off (opd σ.get0 y).cells).getD jj .any = _
                exact getD_setCells (get i).cells _ off ti.size hsz (by omega) jj (by omega)
          · cases hq
        · rename_i e esz' l cs hid
          split at hq
          · rename_i h1 h2 h3 hd
            have e1 := Nat.eq_of_beq_eq_true h1
            subst e1
            simp only [Bool.and_eq_true] at h2
            simp only [Option.some.injEq, Prod.mk.injEq] at hq
            obtain ⟨_, rfl⟩ := hq
            exact wStep_arr hc hguard hd ho ht h hx rfl hid (Nat.eq_of_beq_eq_true h2.1) h2.2 (Nat.le_of_ble_eq_true h3) hnext hK
          · cases hq
        · cases hq
      · cases hq
    · -- append
      rename_i cl ho
      split at hq
      · rename_i s x t t' hb hargs hts
        split at hq
        · rename_i ti h1 ht
          have e1 := Nat.eq_of_beq_eq_true h1
          subst e1
          split at hq
          · rename_i e he
            split at hq
            · rename_i ei hei
              split at hq
              · cases hq
              rename_i hby
              simp only [Bool.and_eq_true, Bool.not_eq_true'] at hby
              have hb1 := Nat.le_of_ble_eq_true hby.1
              have hne : e ≠ 0 := Nat.ne_of_beq_eq_false hby.2
              have hpos := (hc.tt e ei hei).pos
              have rx := h.slots0.opd x
              simp only at hq
              split at hq
              · rename_i cc m getx _ hsrc hdst
                have hS : cc = true ∧ ∃ p cp news, Src w cv (a.eval x) ei.size m getx.at p cp news := by
                  split at hsrc
                  · rename_i esz m' get' hx
                    split at hsrc
                    · rename_i hbe
                      have e2 := Nat.eq_of_beq_eq_true hbe
                      subst e2
                      simp only [Option.some.injEq, Prod.mk.injEq] at hsrc
                      obtain ⟨rfl, rfl, rfl⟩ := hsrc
                      rw [hx] at rx
                      exact ⟨rfl, src_ro rx.1.ro_inv hpos⟩
                    · cases hsrc
                  · rename_i id l hx
                    split at hsrc
                    · rename_i esz l' get' hid
                      split at hsrc
                      · rename_i hbe
                        have e2 := Nat.eq_of_beq_eq_true hbe
                        subst e2
                        simp only [Option.some.injEq, Prod.mk.injEq] at hsrc
                        obtain ⟨rfl, rfl, rfl⟩ := hsrc
                        rw [hx] at rx
                        exact ⟨rfl, src_sl h.mem rx.1 hid⟩
                      · cases hsrc
                    · cases hsrc
                  · rename_i hx
                    simp only [Option.some.injEq, Prod.mk.injEq] at hsrc
                    obtain ⟨rfl, rfl, rfl⟩ := hsrc
                    rw [hx] at rx
                    obtain ⟨p, hp⟩ := rx.1.emp_inv
                    exact ⟨rfl, p, 0, [], hp, by simp, fun _ => rfl, (fun ad _ j u hu => by simp at hu), (fun i hi => by omega), (fun i j hi => by omega)⟩
                  · cases hsrc
                split at hq
                · rename_i hs
                  split at hq
                  · rename_i σ1 hput
                    simp only [Option.some.injEq, Prod.mk.injEq] at hq
                    obtain ⟨hcc, rfl⟩ := hq
                    rw [← hcc] at hct
                    simp only [Bool.and_eq_true, decide_eq_true_eq] at hct
                    exact wStep_append0 hc hguard ho hb hargs hts ht he hei hb1 h hs hS.2 hct.1.2 hct.2 hput hnext hfresh hK
                  · cases hq
                · rename_i id len hs
                  split at hq
                  · rename_i e' esz l get hid
                    split at hq
                    · rename_i hbb
                      simp only [Bool.and_eq_true] at hbb
                      have e2 := Nat.eq_of_beq_eq_true hbb.1
                      have e3 := Nat.eq_of_beq_eq_true hbb.2
                      subst e2 e3
                      split at hq
                      · cases hq
                      rename_i hlo
                      split at hq
                      · rename_i σ1 hput
                        simp only [Option.some.injEq, Prod.mk.injEq] at hq
                        obtain ⟨hcc, rfl⟩ := hq
                        rw [← hcc] at hct
                        simp only [Bool.and_eq_true, decide_eq_true_eq] at hct
                        exact wStep_append hc hguard ho hb hargs hts ht he hei hb1 h hgr hs hid (Nat.le_of_ble_eq_true hlo) hS.2 hct.2 hput hnext hne hK
                      · cases hq
                    · cases hq
                  · cases hq
                · cases hq
              · cases hq
            · cases hq
          · cases hq
        · cases hq
      · cases hq
    · -- slice
      rename_i t x hi ho
      split at hq
      · rename_i ti id len k n d ht hx hh hd
        split at hq
        · rename_i e e' esz l get he hid
          split at hq
          · rename_i ei hei hlo
            split at hq
            · rename_i σ1 hput
              simp only [Option.some.injEq, Prod.mk.injEq] at hq
              obtain ⟨hcc, rfl⟩ := hq
              rw [← hcc] at hct
              simp only [Bool.and_eq_true, decide_eq_true_eq] at hct
              exact wStep_slice hc hguard ht he hei ho h hgr hx hh hid (Nat.le_of_ble_eq_true hlo) hct.1 hct.2 hput hnext hK
            · cases hq
          · cases hq
        · cases hq
      · cases hq
    · cases hq
  · cases hq
end
end Go.Fw

/-
  append of a row of places whose length is known.
-/
namespace Go.Fw
variable [XS]
open Go.RowKit (Below)
section
variable {P : Program} {B : Nat} {w0 : World} {U : Nat → Prop} {G : Value → A → Prop} {σ : St} {a : Act} {w : World} {cv : Nat → Option Value}
omit [XS] in
theorem allFlat_at {cs : List A} (h : allFlat cs = true) {j : Nat} (hj : j < cs.length) : (cs.getD j .any).flat = true := by
  have e : cs.getD j .any = cs[j] := by simp [List.getD, List.getElem?_eq_getElem hj]
  rw [e]
  exact allFlat_mem h _ (List.getElem_mem hj)
theorem src_arr {ob : Nat → Option O} {v : Value} {id e esz m len : Nat} {cs : List A} (hm : MemOK B w cv ob) (hx : Rel w cv v (.sl id len)) (hid : ob id = some (.arr e esz m cs)) (hfl : allFlat cs = true) :
    ∃ p cp, ∃ news : List Value, v = .slice p m cp ∧ news.length = m * esz ∧ cs.length = m * esz ∧ (p = none → m = 0) ∧ (∀ ad, p = some ad → ∀ j u, news[j]? = some u → w.cell? (ad.add j) = some u) ∧
      (∀ j, j < cs.length → Rel w cv (news.getD j undef) (cs.getD j .any)) ∧ (∀ u, u ∈ news → u.oneCell' = true) := by
  obtain ⟨⟨u, E, xs, hcv, hown, hE, hpos, hcl, hv0, hrel⟩, hlive⟩ := hm.obj id _ hid
  obtain ⟨rfl, p, c, hu⟩ := hx.sl_inv hcv
  have hone : ∀ u, u ∈ xs → u.oneCell' = true := by
    intro z hz
    obtain ⟨k, hk⟩ := List.mem_iff_getElem?.1 hz
    have hkl : k < cs.length := by have := (List.getElem?_eq_some_iff.1 hk).1; rw [hown.1, ← hcl] at this; exact this
    have hr := hrel k hkl
    rw [show xs.getD k undef = z by simp [List.getD, hk]] at hr
    refine (Rel.flat_one hr (allFlat_at hfl hkl) fun i hi => hm.live ?_).1
    exact hlive i (by simp only [O.has]; exact hasAny_getD hi)
  obtain ⟨hxl, hown⟩ := hown
  rcases hown with ⟨hnil, rfl⟩ | ⟨g, cap, cur, hv, hgB, hheap, hle, hcm, hcs, htake⟩
  · exact ⟨none, 0, xs, hnil, hxl, hcl, fun _ => rfl, (fun ad had => by cases had), hrel, hone⟩
  · refine ⟨some ⟨g, 0, none⟩, cap, xs, hv, hxl, hcl, (fun h => by cases h), fun ad had j z hj => ?_, hrel, hone⟩
    injection had with had
    rw [add_add ad g 0 j had.symm, Nat.zero_add, cell_of_row w g j cur E (0, 0) hheap]
    rw [← htake, List.getElem?_take] at hj
    split at hj
    · simpa using hj
    · cases hj
omit [XS] in
theorem slice_of_own {w' : World} {b e esz n : Nat} {v' : Value} {xs : List Value} (h : w'.ownsRow b e esz v' n xs) : ∃ p c, v' = .slice p n c := by
  rcases h.2 with ⟨rfl, h2⟩ | ⟨g, cap, cur, rfl, _⟩
  · exact ⟨_, _, by rw [h2]⟩
  · exact ⟨_, _, rfl⟩
omit [XS] in
theorem next_put {σ σ' : St} {d : Option Nat} {x : A} (hput : σ.put d x = some σ') : σ'.next = σ.next := by
  cases d with
  | none => simp only [St.put, Option.some.injEq] at hput; rw [← hput]
  | some d =>
    simp only [St.put] at hput
    split at hput
    · injection hput with hput; rw [← hput]
    · cases hput
theorem aStep_app {cfg : Cfg} (hc : CfgOK P cfg) {base : Nat} {o : Oper} (hguard : o.guard = none) {c : Call} (ho : o.op = .call c) (hb : c.callee = .builtin .append) {x y : Operand} (hargs : c.args.toList = [x, y]) {t e : Nat} (hts : c.argTypes.toList = [t, t])
    {ti ei : TI} (ht : cfg.tt t = some ti) (he : ti.elem = some e) (hei : cfg.tt e = some ei) (hby : ei.bytes ≤ 1000) (h : SRcv B w0 U G σ a w cv) (hgr : σ.grds = []) {id len l : Nat} {cs : List A} (hx : opd σ.get0 x = .sl id len) (hid : σ.obj id = some (.arr e ei.size l cs)) (hlo : σ.lo ≤ id)
    {idx len2 e2 m : Nat} {csx : List A} (hy : opd σ.get0 y = .sl idx len2) (hidx : σ.obj idx = some (.arr e2 ei.size m csx)) (hfl : allFlat csx = true) (hmax : l + m ≤ 1073741824) {σ' : St}
    (hput : ((σ.erase id).addObjs [(id, .arr e ei.size (l + m) ((cs ++ csx).map (A.erase id)))]).put o.dst (.sl id (l + m)) = some σ') (hnext : base + 16 ≤ σ.next)
    {ops : Array Oper} {K : Act → World → Prop} {Q : Exit → Act → World → Prop} (hK : ∀ a' w', SR B w0 (fun i => U i ∨ (base ≤ i ∧ i < base + 16)) G σ' a' w' → K a' w') : StepOK P ops Q o K a w := by
  have rx := h.slots0.opd x
  rw [hx] at rx
  have ry := h.slots0.opd y
  rw [hy] at ry
  obtain ⟨p, cp, news, hval, hnl, hcx, hpn, hcell, hrx, hone⟩ := src_arr h.mem ry.1 hidx hfl
  obtain ⟨⟨u, E, xs, hcv, hown, hE, hpos, hcl, hv0, hrel⟩, hlive⟩ := h.mem.obj id _ hid
  have hlivex := (h.mem.obj idx _ hidx).2
  subst hE
  obtain ⟨hu, _⟩ := rx.1.sl_inv hcv
  obtain ⟨v', w', hr, hg⟩ := append_out (P := P) (ty := o.type) hc ht he hei hby hown hnl hpn hcell hone hmax
  have hrun := exec_append ho hb hargs hts (v := v') (w' := w') (by rw [hu, hval]; exact hr)
  refine ⟨fun _ => ?_, fun hf => by unfold Region.wanted at hf; rw [hguard] at hf; cases hf⟩
  show o.upon P a K Q _
  rw [hrun]
  show K (a.put o.dst v') w'
  have hv' : ∃ p c, v' = .slice p (l + m) c := by
    rcases hg with ⟨h1, _⟩ | ⟨h1, _⟩ <;> exact slice_of_own h1
  have hre := h.regrowO hgr (nob := .arr E ei.size (l + m) ((cs ++ csx).map (A.erase id))) ⟨_, hid⟩ hcv hlo hg
    (fun _ relE hown' => ⟨v', E, xs ++ news, upd_same _ _ _, hown', rfl, hpos, by rw [List.length_map, List.length_append, hcl, hcx, Nat.add_mul], hv', fun j hj => by
      rw [List.length_map] at hj
      have e1 : ((cs ++ csx).map (A.erase id)).getD j .any = ((cs ++ csx).getD j .any).erase id := by
        have hj' : j < ((cs ++ csx).map (A.erase id)).length := by rw [List.length_map]; exact hj
        simp only [List.getD, List.getElem?_eq_getElem hj, List.getElem?_eq_getElem hj', Option.getD_some, List.getElem_map]
      rw [e1]
      refine relE ?_
      have hxs : LRel (Rel w cv) xs cs := ⟨by rw [hown.1, hcl], fun j hj => hrel j hj⟩
      have hns : LRel (Rel w cv) news csx := ⟨by rw [hnl, hcx], fun j hj => hrx j hj⟩
      exact (hxs.append hns).at_ j hj⟩)
    (fun j hj => by
      simp only [O.has] at hj
      obtain ⟨x, hx, hxj⟩ := hasAny_iff.1 hj
      obtain ⟨z, hz, rfl⟩ := List.mem_map.1 hx
      have hzj := (erase_has hxj).1
      rcases List.mem_append.1 hz with hz | hz
      · exact hlive j (by simp only [O.has]; exact hasAny_iff.2 ⟨z, hz, hzj⟩)
      · exact hlivex j (by simp only [O.has]; exact hasAny_iff.2 ⟨z, hz, hzj⟩)) hv'
  refine hK _ _ ⟨_, (hre.1.put hput hre.2 fun i hi => ?_).monoU (fun i hi => .inl hi) fun i hi => ?_⟩
  · simp only [A.has] at hi
    have := Nat.eq_of_beq_eq_true hi
    subst this
    exact ⟨_, by show look _ _ = _; simp [St.addObjs, look]; rfl⟩
  · rw [next_put hput]
    rcases hi with hi | hi
    · exact h.lo i hi
    · show i < σ.next
      omega
theorem aStep_new {cfg : Cfg} (hc : CfgOK P cfg) {base : Nat} {o : Oper} (hguard : o.guard = none) {c : Call} (ho : o.op = .call c) (hb : c.callee = .builtin .append) {x y : Operand} (hargs : c.args.toList = [x, y]) {t e : Nat} (hts : c.argTypes.toList = [t, t])
    {ti ei : TI} (ht : cfg.tt t = some ti) (he : ti.elem = some e) (hei : cfg.tt e = some ei) (hby : ei.bytes ≤ 1000) (h : SRcv B w0 U G σ a w cv) (hx : opd σ.get0 x = .emp)
    {idx len2 e2 m : Nat} {csx : List A} (hy : opd σ.get0 y = .sl idx len2) (hidx : σ.obj idx = some (.arr e2 ei.size m csx)) (hfl : allFlat csx = true) (hm : 0 < m) (hmax : m ≤ 1073741824) {σ' : St}
    (hput : (σ.addObjs [(base, .arr e ei.size m csx)]).put o.dst (.sl base m) = some σ') (hnext : base + 16 ≤ σ.next) (hfresh : ∀ id, base ≤ id → id < base + 16 → ¬ U id)
    {ops : Array Oper} {K : Act → World → Prop} {Q : Exit → Act → World → Prop} (hK : ∀ a' w', SR B w0 (fun i => U i ∨ (base ≤ i ∧ i < base + 16)) G σ' a' w' → K a' w') : StepOK P ops Q o K a w := by
  have rx := h.slots0.opd x
  rw [hx] at rx
  have ry := h.slots0.opd y
  rw [hy] at ry
  obtain ⟨p, cp, news, hval, hnl, hcx, hpn, hcell, hrx, hone⟩ := src_arr h.mem ry.1 hidx hfl
  have hlivex := (h.mem.obj idx _ hidx).2
  obtain ⟨b, hu⟩ := rx.1.emp_inv
  have hpos := (hc.tt e ei hei).pos
  obtain ⟨v', w', hr, hown, hg⟩ := append_emp (P := P) (ty := o.type) hc ht he hei hby b hnl hpn hcell hone hmax hm
  have hrun := exec_append ho hb hargs hts (v := v') (w' := w') (by rw [hu, hval]; exact hr)
  refine ⟨fun _ => ?_, fun hf => by unfold Region.wanted at hf; rw [hguard] at hf; cases hf⟩
  show o.upon P a K Q _
  rw [hrun]
  show K (a.put o.dst v') w'
  have hgrow : Grow w w' := ⟨hg.os, hg.tape, hg.output, hg.size, fun k hk => hg.block k hk (by simp)⟩
  have hcvb : cv base = none := by
    cases hcv : cv base with
    | none => rfl
    | some u =>
      obtain ⟨o', ho'⟩ := (h.mem.dom base u hcv).1
      exact absurd (h.used base o' ho') (hfresh base (Nat.le_refl _) (by omega))
  have hvs : ∃ p c, v' = .slice p m c := slice_of_own hown
  have hvb : ∀ bb, blk v' = some bb → w.heap.size ≤ bb ∧ bb < w'.heap.size := by
    intro bb hbb
    obtain ⟨p', c', rfl⟩ := hvs
    refine hown.lt bb ?_
    cases p' <;> simp [blk] at hbb
    simp [Value.ownBlock, hbb]
  have hst : CvStep B w w' cv (upd cv base v') := by
    refine ⟨hgrow, fun id u' hu' => ?_, fun id u' hu' => ?_⟩
    · rw [upd_other cv v' (fun e' => by rw [e', hcvb] at hu'; cases hu')]; exact hu'
    · by_cases e' : id = base
      · subst e'
        rw [upd_same] at hu'
        injection hu' with hu'
        subst hu'
        exact .inr ⟨hcvb, hvb⟩
      · rw [upd_other cv v' e'] at hu'; exact .inl hu'
  have hnb : ∀ j, O.has j (.arr e ei.size m csx) = true → ∃ o, σ.obj j = some o := fun j hj => by
    simp only [O.has] at hj
    exact hlivex j (by simp only [O.has]; exact hj)
  have hstep := h.step (os := [(base, .arr e ei.size m csx)]) (base := base) hst (fun id o' hl => by
      simp only [look] at hl
      split at hl
      · rename_i hbq
        have e' := Nat.eq_of_beq_eq_true hbq
        subst e'
        injection hl with hl
        subst hl
        refine ⟨⟨v', e, news, upd_same _ _ _, ⟨hown.1, ?_⟩, rfl, hpos, hcx, hvs, fun j hj => (hrx j hj).mono hst.sx fun i hi => ?_⟩, fun i hi => ?_⟩
        · rcases hown.2 with h4 | ⟨g, cap, cur, h5, h6, h7⟩
          · exact .inl h4
          · exact .inr ⟨g, cap, cur, h5, Nat.le_trans h.hB' h6, h7⟩
        · refine .inr (upd_other cv v' fun e' => ?_)
          obtain ⟨o', ho'⟩ := hnb i (by simp only [O.has]; exact hasAny_getD hi)
          exact absurd (h.used i o' ho') (hfresh i (by omega) (by omega))
        · obtain ⟨o', ho'⟩ := hnb i hi
          exact .inl ⟨o', ho'⟩
      · cases hl)
    (fun id u' hu' => by
      by_cases e' : id = base
      · subst e'; exact .inr ⟨_, by simp [look]; rfl⟩
      · rw [upd_other cv v' e'] at hu'; exact .inl hu')
    (fun i j u1 u2 bb hi hj hni hnj _ _ => by
      have ei' : i = base := by
        by_cases e' : i = base
        · exact e'
        · rw [upd_other cv v' e', hni] at hi; cases hi
      have ej' : j = base := by
        by_cases e' : j = base
        · exact e'
        · rw [upd_other cv v' e', hnj] at hj; cases hj
      rw [ei', ej'])
    (by
      have h1 : Nat.ble base base = true := Nat.ble_eq_true_of_le (Nat.le_refl _)
      have h2 : Nat.blt base (base + 16) = true := Nat.ble_eq_true_of_le (by omega)
      simp only [idsOk, h1, h2]) hfresh hnext
  refine hK _ _ ⟨_, hstep.put hput (.sl fun z hz => ?_) fun i hi => ?_⟩
  · rw [upd_same] at hz
    injection hz with hz
    obtain ⟨p', c', rfl⟩ := hvs
    exact ⟨hz, p', c', hz.symm⟩
  · simp only [A.has] at hi
    have := Nat.eq_of_beq_eq_true hi
    subst this
    exact ⟨_, by show look _ _ = _; simp [St.addObjs, look]; rfl⟩
theorem aStep_sound {cfg : Cfg} (hc : CfgOK P cfg) {base : Nat} {ops : Array Oper} {o : Oper} {c : Bool} {σ' : St} (h : SRcv B w0 U G σ a w cv)
    (hq : aStep cfg base o σ = some (c, σ')) (hct : c = true) (hfresh : ∀ id, base ≤ id → id < base + 16 → ¬ U id) (hnext : base + 16 ≤ σ.next)
    {K : Act → World → Prop} {Q : Exit → Act → World → Prop} (hK : ∀ a' w', SR B w0 (fun id => U id ∨ (base ≤ id ∧ id < base + 16)) G σ' a' w' → K a' w') : StepOK P ops Q o K a w := by
  unfold aStep at hq
  split at hq
  · rename_i hguard hgr
    split at hq
    · rename_i cl ho
      split at hq
      · rename_i s x t t' hb hargs hts
        split at hq
        · rename_i ti h1 ht
          have e1 := Nat.eq_of_beq_eq_true h1
          subst e1
          split at hq
          · rename_i e he
            split at hq
            · rename_i ei hei
              split at hq
              · rename_i idx len2 hby hy
                split at hq
                · rename_i e2 esz m csx hidx
                  split at hq
                  · cases hq
                  · rename_i hz
                    simp only [Bool.and_eq_true] at hz
                    have ez := Nat.eq_of_beq_eq_true hz.1
                    subst ez
                    split at hq
                    · rename_i hx
                      split at hq
                      · rename_i hput
                        simp only [Option.some.injEq, Prod.mk.injEq] at hq
                        obtain ⟨h2, rfl⟩ := hq
                        rw [← h2] at hct
                        simp only [Bool.and_eq_true, decide_eq_true_eq] at hct
                        exact aStep_new hc hguard ho hb hargs hts ht he hei (Nat.le_of_ble_eq_true hby) h hx hy hidx hz.2 hct.1 hct.2 hput hnext hfresh hK
                      · cases hq
                    · rename_i id len hx
                      split at hq
                      · rename_i e' esz' l cs hid
                        split at hq
                        · rename_i h3
                          simp only [Bool.and_eq_true] at h3
                          have e3 := Nat.eq_of_beq_eq_true h3.1.1
                          have e4 := Nat.eq_of_beq_eq_true h3.1.2
                          subst e3 e4
                          split at hq
                          · rename_i hput
                            simp only [Option.some.injEq, Prod.mk.injEq] at hq
                            obtain ⟨h2, rfl⟩ := hq
                            rw [← h2] at hct
                            exact aStep_app hc hguard ho hb hargs hts ht he hei (Nat.le_of_ble_eq_true hby) h hgr hx hid (Nat.le_of_ble_eq_true h3.2) hy hidx hz.2 (of_decide_eq_true hct) hput hnext hK
                          · cases hq
                        · cases hq
                      · cases hq
                    · cases hq
                · cases hq
              · cases hq
            · cases hq
          · cases hq
        · cases hq
      · cases hq
    · cases hq
  · cases hq
end
end Go.Fw

/-
  Trees of outcomes, and what it means that one is right; calls that are walked in place; an operation's step.
-/
namespace Go.Fw
variable [XS]
open Go.RowKit (Below)
omit [XS] in
theorem T.Ok.of_bind {P : Program} : ∀ {t : T} {f : XK → St → T} {L : XK → St → Prop}, (t.bind f).Ok P L → t.Ok P fun x σ => (f x σ).Ok P L
  | .leaf _ _, _, _, h => h
  | .ite _ _ _, _, _, h => ⟨fun hb => (h.1 hb).of_bind, fun hb => (h.2 hb).of_bind⟩
  | .fail, _, _, h => h.elim
  | .loop _ _ _, _, _, ⟨S, h1, h2⟩ => ⟨S, h1, fun x σ' hs => (h2 x σ' hs).of_bind⟩
def ExOK (P : Program) (ex : Code → St → T) : Prop := ∀ c, CodeOK P ex c
def LpOK (P : Program) (lp : Nat → Option (St → T)) (c : Code) : Prop :=
  ∀ id b f, (id, b) ∈ blocksOf c → lp id = some f → CodeOK P (fun _ σ => f σ) (.block id b)
section
variable {P : Program} {B : Nat} {w0 : World} {U : Nat → Prop} {G : Value → A → Prop} {σ : St} {a : Act} {w : World} {cv : Nat → Option Value}
theorem retAll_run {cfg : Cfg} (hc : CfgOK P cfg) (h : SRcv B w0 U G σ a w cv) : ∀ (rs : List ResultVar) (xs : List A), retAll cfg σ rs = some xs →
    ∃ vs : List Value, ((rs.mapM fun
    | .tmp t => pure (a.tmps.getD t undef)
    | .cell p t => do loadVar t (← asAddr (a.tmps.getD p undef))) : Sem (List Value)).run P w = .ok vs w ∧ LRel (Rel w cv) vs xs ∧ LiveL σ.obj xs
  | [], xs, hr => by
    simp only [retAll, Option.some.injEq] at hr
    subst hr
    exact ⟨[], by simp, ⟨rfl, fun j hj => by simp at hj⟩, fun x hx => by cases hx⟩
  | r :: rest, xs, hr => by
    simp only [retAll] at hr
    split at hr
    · rename_i x hx
      split at hr
      · rename_i l hl
        simp only [Option.some.injEq] at hr
        subst hr
        obtain ⟨vs, h1, h2, h3⟩ := retAll_run hc h rest l hl
        have one : ∃ v, ((match r with
            | .tmp t => pure (a.tmps.getD t undef)
            | .cell p t => do loadVar t (← asAddr (a.tmps.getD p undef))) : Sem Value).run P w = .ok v w ∧ Rel w cv v x ∧ Live σ.obj x := by
          cases r with
          | tmp t =>
            simp only [retOne, Option.some.injEq] at hx
            subst hx
            exact ⟨_, rfl, (h.get t).1, (h.get t).2⟩
          | cell p ty =>
            simp only [retOne] at hx
            split at hx
            · rename_i ti ht
              obtain ⟨b, off, v, e1, e2, e3, e4⟩ := load_run hc ht (fun i o' h => h) h.mem (h.get p).1 (h.get p).2 hx
              refine ⟨v, ?_, e3, e4⟩
              simp only [Sem.run_bind, e1, asAddr, Sem.run_pure, Result.andThen_ok, e2]
            · cases hx
        obtain ⟨v, h4, h5, h6⟩ := one
        refine ⟨v :: vs, ?_, ⟨by simp [h2.len], fun j hj => ?_⟩, fun y hy => ?_⟩
        · rw [List.mapM_cons, Sem.run_bind, h4, Result.andThen_ok, Sem.run_bind, h1]
          simp
        · cases j with
          | zero => exact h5
          | succ j => simp only [List.getD_cons_succ]; exact h2.at_ j (by simpa using hj)
        · rcases List.mem_cons.1 hy with rfl | hy
          · exact h6
          · exact h3 y hy
      · cases hr
    · cases hr
theorem retVal_sound {cfg : Cfg} (hc : CfgOK P cfg) (h : SRcv B w0 U G σ a w cv) {fn : Func} {x : A} (hr : retVal cfg fn σ = some x) :
    ∃ v, (results fn a.tmps).run P w = .ok v w ∧ Rel w cv v x ∧ Live σ.obj x := by
  unfold retVal at hr
  have key : ∀ l, retAll cfg σ fn.results.toList = some l → ∃ vs : Array Value, vs.toList.length = l.length ∧ (results fn a.tmps).run P w = .ok (if h : vs.size = 1 then vs[0] else .tuple vs) w ∧ LRel (Rel w cv) vs.toList l ∧ LiveL σ.obj l := by
    intro l hl
    obtain ⟨vs, h1, h2, h3⟩ := retAll_run hc h _ _ hl
    refine ⟨vs.toArray, by simpa using h2.len, ?_, by simpa using h2, h3⟩
    unfold results
    rw [Sem.run_bind, Array.mapM_eq_mapM_toList, Sem.run_map]
    exact congrArg (fun r : Result (List Value) => (r.andThen fun a w' => Result.ok a.toArray w').andThen fun a w' => Sem.run P (pure (if h : a.size = 1 then a[0] else Value.tuple a)) w') h1
  split at hr
  · rename_i y hl
    injection hr with hr
    subst hr
    obtain ⟨vs, h0, h1, h2, h3⟩ := key _ hl
    have hsz : vs.size = 1 := by simpa using h0
    rw [dif_pos hsz] at h1
    refine ⟨_, h1, ?_, h3 y (by simp)⟩
    have := h2.at_ 0 (by simp)
    simpa [hsz] using this
  · rename_i l hne hl
    injection hr with hr
    subst hr
    obtain ⟨vs, h0, h1, h2, h3⟩ := key _ hl
    have hsz : vs.size ≠ 1 := by
      intro e
      match l, h0, hne with
      | [], h0, _ => simp [e] at h0
      | [x], _, hne => exact hne x rfl
      | _ :: _ :: _, h0, _ => simp [e] at h0
    rw [dif_neg hsz] at h1
    refine ⟨_, h1, .tup h2.to_array.1 h2.to_array.2, h3.tup⟩
  · cases hr
end
end Go.Fw

/-
  One operation of any kind; operations one after another.
-/
namespace Go.Fw
variable [XS]
open Go.RowKit (Below)
omit [XS] in
theorem put_keep {σ σ' : St} {d : Option Nat} {x : A} (h : σ.put d x = some σ') : σ'.n = σ.n ∧ σ'.lo = σ.lo ∧ σ'.next = σ.next ∧ σ'.grds = σ.grds := by
  cases d with
  | none => simp only [St.put, Option.some.injEq] at h; subst h; exact ⟨rfl, rfl, rfl, rfl⟩
  | some d =>
    simp only [St.put] at h
    split at h
    · injection h with h; subst h; exact ⟨rfl, rfl, rfl, rfl⟩
    · cases h
omit [XS] in
theorem qStep_keep {cfg : Cfg} {obj : Nat → Option O} {own : Nat → Bool} {base : Nat} {ops : Array Oper} {o : Oper} {σ σ' : St} {c : Bool} (h : qStep cfg obj own base ops o σ = some (c, σ')) :
    σ'.n = σ.n ∧ σ'.lo = σ.lo ∧ σ'.next = σ.next := by
  unfold qStep at h
  split at h
  · cases h
  · rename_i r hr
    unfold qPut at h
    split at h
    · split at h
      · cases h
      · split at h
        · rename_i hp
          simp only [Option.some.injEq, Prod.mk.injEq] at h
          obtain ⟨_, rfl⟩ := h
          have := put_keep hp
          exact ⟨this.1, this.2.1, this.2.2.1⟩
        · cases h
    · split at h
      · cases h
      · split at h
        · simp only [Option.some.injEq, Prod.mk.injEq] at h
          obtain ⟨_, rfl⟩ := h
          exact ⟨rfl, rfl, rfl⟩
        · cases h
omit [XS] in
theorem wStep_keep {cfg : Cfg} {base : Nat} {o : Oper} {σ σ' : St} {c : Bool} (h : wStep cfg base o σ = some (c, σ')) : σ'.n = σ.n ∧ σ'.lo = σ.lo ∧ σ'.next = σ.next := by
  unfold wStep at h
  repeat' split at h
  all_goals first
    | (cases h; done)
    | (simp only [Option.some.injEq, Prod.mk.injEq] at h; obtain ⟨_, rfl⟩ := h; exact ⟨rfl, rfl, rfl⟩)
    | (rename_i hp; simp only [Option.some.injEq, Prod.mk.injEq] at h; obtain ⟨_, rfl⟩ := h; have := put_keep hp; exact ⟨this.1, this.2.1, this.2.2.1⟩)
    | (simp only at h
       repeat' split at h
       all_goals first
        | (cases h; done)
        | (rename_i hp; simp only [Option.some.injEq, Prod.mk.injEq] at h; obtain ⟨_, rfl⟩ := h; have := put_keep hp; exact ⟨this.1, this.2.1, this.2.2.1⟩))
omit [XS] in
theorem aStep_keep {cfg : Cfg} {base : Nat} {o : Oper} {σ σ' : St} {c : Bool} (h : aStep cfg base o σ = some (c, σ')) : σ'.n = σ.n ∧ σ'.lo = σ.lo ∧ σ'.next = σ.next := by
  unfold aStep at h
  repeat' split at h
  all_goals first
    | (cases h; done)
    | (rename_i hp; simp only [Option.some.injEq, Prod.mk.injEq] at h; obtain ⟨_, rfl⟩ := h; have := put_keep hp; exact ⟨this.1, this.2.1, this.2.2.1⟩)
section
variable {P : Program} {B : Nat} {w0 : World} {U : Nat → Prop} {G : Value → A → Prop} {σ : St} {a : Act} {w : World} {cv : Nat → Option Value}
theorem SRcv.noGrds (h : SRcv B w0 U G σ a w cv) : SRcv B w0 U G { σ with grds := [] } a w cv :=
  ⟨h.size, h.defers, h.below, h.hB, h.lo, h.lon, h.used, h.mem, h.slot, (fun t g hg => by cases hg), h.ghost⟩
omit [XS] in
theorem look_zipFrom : ∀ (xs : List A) (i t : Nat), look (zipFrom i xs) t = if i ≤ t then xs[t - i]? else none
  | [], i, t => by simp [zipFrom, look]
  | x :: r, i, t => by
    simp only [zipFrom]
    by_cases e : t = i
    · subst e; simp [look_cons_same]
    · rw [look_cons_other x _ e, look_zipFrom r (i + 1) t]
      by_cases h : i ≤ t
      · have h1 : i + 1 ≤ t := by omega
        have h2 : t - i = (t - (i + 1)) + 1 := by omega
        simp only [h, h1, if_true, h2, List.getElem?_cons_succ]
      · have h1 : ¬ i + 1 ≤ t := by omega
        simp only [h, h1, if_false]
theorem SRcv.enter (h : SRcv B w0 U G σ a w cv) {fn : Func} {vs : Array Value} {args : List A} (hsz : vs.size = args.length) (hrel : ∀ i, i < args.length → Rel w cv (vs.getD i undef) (args.getD i .any))
    (hlive : LiveL σ.obj args) (hle : args.length ≤ fn.ntmps) :
    SRcv B w0 U (fun v x => G v x ∨ ∃ t, look σ.tmps t = some x ∧ v = a.tmps.getD t undef) (St.enter fn args σ.mem σ.next) { tmps := vs ++ Array.replicate (fn.ntmps - vs.size) undef, defers := [] } w cv := by
  refine ⟨by simp [St.enter, hsz]; omega, rfl, h.below, h.hB, h.lo, Nat.le_refl _, h.used, h.mem, ?_, (fun t g hg => by cases hg), ?_⟩
  · intro t x hx
    have hx' : look (zipFrom 0 args) t = some x := hx
    rw [look_zipFrom] at hx'
    simp only [Nat.zero_le, if_true, Nat.sub_zero] at hx'
    have ht : t < args.length := (List.getElem?_eq_some_iff.1 hx').1
    have e1 : args.getD t .any = x := by simp [List.getD, hx']
    have e2 : (vs ++ Array.replicate (fn.ntmps - vs.size) undef).getD t undef = vs.getD t undef := by
      rw [← toList_getD, Array.toList_append, getD_append_left _ _ _ _ (by simp; omega), toList_getD]
    show Rel w cv ((vs ++ Array.replicate (fn.ntmps - vs.size) undef).getD t undef) x ∧ _
    rw [e2, ← e1]
    refine ⟨hrel t ht, ?_⟩
    exact hlive.getD t
  · rintro v x (hg | ⟨t, ht, rfl⟩)
    · have := h.ghost v x hg
      exact ⟨this.1, this.2.1, fun id hid => by
        obtain ⟨o', ho'⟩ := this.2.1 id hid
        exact h.lo id (h.used id o' ho')⟩
    · have := h.slot t x ht
      exact ⟨this.1, this.2, fun id hid => by
        obtain ⟨o', ho'⟩ := this.2 id hid
        exact h.lo id (h.used id o' ho')⟩
theorem SRcv.leave (h : SRcv B w0 U G σ a w cv) {U' : Nat → Prop} {σ' : St} {a' : Act} {w' : World} {cv' : Nat → Option Value}
    (h' : SRcv B w0 U' (fun v x => G v x ∨ ∃ t, look σ.tmps t = some x ∧ v = a.tmps.getD t undef) σ' a' w' cv') (hn : σ.next ≤ σ'.next) :
    SRcv B w0 U' G { σ with grds := [], mem := σ'.mem, next := σ'.next } a w' cv' := by
  refine ⟨h.size, h.defers, h'.below, h'.hB, h'.lo, Nat.le_trans h.lon hn, h'.used, h'.mem, ?_, (fun t g hg => by cases hg), ?_⟩
  · intro t x hx
    have := h'.ghost _ x (.inr ⟨t, hx, rfl⟩)
    exact ⟨this.1, this.2.1⟩
  · intro v x hg
    have := h'.ghost v x (.inl hg)
    exact ⟨this.1, this.2.1, (h.ghost v x hg).2.2⟩
theorem stepOp_sound {cfg : Cfg} (hc : CfgOK P cfg) {ex : Code → St → T} (hex : ExOK P ex) {own : Nat → Bool} {base : Nat} {ops : Array Oper} {o : Oper} {L : XK → St → Prop} (h : SRcv B w0 U G σ a w cv)
    (hok : (stepOp cfg own ex base ops o σ).Ok P L) (hfresh : ∀ id, base ≤ id → id < base + 16 → ¬ U id) (hnext : base + 16 ≤ σ.next)
    {K : Act → World → Prop} {Q : Exit → Act → World → Prop}
    (hK : ∀ x σ' a' w' (U' : Nat → Prop), L x σ' → (∀ i, U i → U' i) → (∀ i, U' i → U i ∨ (base ≤ i ∧ i < base + 16) ∨ σ.next ≤ i) → SR B w0 U' G σ' a' w' → σ'.n = σ.n → σ'.lo = σ.lo → σ.next ≤ σ'.next → K a' w') :
    StepOK P ops Q o K a w := by
  unfold stepOp at hok
  split at hok
  · rename_i c σ1 hq
    have hk := qStep_keep hq
    cases hcc : c
    · rw [hcc] at hok; exact (hok.2 rfl).elim
    · have hl := hok.1 hcc
      exact qStep_sound hc h hq hcc (fun i o' h => h) hfresh hnext fun a' w' hs => hK .normal σ1 a' w' _ hl (fun i hi => .inl hi) (fun i hi => hi.elim .inl fun hi => .inr (.inl hi)) hs hk.1 hk.2.1 (Nat.le_of_eq hk.2.2.symm)
  · split at hok
    · rename_i c σ1 hq
      have hk := wStep_keep hq
      cases hcc : c
      · rw [hcc] at hok; exact (hok.2 rfl).elim
      · have hl := hok.1 hcc
        exact wStep_sound hc h hq hcc hfresh hnext fun a' w' hs => hK .normal σ1 a' w' _ hl (fun i hi => .inl hi) (fun i hi => hi.elim .inl fun hi => .inr (.inl hi)) hs hk.1 hk.2.1 (Nat.le_of_eq hk.2.2.symm)
    · split at hok
      · rename_i c σ1 hq
        have hk := aStep_keep hq
        cases hcc : c
        · rw [hcc] at hok; exact (hok.2 rfl).elim
        · have hl := hok.1 hcc
          exact aStep_sound hc h hq hcc hfresh hnext fun a' w' hs => hK .normal σ1 a' w' _ hl (fun i hi => .inl hi) (fun i hi => hi.elim .inl fun hi => .inr (.inl hi)) hs hk.1 hk.2.1 (Nat.le_of_eq hk.2.2.symm)
      · split at hok
        · rename_i gx fn args hcal
          split at hok
          · rename_i body hbody hble
            unfold callee at hcal
            split at hcal
            · rename_i f cargs cts hop hguard
              split at hcal
              · rename_i g caps hf
                split at hcal
                · rename_i fn' hft
                  simp only [Option.some.injEq, Prod.mk.injEq] at hcal
                  obtain ⟨rfl, rfl, hargs⟩ := hcal
                  obtain ⟨hfn, hname⟩ := hc.ft g fn' hft
                  have rf := h.slots0.opd f
                  rw [hf] at rf
                  obtain ⟨vs, ef, hvs, hvr⟩ := rf.1.fn_inv
                  have har := args_rel h.slots0 cargs hvs hvr
                  have hlive : LiveL σ.obj (cargs.toList.map (opd σ.get0) ++ caps) := by
                    refine LiveL.append (fun x hx => ?_) rf.2.fnL
                    obtain ⟨y, _, rfl⟩ := List.mem_map.1 hx
                    exact (h.slots0.opd y).2
                  rw [hargs] at har hlive
                  have henter := h.enter (fn := fn') har.1 har.2 hlive (Nat.le_of_ble_eq_true hble)
                  have hrun : (execOp a.eval o).run P w = .ok (.enter g (cargs.map a.eval ++ vs)) w := by
                    rw [execOp_call (c := ⟨.value f, cargs, cts⟩) hop rfl ef]
                    have h1 : fn'.name ≠ "runtime.NumGoroutine" := by simpa using hname
                    simp [callFunc, hfn, h1, hbody]
                  have hcode : CodeOK P (fun c σ => match cfg.fx g with | some s => s σ | none => ex c σ) body := by
                    cases hfx : cfg.fx g with
                    | none => exact hex body
                    | some s => exact hc.fx g s fn' body hfx hft hbody
                  have hbod := hcode _ _ hok.of_bind inferInstance B w0 U _ _ w ⟨cv, henter⟩ rfl
                  refine ⟨fun _ => ?_, fun hf => by unfold Region.wanted at hf; rw [hguard] at hf; cases hf⟩
                  show o.upon P a K Q _
                  rw [hrun]
                  refine calls_of_wp hfn hbody (wp_mono hbod ?_)
                  rintro e a1 w1 ⟨x, σ1, rfl, hl, U1, b1, b2, ⟨cv1, hs1⟩, b3, b4, b5, b6⟩
                  have hback : (match retVal cfg fn' σ1 with
                      | some v => match ({ σ with grds := [], mem := σ1.mem, next := σ1.next } : St).put o.dst v with
                        | some σ'' => T.leaf .normal σ''
                        | none => .fail
                      | none => .fail).Ok P L → a1.defers = [] ∧ ∃ v, (results fn' a1.tmps).run P w1 = .ok v w1 ∧ K (a.put o.dst v) w1 := by
                    intro hb
                    split at hb
                    · rename_i v hv
                      split at hb
                      · rename_i σ2 hput
                        obtain ⟨rv, h3, h4, h5⟩ := retVal_sound hc hs1 hv
                        have hle := h.leave hs1 b5
                        have hk := put_keep hput
                        refine ⟨hs1.defers, rv, h3, hK .normal σ2 _ _ U1 hb b1 (fun i hi => ?_) ⟨cv1, hle.put hput h4 h5⟩ hk.1 hk.2.1 (by rw [hk.2.2.1]; exact b5)⟩
                        rcases b2 i hi with h6 | h6
                        · exact .inl h6
                        · exact .inr (.inr h6)
                      · exact hb.elim
                    · exact hb.elim
                  cases x with
                  | normal => exact hback hl
                  | ret => exact hback hl
                  | exit i => exact hl.elim
                · cases hcal
              · cases hcal
            · cases hcal
          · exact hok.elim
        · exact hok.elim
theorem runOps_sound {cfg : Cfg} (hc : CfgOK P cfg) {ex : Code → St → T} (hex : ExOK P ex) {own : Nat → Bool} {ops : Array Oper} {L : XK → St → Prop} {Q : Exit → Act → World → Prop} :
    ∀ (l : List Oper) (base : Nat) (σ : St) (U : Nat → Prop) (a : Act) (w : World) (cv : Nat → Option Value), SRcv B w0 U G σ a w cv → (runOps cfg own ex ops base l σ).Ok P L →
    (∀ id, base ≤ id → id < base + 16 * l.length → ¬ U id) → base + 16 * l.length ≤ σ.next →
    (∀ σ' a' w' (U' : Nat → Prop), L .normal σ' → (∀ i, U i → U' i) → (∀ i, U' i → U i ∨ base ≤ i) → SR B w0 U' G σ' a' w' → σ'.n = σ.n → σ'.lo = σ.lo → σ.next ≤ σ'.next → σ'.grds = [] → Q .normal a' w') →
    wpList P ops Q l a w
  | [], base, σ, U, a, w, cv, h, hok, _, _, hQ => hQ _ a w U hok (fun _ h => h) (fun _ h => .inl h) ⟨cv, h.noGrds⟩ rfl rfl (Nat.le_refl _) rfl
  | o :: rest, base, σ, U, a, w, cv, h, hok, hfresh, hnext, hQ => by
    simp only [List.length_cons] at hfresh hnext
    have hok' := T.Ok.of_bind hok
    have hstep : StepOK P ops Q o (wpList P ops Q rest) a w := by
      refine stepOp_sound hc hex h hok' (fun id h1 h2 => hfresh id h1 (by omega)) (by omega) fun x σ' a' w' U' hl h1 h2 hs hn hlo hnx => ?_
      obtain ⟨cv', hs⟩ := hs
      refine runOps_sound hc hex rest (base + 16) σ' U' a' w' cv' hs hl (fun id h3 h4 hu => ?_) (by omega) fun σ2 a2 w2 U2 hl2 k1 k2 k3 k4 k5 k6 k7 => ?_
      · rcases h2 id hu with h5 | h5 | h5
        · exact hfresh id (by omega) (by omega) h5
        · omega
        · omega
      · refine hQ σ2 a2 w2 U2 hl2 (fun i hi => k1 i (h1 i hi)) (fun i hi => ?_) k3 (k4.trans hn) (k5.trans hlo) (by omega) k7
        rcases k2 i hi with h5 | h5
        · rcases h2 i h5 with h6 | h6 | h6
          · exact .inl h6
          · exact .inr h6.1
          · exact .inr (by omega)
        · exact .inr (by omega)
    unfold wpList
    cases hw : Region.wanted o (yielded ops a.tmps)
    · simp only [Bool.false_eq_true, if_false]; exact hstep.2 hw
    · simp only [if_true]; exact .inl (hstep.1 hw)
end
end Go.Fw

/-
  The operations of a drawn region's head: what one sees and does does not hang on the drawn order.
-/
namespace Go.Fw
open Go.RowKit (Below)
theorem memNat_mem {x : Nat} : ∀ {l : List Nat}, memNat x l = true → x ∈ l
  | [], h => by cases h
  | y :: r, h => by
    simp only [memNat] at h
    split at h
    · rename_i hb
      have := Nat.eq_of_beq_eq_true hb
      subst this
      exact List.mem_cons_self
    · exact List.mem_cons_of_mem _ (memNat_mem h)
theorem restr_congr {l : List Nat} {f g : Nat → A} (h : ∀ t, t ∈ l → f t = g t) : restr l f = restr l g := by
  funext t
  unfold restr
  split
  · rename_i hm; exact h t (memNat_mem hm)
  · rfl
theorem guardOf_looks {ops : Array Oper} {o : Oper} {s : Nat} {w : Bool} (h : guardOf ops o = some (some (s, w))) : s ∈ looks ops o := by
  unfold guardOf at h
  split at h
  · cases h
  · rename_i j want hg
    split at h
    · rename_i oj hoj
      split at h
      · rename_i s' hs
        simp only [Option.some.injEq, Prod.mk.injEq] at h
        obtain ⟨rfl, rfl⟩ := h
        unfold looks
        simp [hg, hoj, hs]
      · cases h
    · cases h
def Alike (ops : Array Oper) (o : Oper) (σ τ : St) : Prop :=
  ∀ t, t ∈ looks ops o → look σ.tmps t = look τ.tmps t ∧ grdAt σ.grds t = grdAt τ.grds t ∧ ∀ g, grdAt σ.grds t = some g → look σ.tmps g.s = look τ.tmps g.s
section
variable {ops : Array Oper} {o : Oper} {σ τ : St}
theorem Alike.get (h : Alike ops o σ τ) {t : Nat} (ht : t ∈ looks ops o) : σ.get t = τ.get t := by simp only [St.get, (h t ht).1]
theorem Alike.gcond (h : Alike ops o σ τ) {t : Nat} (ht : t ∈ looks ops o) (w : Bool) : gcond σ t w = gcond τ t w := by
  have h1 := h t ht
  unfold Fw.gcond
  rw [← h1.2.1, ← h.get ht]
  cases hg : grdAt σ.grds t with
  | none => rfl
  | some g => simp only [St.get, h1.2.2 g hg]
theorem Alike.get0 (h : Alike ops o σ τ) {t : Nat} (ht : t ∈ looks ops o) : σ.get0 t = τ.get0 t := by
  have h1 := h t ht
  unfold St.get0
  rw [← h1.2.1, ← h.get ht]
theorem Alike.getG (h : Alike ops o σ τ) {t s : Nat} {w : Bool} (ht : t ∈ looks ops o) (hs : s ∈ looks ops o) : σ.getG s w t = τ.getG s w t := by
  have h1 := h t ht
  have h2 := h s hs
  unfold St.getG
  rw [← h1.2.1, ← h.get ht, ← h2.2.1]
theorem Alike.pickOf (h : Alike ops o σ τ) {g1 g2 : Nat → A} (hg : ∀ t, t ∈ looks ops o → g1 t = g2 t) : pickOf σ g1 o = pickOf τ g2 o := by
  unfold Fw.pickOf
  cases ho : o.op <;> try rfl
  rename_i c x y
  have mem : ∀ t, (c = .tmp t ∨ x = .tmp t ∨ y = .tmp t) → t ∈ looks ops o := by
    intro t ht
    unfold looks
    refine List.mem_append_left _ (List.mem_filterMap.2 ⟨.tmp t, ?_, rfl⟩)
    rw [ho]
    simp only [Op.operands]
    rcases ht with rfl | rfl | rfl <;> simp
  have side : ∀ (s : Nat) (z : Operand) (w : Bool), (z = x ∨ z = y) →
      (match z with | .tmp t => (match grdAt σ.grds t with | some g => (match Nat.beq g.s s && (g.w == w) with | true => g.a | false => g1 t) | none => g1 t) | z => opd g1 z) =
      (match z with | .tmp t => (match grdAt τ.grds t with | some g => (match Nat.beq g.s s && (g.w == w) with | true => g.a | false => g2 t) | none => g2 t) | z => opd g2 z) := by
    intro s z w hz
    cases z with
    | tmp t =>
      have hm : t ∈ looks ops o := mem t (by rcases hz with h | h <;> simp [h])
      simp only
      rw [← (h t hm).2.1, hg t hm]
    | const v => rfl
    | global v => rfl
    | func v => rfl
  cases c with
  | tmp s =>
    have hm := mem s (.inl rfl)
    simp only
    rw [← hg s hm]
    cases hb : g1 s <;> try rfl
    rename_i b
    simp only
    rw [← h.gcond hm b]
    have e1 := side s x true (.inl rfl)
    have e2 := side s y false (.inr rfl)
    cases Fw.gcond σ s b <;> try rfl
    simp only
    exact congr (congrArg (pickA b) e1) e2
  | const v => rfl
  | global v => rfl
  | func v => rfl
theorem Alike.qVal (h : Alike ops o σ τ) (cfg : Cfg) (obj : Nat → Option O) (own : Nat → Bool) (base : Nat) : qVal cfg obj own base ops o σ = qVal cfg obj own base ops o τ := by
  unfold Fw.qVal
  cases hg : guardOf ops o with
  | none => rfl
  | some g =>
    cases g with
    | none =>
      simp only
      rw [h.pickOf (fun t ht => h.get0 ht), restr_congr (fun t ht => h.get0 ht)]
    | some sw =>
      obtain ⟨s, w⟩ := sw
      have hs := guardOf_looks hg
      simp only
      rw [h.gcond hs w, h.pickOf (fun t ht => h.getG (w := w) ht hs), restr_congr (fun t ht => h.getG (w := w) ht hs)]
end
theorem grdFree_of {gs : List Grd} {d : Nat} (h : ∀ g, g ∈ gs → g.s ≠ d ∧ g.t ≠ d) : grdFree gs d = true := by
  have ne : ∀ {a b : Nat}, a ≠ b → Nat.beq a b = false := fun {a b} hab => by
    cases hb : Nat.beq a b
    · rfl
    · exact absurd (Nat.eq_of_beq_eq_true hb) hab
  induction gs with
  | nil => rfl
  | cons g r ih =>
    have h0 := h g List.mem_cons_self
    simp only [grdFree, ne h0.1, ne h0.2]
    exact ih fun g' hg' => h g' (List.mem_cons_of_mem _ hg')
structure Wrote (ops : Array Oper) (o : Oper) (b d : Nat) (r : Option (Nat × Bool × Bool) × Bool × A × List (Nat × O)) (σ σ' : St) : Prop where
  n : σ'.n = σ.n
  lo : σ'.lo = σ.lo
  next : σ'.next = σ.next
  slot : look σ'.tmps d = (match r.1 with | none => some r.2.2.1 | some _ => some .any)
  slots : ∀ t, t ≠ d → look σ'.tmps t = look σ.tmps t
  grd : grdAt σ'.grds d = (match r.1 with | none => none | some (s, w, _) => some ⟨d, s, w, r.2.2.1⟩)
  grds : ∀ t, t ≠ d → grdAt σ'.grds t = grdAt σ.grds t
  gmem : ∀ g, g ∈ σ'.grds → g ∈ σ.grds ∨ (g.t = d ∧ ∃ gc, r.1 = some (g.s, g.w, gc))
  objs : ∀ id, ¬ (b ≤ id ∧ id < b + 16) → σ'.obj id = σ.obj id
  obj : ∀ id, σ'.obj id = match (match r.1 with | none => look r.2.2.2 id | some _ => none) with | some x => some x | none => σ.obj id
theorem grdAt_cons_same (g : Grd) (r : List Grd) : grdAt (g :: r) g.t = some g := by simp [grdAt]
theorem grdAt_cons_other {g : Grd} {t : Nat} (r : List Grd) (h : t ≠ g.t) : grdAt (g :: r) t = grdAt r t := by
  have : Nat.beq g.t t = false := by
    cases hb : Nat.beq g.t t
    · rfl
    · exact absurd (Nat.eq_of_beq_eq_true hb).symm h
  simp [grdAt, this]
theorem qPut_wrote {ops : Array Oper} {o : Oper} {b d : Nat} {r : Option (Nat × Bool × Bool) × Bool × A × List (Nat × O)} {σ σ' : St} {c : Bool} (h : qPut b o σ r = some (c, σ')) (hd : o.dst = some d) :
    Wrote ops o b d r σ σ' := by
  unfold qPut at h
  split at h
  · rename_i c' a os
    split at h
    · cases h
    · rename_i hids
      split at h
      · rename_i σ1 hput
        simp only [Option.some.injEq, Prod.mk.injEq] at h
        obtain ⟨_, rfl⟩ := h
        rw [hd] at hput
        simp only [St.put] at hput
        split at hput
        · rename_i h1 h2
          injection hput with hput
          subst hput
          have hob : ∀ id, look (os ++ σ.mem) id = match look os id with | some x => some x | none => look σ.mem id := fun id => by
            rw [look_append]
            cases look os id <;> rfl
          refine ⟨rfl, rfl, rfl, look_cons_same _ _ _, fun t ht => look_cons_other _ _ ht, grdFree_none h2, fun _ _ => rfl, fun g hg => .inl hg, fun id hid => ?_, fun id => ?_⟩
          · show look (os ++ σ.mem) id = look σ.mem id
            rw [hob]
            cases hl : look os id with
            | none => rfl
            | some x => exact absurd (idsOk_mem hids id x hl) hid
          · exact hob id
        · cases hput
      · cases h
  · rename_i s w gc c' a os
    rw [hd] at h
    simp only at h
    split at h
    · rename_i h1 h2 h3
      simp only [Option.some.injEq, Prod.mk.injEq] at h
      obtain ⟨_, rfl⟩ := h
      refine ⟨rfl, rfl, rfl, look_cons_same _ _ _, fun t ht => look_cons_other _ _ ht, grdAt_cons_same ⟨d, s, w, a⟩ _, fun t ht => grdAt_cons_other _ ht, fun g hg => ?_, fun id hid => rfl, fun id => rfl⟩
      rcases List.mem_cons.1 hg with rfl | hg
      · exact .inr ⟨rfl, gc, rfl⟩
      · exact .inl hg
    · cases h
theorem qPut_again {o : Oper} {b d : Nat} {r : Option (Nat × Bool × Bool) × Bool × A × List (Nat × O)} {σ σ' τ : St} {c : Bool} (h : qPut b o σ r = some (c, σ')) (hd : o.dst = some d) (hn : τ.n = σ.n) (hf : grdFree τ.grds d = true) :
    ∃ τ', qPut b o τ r = some (c, τ') := by
  unfold qPut at h ⊢
  split at h
  · rename_i _ _ os
    split at h
    · cases h
    · rename_i hids
      split at h
      · rename_i σ1 hput
        simp only [Option.some.injEq, Prod.mk.injEq] at h
        rw [hd] at hput ⊢
        simp only [St.put] at hput
        split at hput
        · rename_i h1 h2
          have e : Nat.blt d (τ.addObjs os).n = true := by show Nat.blt d τ.n = true; rw [hn]; exact h1
          have hf' : grdFree (τ.addObjs os).grds d = true := hf
          simp only [hids, St.put, e, hf', h.1]
          exact ⟨_, rfl⟩
        · cases hput
      · cases h
  · rw [hd] at h
    simp only [hd] at h ⊢
    split at h
    · rename_i h1 h2 h3
      simp only [Option.some.injEq, Prod.mk.injEq] at h
      rw [hn, h1, hf, h3]
      exact ⟨_, by rw [h.1]⟩
    · cases h
theorem qVal_guard {cfg : Cfg} {obj : Nat → Option O} {own : Nat → Bool} {b : Nat} {ops : Array Oper} {o : Oper} {σ : St} {r : Option (Nat × Bool × Bool) × Bool × A × List (Nat × O)} (h : qVal cfg obj own b ops o σ = some r)
    {s : Nat} {w gc : Bool} (hr : r.1 = some (s, w, gc)) : guardOf ops o = some (some (s, w)) := by
  unfold qVal at h
  split at h
  · cases h
  · split at h
    · cases h
    · injection h with h; subst h; cases hr
  · rename_i s' w' hg
    split at h
    · cases h
    · split at h
      · injection h with h
        subst h
        simp only [Option.some.injEq, Prod.mk.injEq] at hr
        obtain ⟨rfl, rfl, _⟩ := hr
        exact hg
      · cases h
end Go.Fw

/-
  Drawn regions: the head in whatever order, the tail as it stands.
-/
namespace Go.Fw
variable [XS]
open Go.RowKit (Below)
omit [XS] in
theorem zip_at {l : List Oper} {f : Oper × Nat → Bool} (h : l.zipIdx.all f = true) {i : Nat} {o : Oper} (hi : l[i]? = some o) : f (o, i) = true :=
  List.all_eq_true.1 h (o, i) (List.mem_zipIdx_iff_getElem?.2 hi)
structure HeadOK (l : List Oper) (ops : Array Oper) : Prop where
  dst : ∀ (i : Nat) (o : Oper), l[i]? = some o → (∃ d, o.dst = some d) ∨ isEarly o = true
  inj : ∀ (i j : Nat) (o p : Oper) (d : Nat), l[i]? = some o → l[j]? = some p → o.dst = some d → p.dst = some d → i = j
  seen : ∀ (i j : Nat) (o p : Oper) (t : Nat), l[i]? = some o → l[j]? = some p → t ∈ looks ops o → p.dst = some t → j ∈ afters o
omit [XS] in
theorem headOk_spec {l : List Oper} {ops : Array Oper} (h : headOk l ops = true) : HeadOK l ops := by
  have key : ∀ (i : Nat) (o : Oper), l[i]? = some o → ((∃ d, o.dst = some d ∧ ∀ (j : Nat) (p : Oper), l[j]? = some p → p.dst = some d → i = j) ∨ (o.dst = none ∧ isEarly o = true)) ∧ ∀ t, t ∈ looks ops o → ∀ (j : Nat) (p : Oper), l[j]? = some p → p.dst = some t → j ∈ afters o := by
    intro i o hi
    have h1 := zip_at h hi
    simp only [Bool.and_eq_true] at h1
    refine ⟨?_, fun t ht j p hj hp => ?_⟩
    · cases hd : o.dst with
      | none => rw [hd] at h1; exact .inr ⟨rfl, h1.1⟩
      | some d =>
        refine .inl ⟨d, rfl, fun j p hj hp => ?_⟩
        rw [hd] at h1
        have h2 := zip_at h1.1 hj
        rw [hp] at h2
        simp only [Bool.or_eq_true, Bool.not_eq_true'] at h2
        rcases h2 with h2 | h2
        · exact Nat.eq_of_beq_eq_true h2
        · exact absurd rfl (Nat.ne_of_beq_eq_false h2)
    · have h2 := zip_at (List.all_eq_true.1 h1.2 t ht) hj
      rw [hp] at h2
      simp only [Bool.or_eq_true, Bool.not_eq_true'] at h2
      rcases h2 with h2 | h2
      · exact absurd rfl (Nat.ne_of_beq_eq_false h2)
      · exact memNat_mem h2
  refine ⟨fun i o hi => ?_, fun i j o p d hi hj ho hp => ?_, fun i j o p t hi hj ht hp => (key i o hi).2 t ht j p hj hp⟩
  · rcases (key i o hi).1 with ⟨d, hd, _⟩ | h1
    · exact .inl ⟨d, hd⟩
    · exact .inr h1.2
  · rcases (key i o hi).1 with ⟨d', hd, h2⟩ | ⟨h1, _⟩
    · rw [ho] at hd
      injection hd with hd
      subst hd
      exact h2 j p hj hp
    · rw [ho] at h1; cases h1
omit [XS] in
theorem mem_afters {o : Oper} {j : Nat} : j ∈ afters o ↔ ∃ e ∈ o.after, Region.binds .any e = true ∧ e.on = j := by
  unfold afters
  simp only [List.mem_map, List.mem_filter, Array.mem_toList_iff]
  constructor
  · rintro ⟨e, ⟨h1, h2⟩, h3⟩; exact ⟨e, h1, h2, h3⟩
  · rintro ⟨e, h1, h2, h3⟩; exact ⟨e, ⟨h1, h2⟩, h3⟩
omit [XS] in
theorem waits_spec {ops : Array Oper} {j i : Nat} (h : waits ops j i = true) : Region.waitsFor .any ops j i = true := by
  unfold waits at h
  unfold Region.waitsFor
  split at h
  · rename_i o ho
    obtain ⟨e, he, hb, hon⟩ := mem_afters.1 (memNat_mem h)
    rw [ho]
    refine Array.any_eq_true'.2 ⟨e, he, ?_⟩
    simp [hb, hon]
  · cases h
omit [XS] in
theorem aftersOk_spec {ops : Array Oper} (h : aftersOk ops = true) {i : Nat} {o : Oper} (hi : ops[i]? = some o) {j : Nat} (hj : j ∈ afters o) : j < i := by
  have h1 := zip_at h (by rw [Array.getElem?_toList]; exact hi)
  exact blt_lt (List.all_eq_true.1 h1 j hj)
omit [XS] in
theorem tailOk_spec {ops : Array Oper} {m : Nat} (h : tailOk ops m = true) (hm : m < ops.size) : Region.sinkB .any ops m = true ∧ Region.chainB .any ops m = true := by
  unfold tailOk at h
  simp only [Bool.or_eq_true, Bool.and_eq_true] at h
  rcases h with h | h
  · have := Nat.le_of_ble_eq_true h; omega
  · refine ⟨List.all_eq_true.2 fun i hi => ?_, List.all_eq_true.2 fun t ht => ?_⟩
    · obtain ⟨j, hj, h2⟩ := List.any_eq_true.1 (List.all_eq_true.1 h.1 i hi)
      simp only [Bool.and_eq_true] at h2
      exact List.any_eq_true.2 ⟨j, hj, by simp only [Bool.and_eq_true, decide_eq_true_eq]; exact ⟨blt_lt h2.1, waits_spec h2.2⟩⟩
    · have h2 := List.all_eq_true.1 h.2 t ht
      simp only [Bool.or_eq_true, decide_eq_true_eq] at h2 ⊢
      rcases h2 with h2 | h2
      · exact .inl (Nat.le_of_ble_eq_true h2)
      · exact .inr (waits_spec h2)
omit [XS] in
theorem eStep_spec {cfg : Cfg} {o : Oper} {σ σ' : St} {id : Nat} (h : eStep cfg o σ = some (id, σ')) : ∃ t x y ti ob, o.op = .store t x y ∧ cfg.tt t = some ti ∧ eObj ti (opd σ.get0 x) (opd σ.get0 y) σ.obj = some (id, ob) ∧
    o.guard = none ∧ o.dst = none ∧ σ' = { σ with mem := (id, ob) :: σ.mem } := by
  unfold eStep at h
  split at h
  · rename_i t x y hg hd ho
    split at h
    · rename_i ti ht
      split at h
      · rename_i id' ob he
        injection h with h
        injection h with e1 e2
        subst e1 e2
        exact ⟨t, x, y, ti, ob, ho, ht, he, hg, hd, rfl⟩
      · cases h
    · cases h
  · cases h
omit [XS] in
theorem eObj_obj {ti : TI} {ax ay : A} {obj obj' : Nat → Option O} {id : Nat} {ob : O} (h : eObj ti ax ay obj = some (id, ob)) (he : obj' id = obj id) : eObj ti ax ay obj' = some (id, ob) := by
  unfold eObj at h ⊢
  split at h
  · rename_i id' off
    have e : id' = id := by
      split at h
      · split at h
        · injection h with h; injection h
        · cases h
      · cases h
    subst e
    simp only [he]
    exact h
  · rename_i id' esz i off
    have e : id' = id := by
      split at h
      · split at h
        · injection h with h; injection h
        · cases h
      · split at h
        · injection h with h; injection h
        · cases h
      · cases h
    subst e
    simp only [he]
    exact h
  · cases h
def HStep (cfg : Cfg) (obj : Nat → Option O) (ops : Array Oper) (base : Nat) (tg : Option Nat) (o : Oper) (σ σ' : St) : Prop :=
  (isEarly o = false ∧ tg = none ∧ qStep cfg obj (headOwn ops) base ops o σ = some (true, σ')) ∨ (isEarly o = true ∧ ∃ id, tg = some id ∧ eStep cfg o σ = some (id, σ'))
omit [XS] in
theorem HStep.keep {cfg : Cfg} {obj : Nat → Option O} {ops : Array Oper} {base : Nat} {tg : Option Nat} {o : Oper} {σ σ' : St} (h : HStep cfg obj ops base tg o σ σ') : σ'.n = σ.n ∧ σ'.lo = σ.lo ∧ σ'.next = σ.next := by
  rcases h with ⟨_, _, h⟩ | ⟨_, id, _, h⟩
  · exact qStep_keep h
  · obtain ⟨_, _, _, _, _, _, _, _, _, _, rfl⟩ := eStep_spec h
    exact ⟨rfl, rfl, rfl⟩
omit [XS] in
theorem memPair_drop {x z k : Nat} : ∀ {l : List (Nat × Nat)}, memPair z k (dropFst x l) = true → memPair z k l = true ∧ z ≠ x
  | p :: r, h => by
    simp only [dropFst] at h
    cases hb : Nat.beq x p.1
    · rw [hb] at h
      simp only [memPair] at h ⊢
      cases hz : Nat.beq z p.1 && Nat.beq k p.2
      · rw [hz] at h
        exact memPair_drop h
      · simp only [Bool.and_eq_true] at hz
        refine ⟨rfl, fun e => ?_⟩
        rw [← e, hz.1] at hb
        cases hb
    · rw [hb] at h
      have := memPair_drop h
      refine ⟨?_, this.2⟩
      simp only [memPair]
      split
      · rfl
      · exact this.1
omit [XS] in
theorem runHead_chain {cfg : Cfg} {obj : Nat → Option O} {S0 : List (Nat × Nat)} {ops : Array Oper} {base0 : Nat} : ∀ (l : List Oper) (kk : Nat) (S : List (Nat × Nat)) (base : Nat) (c : Bool) (σ σ' : St), runHead cfg obj S0 ops base0 kk S base l c σ = some (true, σ') →
    c = true ∧ ∃ (s : Nat → St) (tg : Nat → Option Nat), s 0 = σ ∧ s l.length = σ' ∧ (∀ i o, l[i]? = some o → HStep cfg (hide ops (kk + i) S0 obj) ops (base + 16 * i) (tg i) o (s i) (s (i + 1))) ∧
      (∀ i id, tg i = some id → memPair id (kk + i) S = true ∧ ∃ o, l[i]? = some o ∧ tgtOk obj base0 o id = true) ∧ ∀ i j id, tg i = some id → tg j = some id → i = j
  | [], kk, S, base, c, σ, σ', h => by
    simp only [runHead, Option.some.injEq, Prod.mk.injEq] at h
    obtain ⟨rfl, rfl⟩ := h
    exact ⟨rfl, fun _ => σ, fun _ => none, rfl, rfl, fun i o hi => by simp at hi, fun _ _ h => (by cases h), fun _ _ _ h => (by cases h)⟩
  | o :: rest, kk, S, base, c, σ, σ', h => by
    simp only [runHead, hideK_eq] at h
    have sh : ∀ i, base + 16 + 16 * i = base + 16 * (i + 1) := fun i => by omega
    have sk : ∀ i, kk + 1 + i = kk + (i + 1) := fun i => by omega
    cases he : isEarly o
    · simp only [he] at h
      split at h
      · rename_i c' σ1 hq
        obtain ⟨hc, s, tg, h0, hl, hs, h1, h2⟩ := runHead_chain rest (kk + 1) S (base + 16) _ σ1 σ' h
        simp only [Bool.and_eq_true] at hc
        refine ⟨hc.2, fun i => match i with | 0 => σ | i + 1 => s i, fun i => match i with | 0 => none | i + 1 => tg i, rfl, hl, fun i o' hi => ?_, fun i id hi => ?_, fun i j id hi hj => ?_⟩
        · cases i with
          | zero =>
            simp only [List.getElem?_cons_zero, Option.some.injEq] at hi
            subst hi
            refine .inl ⟨he, rfl, ?_⟩
            show qStep cfg (hide ops (kk + 0) S0 obj) _ (base + 16 * 0) ops o σ = some (true, s 0)
            rw [h0, ← hc.1]
            exact hq
          | succ i =>
            have := hs i o' (by simpa using hi)
            rw [sh, sk] at this
            exact this
        · cases i with
          | zero => cases hi
          | succ i =>
            obtain ⟨k1, o', ho', hk⟩ := h1 i id hi
            rw [sk] at k1
            exact ⟨k1, o', by simpa using ho', hk⟩
        · cases i with
          | zero => cases hi
          | succ i =>
            cases j with
            | zero => cases hj
            | succ j => rw [h2 i j id hi hj]
      · cases h
    · simp only [he] at h
      split at h
      · rename_i id0 σ1 hq
        split at h
        · rename_i hm
          simp only [Bool.and_eq_true] at hm
          obtain ⟨hc, s, tg, h0, hl, hs, h1, h2⟩ := runHead_chain rest (kk + 1) _ (base + 16) _ σ1 σ' h
          refine ⟨hc, fun i => match i with | 0 => σ | i + 1 => s i, fun i => match i with | 0 => some id0 | i + 1 => tg i, rfl, hl, fun i o' hi => ?_, fun i id hi => ?_, fun i j id hi hj => ?_⟩
          · cases i with
            | zero =>
              simp only [List.getElem?_cons_zero, Option.some.injEq] at hi
              subst hi
              refine .inr ⟨he, id0, rfl, ?_⟩
              show eStep cfg o σ = some (id0, s 0)
              rw [h0]
              exact hq
            | succ i =>
              have := hs i o' (by simpa using hi)
              rw [sh, sk] at this
              exact this
          · cases i with
            | zero => injection hi with hi; subst hi; exact ⟨hm.1, o, rfl, hm.2⟩
            | succ i =>
              obtain ⟨k1, o', ho', hk⟩ := h1 i id hi
              rw [sk] at k1
              exact ⟨(memPair_drop k1).1, o', by simpa using ho', hk⟩
          · cases i with
            | zero =>
              cases j with
              | zero => rfl
              | succ j => injection hi with hi; subst hi; exact absurd rfl (memPair_drop (h1 j _ hj).1).2
            | succ i =>
              cases j with
              | zero => injection hj with hj; subst hj; exact absurd rfl (memPair_drop (h1 i _ hi).1).2
              | succ j => rw [h2 i j id hi hj]
        · cases h
      · cases h
def Own (base : Nat) (tg : Nat → Option Nat) (j id : Nat) : Prop := (base + 16 * j ≤ id ∧ id < base + 16 * j + 16) ∨ tg j = some id
structure OwnOK (l : List Oper) (base : Nat) (tg : Nat → Option Nat) : Prop where
  one : ∀ i j id, tg i = some id → tg j = some id → i = j
  behind : ∀ i id, tg i = some id → ∃ o, l[i]? = some o ∧ ∀ j, base + 16 * j ≤ id → id < base + 16 * j + 16 → j ∈ afters o
omit [XS] in
theorem ownOK_of {l : List Oper} {base : Nat} {tg : Nat → Option Nat} {obj : Nat → Option O} (hob : ∀ id o, obj id = some o → id < base) (h1 : ∀ i id, tg i = some id → ∃ o, l[i]? = some o ∧ tgtOk obj base o id = true) (h2 : ∀ i j id, tg i = some id → tg j = some id → i = j) : OwnOK l base tg := by
  refine ⟨h2, fun i id hi => ?_⟩
  obtain ⟨o, ho, hk⟩ := h1 i id hi
  refine ⟨o, ho, fun j k1 k2 => ?_⟩
  unfold tgtOk at hk
  split at hk
  · rename_i hb; have := hob id _ hb; omega
  · have e : (id - base) / 16 = j := by omega
    rw [e] at hk
    exact memNat_mem hk
structure WroteG (ops : Array Oper) (o : Oper) (own : Nat → Prop) (σ σ' : St) : Prop where
  n : σ'.n = σ.n
  lo : σ'.lo = σ.lo
  next : σ'.next = σ.next
  slots : ∀ t, o.dst ≠ some t → look σ'.tmps t = look σ.tmps t ∧ grdAt σ'.grds t = grdAt σ.grds t
  gmem : ∀ g, g ∈ σ'.grds → g ∈ σ.grds ∨ (o.dst = some g.t ∧ guardOf ops o = some (some (g.s, g.w)))
  objs : ∀ id, ¬ own id → σ'.obj id = σ.obj id
omit [XS] in
theorem qStep_wrote {cfg : Cfg} {obj : Nat → Option O} {own : Nat → Bool} {ops : Array Oper} {o : Oper} {b d : Nat} {σ σ' : St} {ow : Nat → Prop} (h : qStep cfg obj own b ops o σ = some (true, σ')) (hd : o.dst = some d) (how : ∀ id, (b ≤ id ∧ id < b + 16) → ow id) :
    WroteG ops o ow σ σ' := by
  unfold qStep at h
  split at h
  · cases h
  · rename_i r hr
    have hw := qPut_wrote (ops := ops) h hd
    refine ⟨hw.n, hw.lo, hw.next, fun t ht => ?_, fun g hg => ?_, fun id hid => hw.objs id fun h => hid (how id h)⟩
    · have : t ≠ d := fun e => ht (by rw [hd, e])
      exact ⟨hw.slots t this, hw.grds t this⟩
    · rcases hw.gmem g hg with h1 | ⟨h1, gc, h2⟩
      · exact .inl h1
      · exact .inr ⟨by rw [hd, h1], qVal_guard hr h2⟩
omit [XS] in
theorem eStep_wrote {cfg : Cfg} {ops : Array Oper} {o : Oper} {σ σ' : St} {id : Nat} {ow : Nat → Prop} (h : eStep cfg o σ = some (id, σ')) (how : ow id) : WroteG ops o ow σ σ' := by
  obtain ⟨_, _, _, _, _, _, _, _, _, _, rfl⟩ := eStep_spec h
  refine ⟨rfl, rfl, rfl, fun t _ => ⟨rfl, rfl⟩, fun g hg => .inl hg, fun i hi => ?_⟩
  exact look_cons_other _ _ fun e => hi (by rw [e]; exact how)
omit [XS] in
theorem HStep.wrote {cfg : Cfg} {obj : Nat → Option O} {ops : Array Oper} {l : List Oper} {base : Nat} {tg : Nat → Option Nat} {i : Nat} {o : Oper} {σ σ' : St} (hh : HeadOK l ops) (hi : l[i]? = some o) (h : HStep cfg obj ops (base + 16 * i) (tg i) o σ σ') : WroteG ops o (Own base tg i) σ σ' := by
  rcases h with ⟨he, _, h⟩ | ⟨_, id, ht, h⟩
  · rcases hh.dst i o hi with ⟨d, hd⟩ | h1
    · exact qStep_wrote h hd fun id h => .inl h
    · rw [he] at h1; cases h1
  · exact eStep_wrote h (.inr ht)
structure At (ops : Array Oper) (l : List Oper) (s : Nat → St) (base : Nat) (tg : Nat → Option Nat) (Lb : Nat → Bool) (τ : St) : Prop where
  n : τ.n = (s 0).n
  lo : τ.lo = (s 0).lo
  next : τ.next = (s 0).next
  t1 : ∀ t, (∀ j o, l[j]? = some o → Lb j = true → o.dst ≠ some t) → look τ.tmps t = look (s 0).tmps t ∧ grdAt τ.grds t = none
  t2 : ∀ j o t, l[j]? = some o → Lb j = true → o.dst = some t → look τ.tmps t = look (s (j + 1)).tmps t ∧ grdAt τ.grds t = grdAt (s (j + 1)).grds t
  g : ∀ g, g ∈ τ.grds → ∃ j o, l[j]? = some o ∧ Lb j = true ∧ o.dst = some g.t ∧ guardOf ops o = some (some (g.s, g.w))
  m1 : ∀ id, (∀ j o, l[j]? = some o → Lb j = true → ¬ Own base tg j id) → τ.obj id = (s 0).obj id
  m2 : ∀ j o id, l[j]? = some o → Lb j = true → Own base tg j id → (∀ i, Lb i = true → tg i = some id → i = j) → τ.obj id = (s (j + 1)).obj id
section
variable {cfg : Cfg} {obj : Nat → Nat → Option O} {ops : Array Oper} {l : List Oper} {base : Nat} {s : Nat → St} {tg : Nat → Option Nat}
omit [XS] in
theorem own_two (hoi : OwnOK l base tg) {i j id : Nat} (hi : Own base tg i id) (hj : Own base tg j id) (hne : i ≠ j) : (tg i = some id ∧ ∃ o, l[i]? = some o ∧ j ∈ afters o) ∨ (tg j = some id ∧ ∃ o, l[j]? = some o ∧ i ∈ afters o) := by
  rcases hi with hi | hi <;> rcases hj with hj | hj
  · omega
  · obtain ⟨o, ho, h⟩ := hoi.behind j id hj
    exact .inr ⟨hj, o, ho, h i hi.1 hi.2⟩
  · obtain ⟨o, ho, h⟩ := hoi.behind i id hi
    exact .inl ⟨hi, o, ho, h j hj.1 hj.2⟩
  · exact absurd (hoi.one i j id hi hj) hne
omit [XS] in
theorem At.add (hh : HeadOK l ops) (hoi : OwnOK l base tg) {Lb Lb' : Nat → Bool} {τ τ' : St} (h : At ops l s base tg Lb τ) {i : Nat} {o : Oper} (hi : l[i]? = some o) (hno : Lb i = false)
    (hclosed : ∀ j p, l[j]? = some p → Lb j = true → ∀ k, k ∈ afters p → Lb k = true)
    (hLb : ∀ j, Lb' j = true ↔ Lb j = true ∨ j = i) (hw : WroteG ops o (Own base tg i) τ τ')
    (hsame : (∀ d, o.dst = some d → look τ'.tmps d = look (s (i + 1)).tmps d ∧ grdAt τ'.grds d = grdAt (s (i + 1)).grds d) ∧ ∀ id, Own base tg i id → τ'.obj id = (s (i + 1)).obj id) :
    At ops l s base tg Lb' τ' := by
  refine ⟨hw.n.trans h.n, hw.lo.trans h.lo, hw.next.trans h.next, fun t ht => ?_, fun j p t hj hl hp => ?_, fun g hg => ?_, fun id hid => ?_, fun j p id hj hl hid hcond => ?_⟩
  · have htd : o.dst ≠ some t := ht i o hi ((hLb i).2 (.inr rfl))
    have := h.t1 t fun j p hj hl => ht j p hj ((hLb j).2 (.inl hl))
    exact ⟨(hw.slots t htd).1.trans this.1, (hw.slots t htd).2.trans this.2⟩
  · by_cases e : j = i
    · subst e
      rw [hi] at hj
      injection hj with hj
      subst hj
      exact hsame.1 t hp
    · have hlj : Lb j = true := ((hLb j).1 hl).resolve_right e
      have htd : o.dst ≠ some t := fun e' => e (hh.inj j i p o t hj hi hp e')
      have := h.t2 j p t hj hlj hp
      exact ⟨(hw.slots t htd).1.trans this.1, (hw.slots t htd).2.trans this.2⟩
  · rcases hw.gmem g hg with hg | ⟨hgt, hgr⟩
    · obtain ⟨j, p, h1, h2, h3⟩ := h.g g hg
      exact ⟨j, p, h1, (hLb j).2 (.inl h2), h3⟩
    · exact ⟨i, o, hi, (hLb i).2 (.inr rfl), hgt, hgr⟩
  · rw [hw.objs id (hid i o hi ((hLb i).2 (.inr rfl)))]
    exact h.m1 id fun j p hj hl => hid j p hj ((hLb j).2 (.inl hl))
  · by_cases e : j = i
    · subst e; exact hsame.2 id hid
    · have hlj : Lb j = true := ((hLb j).1 hl).resolve_right e
      have hni : ¬ Own base tg i id := fun h' => by
        rcases own_two hoi hid h' e with ⟨k1, p', k2, k3⟩ | ⟨k1, p', k2, k3⟩
        · rw [hclosed j p' k2 hlj i k3] at hno; cases hno
        · exact e (hcond i ((hLb i).2 (.inr rfl)) k1).symm
      rw [hw.objs id hni]
      exact h.m2 j p id hj hlj hid fun i' hi' => hcond i' ((hLb i').2 (.inl hi'))
variable (hs : ∀ i o, l[i]? = some o → HStep cfg (obj i) ops (base + 16 * i) (tg i) o (s i) (s (i + 1)))
include hs
omit [XS] in
theorem at_text (hh : HeadOK l ops) (hoi : OwnOK l base tg) (haf : ∀ j p, l[j]? = some p → ∀ k, k ∈ afters p → k < j) (h0 : (s 0).grds = []) : ∀ i, i ≤ l.length → At ops l s base tg (fun j => decide (j < i)) (s i)
  | 0, _ => ⟨rfl, rfl, rfl, fun t _ => ⟨rfl, by rw [h0]; rfl⟩, (fun j o t _ hl => by simp at hl), (fun g hg => by rw [h0] at hg; cases hg), fun _ _ => rfl, (fun j o id _ hl => by simp at hl)⟩
  | i + 1, hle => by
    have ih := at_text hh hoi haf h0 i (by omega)
    have hi : l[i]? = some l[i] := List.getElem?_eq_getElem (by omega)
    exact ih.add hh hoi hi (by simp) (fun j p hj hl k hk => by have := haf j p hj k hk; simp at hl ⊢; omega) (fun j => by simp only [decide_eq_true_eq]; omega) ((hs i _ hi).wrote hh hi) ⟨fun _ _ => ⟨rfl, rfl⟩, fun _ _ => rfl⟩
omit [XS] in
theorem head_step (hh : HeadOK l ops) (hoi : OwnOK l base tg) (h0 : (s 0).grds = []) {Lb Lb' : Nat → Bool} {τ : St} (h : At ops l s base tg Lb τ) {i : Nat} {o : Oper} (hi : l[i]? = some o) (hno : Lb i = false)
    (haf : ∀ j p, l[j]? = some p → ∀ k, k ∈ afters p → k < j) (hready : ∀ k, k ∈ afters o → Lb k = true) (hclosed : ∀ j p, l[j]? = some p → Lb j = true → ∀ k, k ∈ afters p → Lb k = true) (hLb : ∀ j, Lb' j = true ↔ Lb j = true ∨ j = i) :
    ∃ τ', HStep cfg (obj i) ops (base + 16 * i) (tg i) o τ τ' ∧ At ops l s base tg Lb' τ' := by
  have hil : i < l.length := (List.getElem?_eq_some_iff.1 hi).1
  have hti := at_text hs hh hoi haf h0 i (by omega)
  have same : ∀ t, (∀ (j : Nat) (p : Oper), l[j]? = some p → p.dst = some t → Lb j = true ∧ j < i) → look τ.tmps t = look (s i).tmps t ∧ grdAt τ.grds t = grdAt (s i).grds t := by
    intro t ht
    by_cases hex : ∃ (j : Nat) (p : Oper), l[j]? = some p ∧ p.dst = some t
    · obtain ⟨j, p, hj, hp⟩ := hex
      have h2 := ht j p hj hp
      have e1 := h.t2 j p t hj h2.1 hp
      have e2 := hti.t2 j p t hj (by simpa using h2.2) hp
      exact ⟨e1.1.trans e2.1.symm, e1.2.trans e2.2.symm⟩
    · have e1 := h.t1 t fun j p hj _ hp => hex ⟨j, p, hj, hp⟩
      have e2 := hti.t1 t fun j p hj _ hp => hex ⟨j, p, hj, hp⟩
      exact ⟨e1.1.trans e2.1.symm, e1.2.trans e2.2.symm⟩
  have halike : Alike ops o τ (s i) := by
    intro t ht
    have hlt := same t fun j p hj hp => by
      have := hh.seen i j o p t hi hj ht hp
      exact ⟨hready j this, haf i o hi j this⟩
    refine ⟨hlt.1, hlt.2, fun g hg => ?_⟩
    rw [hlt.2] at hg
    obtain ⟨j, p, hj, hjl, hpd, hpg⟩ := hti.g g (grdAt_mem hg)
    have hji : j < i := by simpa using hjl
    have hgt := grdAt_t hg
    rw [hgt] at hpd
    have hja := hh.seen i j o p t hi hj ht hpd
    refine (same g.s fun k q hk hq => ?_).1
    have := hh.seen j k p q g.s hj hk (guardOf_looks hpg) hq
    have hkj := haf j p hj k this
    exact ⟨hclosed j p hj (hready j hja) k this, by omega⟩
  have obj_same : ∀ id, Own base tg i id → τ.obj id = (s i).obj id := fun id hid => by
    by_cases hex : ∃ j p, l[j]? = some p ∧ Lb j = true ∧ Own base tg j id
    · obtain ⟨j, p, hj, hjl, hjo⟩ := hex
      have hji : j ≠ i := fun e => by rw [e, hno] at hjl; cases hjl
      rcases own_two hoi hjo hid hji with ⟨k1, p', k2, k3⟩ | ⟨k1, p', k2, k3⟩
      · rw [hclosed j p' k2 hjl i k3] at hno; cases hno
      · rw [hi] at k2
        injection k2 with k2
        subst k2
        have e1 := h.m2 j p id hj hjl hjo fun i' hi' ht' => by
          have := hoi.one i' i id ht' k1
          rw [this, hno] at hi'; cases hi'
        have e2 := hti.m2 j p id hj (by simpa using haf i _ hi j k3) hjo fun i' hi' ht' => by
          have := hoi.one i' i id ht' k1
          simp at hi'; omega
        rw [e1, e2]
    · have e1 : τ.obj id = (s 0).obj id := h.m1 id fun j p hj hjl hjo => hex ⟨j, p, hj, hjl, hjo⟩
      have e2 : (s i).obj id = (s 0).obj id := hti.m1 id fun j p hj hjl hjo => by
        have hlt : j < i := by simpa using hjl
        rcases own_two hoi hjo hid (by omega) with ⟨k1, p', k2, k3⟩ | ⟨k1, p', k2, k3⟩
        · have := haf j p' k2 i k3; omega
        · rw [hi] at k2
          injection k2 with k2
          subst k2
          exact hex ⟨j, p, hj, hready j k3, hjo⟩
      rw [e1, e2]
  rcases hs i o hi with ⟨he, htg, hq⟩ | ⟨he, id, htg, hq⟩
  · obtain ⟨d, hd⟩ := (hh.dst i o hi).resolve_right (by rw [he]; exact Bool.false_ne_true)
    obtain ⟨r, hv, hp⟩ : ∃ r, qVal cfg (obj i) (headOwn ops) (base + 16 * i) ops o (s i) = some r ∧ qPut (base + 16 * i) o (s i) r = some (true, s (i + 1)) := by
      unfold qStep at hq
      split at hq
      · cases hq
      · rename_i r hr; exact ⟨r, hr, hq⟩
    have hval := (halike.qVal cfg (obj i) (headOwn ops) (base + 16 * i)).trans hv
    have hfree : grdFree τ.grds d = true := grdFree_of fun g hg => by
      obtain ⟨j, p, hj, hjl, hpd, hpg⟩ := h.g g hg
      refine ⟨fun e => ?_, fun e => ?_⟩
      · have := hh.seen j i p o g.s hj hi (guardOf_looks hpg) (by rw [e]; exact hd)
        rw [hclosed j p hj hjl i this] at hno
        cases hno
      · have := hh.inj j i p o d hj hi (by rw [← e]; exact hpd) hd
        rw [← this, hjl] at hno
        cases hno
    obtain ⟨τ', hput⟩ := qPut_again hp hd (h.n.trans hti.n.symm) hfree
    have hq' : qStep cfg (obj i) (headOwn ops) (base + 16 * i) ops o τ = some (true, τ') := by unfold qStep; rw [hval]; exact hput
    have hst : HStep cfg (obj i) ops (base + 16 * i) (tg i) o τ τ' := .inl ⟨he, htg, hq'⟩
    refine ⟨τ', hst, ?_⟩
    have w1 := qPut_wrote (ops := ops) hput hd
    have w2 := qPut_wrote (ops := ops) hp hd
    refine h.add hh hoi hi hno hclosed hLb (hst.wrote hh hi) ⟨fun d' hd' => ?_, fun id hid => ?_⟩
    · rw [hd] at hd'
      injection hd' with hd'
      subst hd'
      exact ⟨w1.slot.trans w2.slot.symm, w1.grd.trans w2.grd.symm⟩
    · rw [w1.obj, w2.obj, obj_same id hid]
  · obtain ⟨t, x, y, ti, ob, ho, ht, hob, hg0, hd0, hσ⟩ := eStep_spec hq
    have opd_same : ∀ z : Operand, (z = x ∨ z = y) → opd τ.get0 z = opd (s i).get0 z := fun z hz => by
      cases z with
      | tmp t' =>
        refine halike.get0 ?_
        unfold looks
        refine List.mem_append_left _ (List.mem_filterMap.2 ⟨.tmp t', ?_, rfl⟩)
        rw [ho]
        simp only [Op.operands]
        rcases hz with h1 | h1 <;> simp [← h1]
      | const v => rfl
      | global v => rfl
      | func v => rfl
    have hid : Own base tg i id := .inr htg
    have hq' : eStep cfg o τ = some (id, { τ with mem := (id, ob) :: τ.mem }) := by
      have e := eObj_obj hob (obj_same id hid)
      rw [← opd_same x (.inl rfl), ← opd_same y (.inr rfl)] at e
      unfold eStep
      simp only [hg0, hd0, ho, ht, e]
    have hst : HStep cfg (obj i) ops (base + 16 * i) (tg i) o τ _ := .inr ⟨he, id, htg, hq'⟩
    refine ⟨_, hst, h.add hh hoi hi hno hclosed hLb (hst.wrote hh hi) ⟨fun d' hd' => ?_, fun id' hid' => ?_⟩⟩
    · rw [hd0] at hd'; cases hd'
    · rw [hσ]
      show look ((id, _) :: τ.mem) id' = look ((id, _) :: (s i).mem) id'
      by_cases e : id' = id
      · subst e; rw [look_cons_same, look_cons_same]
      · rw [look_cons_other _ _ e, look_cons_other _ _ e]
        exact obj_same id' hid'
end
section
variable {P : Program} {B : Nat} {w0 : World} {U : Nat → Prop} {G : Value → A → Prop} {σ τ : St} {a : Act} {w : World} {cv : Nat → Option Value}
theorem SRcv.alike (h : SRcv B w0 U G τ a w cv) (hn : σ.n = τ.n) (hlo : σ.lo = τ.lo) (hnx : σ.next = τ.next) (ht : ∀ t, look σ.tmps t = look τ.tmps t) (hg : ∀ t, grdAt σ.grds t = grdAt τ.grds t) (ho : ∀ id, σ.obj id = τ.obj id) :
    SRcv B w0 U G σ a w cv := by
  have hob : σ.obj = τ.obj := funext ho
  refine ⟨by rw [hn]; exact h.size, h.defers, h.below, h.hB, by rw [hnx]; exact h.lo, by rw [hlo, hnx]; exact h.lon, by rw [hob]; exact h.used, by rw [hob]; exact h.mem, fun t x hx => ?_, fun t g hgt => ?_, fun v x hx => ?_⟩
  · rw [hob]; exact h.slot t x (by rw [← ht]; exact hx)
  · obtain ⟨h1, h2, c, h3, h4⟩ := h.grd t g (by rw [← hg]; exact hgt)
    refine ⟨h1, by rw [ht]; exact h2, c, ?_, by rw [hob]; exact h4⟩
    rw [← h3]
    exact gcond_of (hg _) (ht _) fun g' _ => ht _
  · rw [hob, hlo]; exact h.ghost v x hx
theorem SRcv.of_at {ops : Array Oper} {l : List Oper} {s : Nat → St} {base : Nat} {tg : Nat → Option Nat} {Lb Lb' : Nat → Bool} (h : SRcv B w0 U G τ a w cv) (hoi : OwnOK l base tg) (h1 : At ops l s base tg Lb τ) (h2 : At ops l s base tg Lb' σ) (hL : ∀ j, j < l.length → Lb j = Lb' j) :
    SRcv B w0 U G σ a w cv := by
  have hlt : ∀ {j : Nat} {o : Oper}, l[j]? = some o → j < l.length := fun hj => (List.getElem?_eq_some_iff.1 hj).1
  have hts : ∀ t, look σ.tmps t = look τ.tmps t ∧ grdAt σ.grds t = grdAt τ.grds t := by
    intro t
    by_cases hex : ∃ (j : Nat) (p : Oper), l[j]? = some p ∧ Lb j = true ∧ p.dst = some t
    · obtain ⟨j, p, hj, hjl, hp⟩ := hex
      have e1 := h1.t2 j p t hj hjl hp
      have e2 := h2.t2 j p t hj (by rw [← hL j (hlt hj)]; exact hjl) hp
      exact ⟨e2.1.trans e1.1.symm, e2.2.trans e1.2.symm⟩
    · have e1 := h1.t1 t fun j p hj hjl hp => hex ⟨j, p, hj, hjl, hp⟩
      have e2 := h2.t1 t fun j p hj hjl hp => hex ⟨j, p, hj, by rw [hL j (hlt hj)]; exact hjl, hp⟩
      exact ⟨e2.1.trans e1.1.symm, e2.2.trans e1.2.symm⟩
  refine h.alike (h2.n.trans h1.n.symm) (h2.lo.trans h1.lo.symm) (h2.next.trans h1.next.symm) (fun t => (hts t).1) (fun t => (hts t).2) fun id => ?_
  have hLt : ∀ i, tg i = some id → Lb' i = true → Lb i = true := fun i hi hl => by
    obtain ⟨o, ho, _⟩ := hoi.behind i id hi
    rw [hL i (hlt ho)]; exact hl
  have pick : (∃ (j : Nat) (p : Oper), l[j]? = some p ∧ Lb j = true ∧ Own base tg j id ∧ ∀ i, Lb i = true → tg i = some id → i = j) ∨ ∀ (j : Nat) (p : Oper), l[j]? = some p → Lb j = true → ¬ Own base tg j id := by
    by_cases h3 : ∃ i, Lb i = true ∧ tg i = some id
    · obtain ⟨i, hi, ht⟩ := h3
      obtain ⟨o, ho, _⟩ := hoi.behind i id ht
      exact .inl ⟨i, o, ho, hi, .inr ht, fun i' _ ht' => hoi.one i' i id ht' ht⟩
    · by_cases hex : ∃ (j : Nat) (p : Oper), l[j]? = some p ∧ Lb j = true ∧ Own base tg j id
      · obtain ⟨j, p, hj, hjl, hp⟩ := hex
        exact .inl ⟨j, p, hj, hjl, hp, fun i hi ht => absurd ⟨i, hi, ht⟩ h3⟩
      · exact .inr fun j p hj hjl hp => hex ⟨j, p, hj, hjl, hp⟩
  rcases pick with ⟨j, p, hj, hjl, hp, hc⟩ | hn
  · rw [h1.m2 j p id hj hjl hp hc, h2.m2 j p id hj (by rw [← hL j (hlt hj)]; exact hjl) hp fun i hi ht => hc i (hLt i ht hi) ht]
  · rw [h1.m1 id hn, h2.m1 id fun j p hj hjl hp => hn j p hj (by rw [hL j (hlt hj)]; exact hjl) hp]
end
end Go.Fw
