/- Part 19 of the proof: Sevalp Sscal3 Lbulkstr. -/
import Derived.Test.YtjmpnpkcgkhagaaGreatCtr18
namespace Go.Proofs.YtjmpnpkcgkhagaaGreat.B
open Go Go.RowKit
set_option maxRecDepth 100000
noncomputable section
attribute [local irreducible] awp ctxK itersK iterK retQ retGQ awf ctxF loopF
def colV (depth at_ : Int) (env : List (List Val)) : Val := if 0 ≤ depth ∧ depth < (env.length : Int) ∧ 0 ≤ at_ ∧ at_ < ((env.getD depth.toNat []).length : Int) then (env.getD depth.toNat []).getD at_.toNat zeroVal else zeroVal
mutual
def evalG (ap : Int → ByteArray → List Val → Val) (env : List (List Val)) : Term → Val
  | .mk op v depth at_ name kids _ _ => if op = 1 then v else if op = 2 then colV depth at_ env else if op = 26 ∨ op = 27 ∨ op = 28 then zeroVal else ap op name (evalGs ap env kids)
def evalGs (ap : Int → ByteArray → List Val → Val) (env : List (List Val)) : List Term → List Val
  | [] => []
  | t :: l => evalG ap env t :: evalGs ap env l
end
section
variable {ap : Int → ByteArray → List Val → Val} {e1 e2 : List (List Val)}
theorem evalG_eq (ap : Int → ByteArray → List Val → Val) (env : List (List Val)) (t : Term) : evalG ap env t = if t.op = 1 then t.v else if t.op = 2 then colV t.depth t.at_ env else if t.op = 26 ∨ t.op = 27 ∨ t.op = 28 then zeroVal else ap t.op t.name (evalGs ap env t.kids) := by cases t; simp only [evalG]; rfl
theorem evalGs_map (ap : Int → ByteArray → List Val → Val) (env : List (List Val)) : ∀ l : List Term, evalGs ap env l = l.map (evalG ap env)
  | [] => rfl
  | t :: l => by simp only [evalGs, List.map_cons, evalGs_map ap env l]
mutual
theorem eval_map {p : Term → Int → Term} (H : ∀ c : Term, c.op = 2 → colV c.depth (p c 0).at_ e2 = colV c.depth c.at_ e1) : ∀ t : Term, evalG ap e2 (mapT p 0 t) = evalG ap e1 t
  | .mk op v depth at_ name kids sub type => by
    simp only [mapT, evalG]
    by_cases h1 : op = 1
    · rw [if_pos h1, if_pos h1]
    · rw [if_neg h1, if_neg h1]
      by_cases h2 : op = 2
      · have := H (.mk op v depth at_ name kids sub type) h2
        rw [if_pos h2, if_pos h2, if_pos h2]; exact this
      · rw [if_neg h2, if_neg h2, evals_map H kids]
theorem evals_map {p : Term → Int → Term} (H : ∀ c : Term, c.op = 2 → colV c.depth (p c 0).at_ e2 = colV c.depth c.at_ e1) : ∀ l : List Term, evalGs ap e2 (mapTs p 0 l) = evalGs ap e1 l
  | [] => rfl
  | t :: l => by simp only [mapTs, evalGs, eval_map H t, evals_map H l]
end
def BackH (p q : Term → Int → Term) : Prop := ∀ (c b : Term) (d : Int), b.depth = c.depth → b.at_ = (p c d).at_ → (q b d).at_ = c.at_
mutual
theorem backT {p q : Term → Int → Term} (H : BackH p q) : ∀ (t : Term) (d : Int), mapT q d (mapT p d t) = t
  | .mk op v depth at_ name kids sub type, d => by
    simp only [mapT]
    rw [backTs H kids d, backRs H sub (d + 1)]
    by_cases h2 : op = 2
    · rw [if_pos h2, if_pos h2, H (.mk op v depth at_ name kids sub type) (.mk op v depth (p (.mk op v depth at_ name kids sub type) d).at_ name (mapTs p d kids) (mapRs p (d + 1) sub) type) d rfl rfl]
      rfl
    · rw [if_neg h2, if_neg h2]
theorem backTs {p q : Term → Int → Term} (H : BackH p q) : ∀ (l : List Term) (d : Int), mapTs q d (mapTs p d l) = l
  | [], _ => rfl
  | t :: l, d => by simp only [mapTs, backT H t d, backTs H l d]
theorem backA {p q : Term → Int → Term} (H : BackH p q) : ∀ (a : Agg) (d : Int), mapA q d (mapA p d a) = a
  | .mk name distinct t, d => by simp only [mapA, backTs H t d]
theorem backAs {p q : Term → Int → Term} (H : BackH p q) : ∀ (l : List Agg) (d : Int), mapAs q d (mapAs p d l) = l
  | [], _ => rfl
  | t :: l, d => by simp only [mapAs, backA H t d, backAs H l d]
theorem backR {p q : Term → Int → Term} (H : BackH p q) : ∀ (r : Rel) (d : Int), mapR q d (mapR p d r) = r
  | .mk op table cols kids terms aggs keys limit skip all rows, d => by simp only [mapR, backRs H kids d, backTs H terms d, backAs H aggs d]
theorem backRs {p q : Term → Int → Term} (H : BackH p q) : ∀ (l : List Rel) (d : Int), mapRs q d (mapRs p d l) = l
  | [], _ => rfl
  | t :: l, d => by simp only [mapRs, backR H t d, backRs H l d]
end
def InH (p : Term → Int → Term) (f : Int → Int) : Prop := ∀ (c : Term) (d : Int), WI c.depth → 0 ≤ d → d ≤ 3000000 → c.depth = d → (p c d).at_ = f c.at_
mutual
theorem inMT {p : Term → Int → Term} {f : Int → Int} (H : InH p f) : ∀ (t : Term) (d : Int), DT t → 0 ≤ d → d + t.sz ≤ 3000000 → inT d (mapT p d t) = (inT d t).map f
  | .mk op v depth at_ name kids sub type, d, hw, h0, h1 => by
    obtain ⟨g1, g2, g3⟩ := hw
    simp only [Term.sz] at h1
    simp only [mapT, inT, List.map_append]
    rw [inMTs H kids d g2 h0 (by omega), inMRs H sub (d + 1) g3 (by omega) (by omega)]
    by_cases h : op = 2 ∧ depth = d
    · have := H (.mk op v depth at_ name kids sub type) d g1 h0 (by omega) h.2
      rw [if_pos h, if_pos h, if_pos h.1, this]; rfl
    · rw [if_neg h, if_neg h]; rfl
theorem inMTs {p : Term → Int → Term} {f : Int → Int} (H : InH p f) : ∀ (l : List Term) (d : Int), DTs l → 0 ≤ d → d + szTs l ≤ 3000000 → inTs d (mapTs p d l) = (inTs d l).map f
  | [], _, _, _, _ => rfl
  | t :: l, d, hw, h0, h1 => by
    simp only [szTs] at h1
    simp only [mapTs, inTs, List.map_append, inMT H t d hw.1 h0 (by omega), inMTs H l d hw.2 h0 (by omega)]
theorem inMA {p : Term → Int → Term} {f : Int → Int} (H : InH p f) : ∀ (a : Agg) (d : Int), DA a → 0 ≤ d → d + a.sz ≤ 3000000 → inA d (mapA p d a) = (inA d a).map f
  | .mk name distinct t, d, hw, h0, h1 => by
    have hk : DTs t := hw
    simp only [Agg.sz] at h1
    simp only [mapA, inA, inMTs H t d hk h0 (by omega)]
theorem inMAs {p : Term → Int → Term} {f : Int → Int} (H : InH p f) : ∀ (l : List Agg) (d : Int), DAs l → 0 ≤ d → d + szAs l ≤ 3000000 → inAs d (mapAs p d l) = (inAs d l).map f
  | [], _, _, _, _ => rfl
  | t :: l, d, hw, h0, h1 => by
    simp only [szAs] at h1
    simp only [mapAs, inAs, List.map_append, inMA H t d hw.1 h0 (by omega), inMAs H l d hw.2 h0 (by omega)]
theorem inMR {p : Term → Int → Term} {f : Int → Int} (H : InH p f) : ∀ (r : Rel) (d : Int), DR r → 0 ≤ d → d + r.sz ≤ 3000000 → inR d (mapR p d r) = (inR d r).map f
  | .mk op table cols kids terms aggs keys limit skip all rows, d, hw, h0, h1 => by
    obtain ⟨g1, g2, g3⟩ := hw
    simp only [Rel.sz] at h1
    simp only [mapR, inR, List.map_append, inMRs H kids d g1 h0 (by omega), inMTs H terms d g2 h0 (by omega), inMAs H aggs d g3 h0 (by omega)]
theorem inMRs {p : Term → Int → Term} {f : Int → Int} (H : InH p f) : ∀ (l : List Rel) (d : Int), DRs l → 0 ≤ d → d + szRs l ≤ 3000000 → inRs d (mapRs p d l) = (inRs d l).map f
  | [], _, _, _, _ => rfl
  | t :: l, d, hw, h0, h1 => by
    simp only [szRs] at h1
    simp only [mapRs, inRs, List.map_append, inMR H t d hw.1 h0 (by omega), inMRs H l d hw.2 h0 (by omega)]
end
end
theorem nodup_le {α : Type} [DecidableEq α] : ∀ {a b : List α}, a.Nodup → (∀ x ∈ a, x ∈ b) → a.length ≤ b.length
  | [], _, _, _ => Nat.zero_le _
  | x :: a, b, h, hs => by
    rw [List.nodup_cons] at h
    have hx := hs x List.mem_cons_self
    have := nodup_le (a := a) (b := b.erase x) h.2 (fun y hy => (List.mem_erase_of_ne (fun e => h.1 (by rw [← e]; exact hy))).2 (hs y (List.mem_cons_of_mem _ hy)))
    rw [List.length_erase_of_mem hx] at this
    have hb : 0 < b.length := List.length_pos_of_mem hx
    rw [List.length_cons]; omega
theorem rises_nodup {l : List Int} (h : Rises l) : l.Nodup := by
  refine List.Pairwise.imp ?_ h
  intro a b hab; omega
theorem rise_map_len {f : Int → Int} (hf : ∀ x y, f x = f y → x = y) (l : List Int) : (riseI (l.map f)).length = (riseI l).length := by
  have h1 := rises_nodup (riseI_rises (l.map f))
  have h2 : ((riseI l).map f).Nodup := by
    have := rises_nodup (riseI_rises l)
    rw [List.nodup_iff_pairwise_ne] at this ⊢
    rw [List.pairwise_map]
    exact this.imp fun hab e => hab (hf _ _ e)
  have a := nodup_le h1 (b := (riseI l).map f) (fun x hx => by
    rw [riseI_mem, List.mem_map] at hx
    obtain ⟨y, hy, rfl⟩ := hx
    exact List.mem_map.2 ⟨y, (riseI_mem _ _).2 hy, rfl⟩)
  have b := nodup_le h2 (b := riseI (l.map f)) (fun x hx => by
    rw [List.mem_map] at hx
    obtain ⟨y, hy, rfl⟩ := hx
    rw [riseI_mem] at hy
    exact (riseI_mem _ _).2 (List.mem_map.2 ⟨y, hy, rfl⟩))
  rw [List.length_map] at a b
  omega
def fromV (v : Val) : Int := if v.kind = 1 then (if v.n = 0 then 0 else 2) else 1
def andI (a b : Int) : Int := min (if a = 0 ∨ a = 1 ∨ a = 2 then a else 1) (if b = 0 ∨ b = 1 ∨ b = 2 then b else 1)
theorem fromV_range (v : Val) : fromV v = 0 ∨ fromV v = 1 ∨ fromV v = 2 := by
  unfold fromV
  split
  · split
    · exact .inl rfl
    · exact .inr (.inr rfl)
  · exact .inr (.inl rfl)
theorem andI_of {a b : Int} (ha : a = 0 ∨ a = 1 ∨ a = 2) (hb : b = 0 ∨ b = 1 ∨ b = 2) : andI a b = min a b := by
  unfold andI; rw [if_pos ha, if_pos hb]
theorem min3 {a b : Int} (ha : a = 0 ∨ a = 1 ∨ a = 2) (hb : b = 0 ∨ b = 1 ∨ b = 2) : min a b = 0 ∨ min a b = 1 ∨ min a b = 2 := by omega
section
variable {ap : Int → ByteArray → List Val → Val} {env : List (List Val)}
def truthG (ap : Int → ByteArray → List Val → Val) (env : List (List Val)) (t : Term) : Int := fromV (evalG ap env t)
theorem truthG_range (t : Term) : truthG ap env t = 0 ∨ truthG ap env t = 1 ∨ truthG ap env t = 2 := fromV_range _
def AndH (ap : Int → ByteArray → List Val → Val) : Prop := ∀ name a b, fromV (ap 17 name [a, b]) = andI (fromV a) (fromV b)
theorem truth_and (H : AndH ap) {t : Term} (h1 : t.op = 17) {a b : Term} (h2 : t.kids = [a, b]) : truthG ap env t = min (truthG ap env a) (truthG ap env b) := by
  unfold truthG
  rw [evalG_eq, if_neg (by omega), if_neg (by omega), if_neg (by omega), h1, h2]
  simp only [evalGs]
  rw [H, andI_of (fromV_range _) (fromV_range _)]
mutual
theorem split_truth (H : AndH ap) : ∀ (t : Term) (m : Int), (m = 0 ∨ m = 1 ∨ m = 2) → ((splitT t).map (truthG ap env)).foldl andI m = min m (truthG ap env t)
  | .mk op v depth at_ name kids sub type, m, hm => by
    simp only [splitT]
    by_cases h : op = 17 ∧ kids.length = 2
    · rw [if_pos h]
      have hk := splits_truth H kids m hm
      obtain ⟨a, b, rfl⟩ : ∃ a b, kids = [a, b] := by
        match kids, h.2 with
        | [a, b], _ => exact ⟨a, b, rfl⟩
      rw [hk, truth_and H (t := .mk op v depth at_ name [a, b] sub type) h.1 rfl]
      simp only [List.map_cons, List.map_nil, List.foldl_cons, List.foldl_nil]
      omega
    · rw [if_neg h]
      simp only [List.map_cons, List.map_nil, List.foldl_cons, List.foldl_nil]
      exact andI_of hm (fromV_range _)
theorem splits_truth (H : AndH ap) : ∀ (l : List Term) (m : Int), (m = 0 ∨ m = 1 ∨ m = 2) → ((splitTs l).map (truthG ap env)).foldl andI m = (l.map (truthG ap env)).foldl min m
  | [], _, _ => rfl
  | t :: l, m, hm => by
    simp only [splitTs, List.map_append, List.foldl_append, List.map_cons, List.foldl_cons]
    rw [split_truth H t m hm, splits_truth H l _ (min3 hm (truthG_range _))]
end
mutual
theorem split_one : ∀ (t : Term), ∀ x ∈ splitT t, (splitT x).length = 1
  | .mk op v depth at_ name kids sub type, x, hx => by
    simp only [splitT] at hx
    by_cases h : op = 17 ∧ kids.length = 2
    · rw [if_pos h] at hx; exact splits_one kids x hx
    · rw [if_neg h, List.mem_singleton] at hx
      subst hx
      simp only [splitT]
      rw [if_neg h]; rfl
theorem splits_one : ∀ (l : List Term), ∀ x ∈ splitTs l, (splitT x).length = 1
  | t :: l, x, hx => by
    simp only [splitTs, List.mem_append] at hx
    rcases hx with hx | hx
    · exact split_one t x hx
    · exact splits_one l x hx
end
mutual
theorem split_pos : ∀ (t : Term), 0 < (splitT t).length
  | .mk op v depth at_ name kids sub type => by
    simp only [splitT]
    by_cases h : op = 17 ∧ kids.length = 2
    · rw [if_pos h]
      have := splits_pos kids
      omega
    · rw [if_neg h]; exact Nat.one_pos
theorem splits_pos : ∀ (l : List Term), l.length ≤ (splitTs l).length
  | [] => Nat.le_refl _
  | t :: l => by
    have h1 := split_pos t
    have h2 := splits_pos l
    simp only [splitTs, List.length_append, List.length_cons]; omega
end
theorem join_truth (H : AndH ap) : ∀ (r : List Term) (x : Term), truthG ap env (r.foldl and2 x) = (r.map (truthG ap env)).foldl andI (truthG ap env x)
  | [], _ => rfl
  | y :: r, x => by
    rw [List.foldl_cons, join_truth H r, truth_and H (t := and2 x y) rfl rfl, List.map_cons, List.foldl_cons, andI_of (truthG_range _) (truthG_range _)]
theorem whole_join (H : AndH ap) (t : Term) : truthG ap env (joinT (splitT t)) = truthG ap env t := by
  have hp := split_pos t
  have h := split_truth (env := env) H t 2 (.inr (.inr rfl))
  cases hs : splitT t with
  | nil => rw [hs] at hp; simp at hp
  | cons x r =>
    rw [hs, List.map_cons, List.foldl_cons, andI_of (.inr (.inr rfl)) (truthG_range _)] at h
    have hr := fromV_range (evalG ap env x)
    have hr2 := fromV_range (evalG ap env t)
    have e : min 2 (truthG ap env x) = truthG ap env x := by unfold truthG; omega
    have e2 : min 2 (truthG ap env t) = truthG ap env t := by unfold truthG; omega
    rw [e, e2] at h
    show truthG ap env (r.foldl and2 x) = _
    rw [join_truth H, h]
end
end
end Go.Proofs.YtjmpnpkcgkhagaaGreat.B
namespace Go.Proofs.YtjmpnpkcgkhagaaGreat.B
open Go Go.RowKit
set_option maxRecDepth 100000
noncomputable section
attribute [local irreducible] awp ctxK itersK iterK retQ retGQ awf ctxF loopF
def shortV (v : Val) : Prop := v.s.size ≤ 2000000
mutual
def strT : Term → Prop
  | .mk _ v _ _ _ kids _ _ => v.s.size ≤ 2000000 ∧ strTs kids
def strTs : List Term → Prop
  | [] => True
  | t :: l => strT t ∧ strTs l
end
theorem strT_eq (t : Term) : strT t ↔ (t.v.s.size ≤ 2000000 ∧ strTs t.kids) := by cases t; simp only [strT, Term.v_mk, Term.kids_mk]
theorem strTs_mem : ∀ {l : List Term}, strTs l ↔ ∀ t ∈ l, strT t
  | [] => by simp [strTs]
  | t :: l => by simp only [strTs, List.mem_cons, forall_eq_or_imp, strTs_mem (l := l)]
def envOK (env : List (List Val)) : Prop := ∀ r ∈ env, ∀ v ∈ r, shortV v
theorem short_zero : shortV zeroVal := Nat.zero_le _
theorem short_num (n : Int) : shortV (value_Num n) := Nat.zero_le _
theorem short_told (n : Int) (b : Bool) : shortV (scalar_told n b) := by
  unfold scalar_told; split
  · exact short_zero
  · exact short_num n
theorem short_bool (b : Bool) : shortV (value_Bool b) := by rw [value_Bool_spec]; exact Nat.zero_le _
theorem short_tri (a : Int) : shortV (tri_Value a) := by
  unfold tri_Value
  repeat' split
  all_goals exact Nat.zero_le _
theorem short_cmp (op : Int) (a b : Val) : shortV (cmpO op a b) := by
  unfold cmpO; split
  · exact Nat.zero_le _
  · exact short_zero
theorem short_getD {l : List Val} (h : ∀ x ∈ l, shortV x) (i : Nat) : shortV (l.getD i zeroVal) := by
  rw [List.getD_eq_getElem?_getD]
  cases e : l[i]? with
  | none => exact short_zero
  | some v => exact h v (List.mem_of_getElem? e)
theorem short_cases : ∀ (l : List Val), (∀ x ∈ l, shortV x) → shortV (casesL l)
  | [], _ => short_zero
  | [x], h => h x (by simp)
  | c :: v :: r, h => by
    simp only [casesL]
    split
    · exact h v (by simp)
    · exact short_cases r fun x hx => h x (by simp [hx])
theorem short_ite {c : Prop} [Decidable c] {a b : Val} (ha : c → shortV a) (hb : ¬ c → shortV b) : shortV (if c then a else b) := by split <;> simp_all
theorem short_called (name : ByteArray) {l : List Val} (h : ∀ x ∈ l, shortV x) : shortV (scalar_called name l) := by
  have g := short_getD h
  have gt : ∀ (x : Val) f b, shortV x → shortV (value_Str (turnS x.s f b)) := fun x f b hx => by
    show (turnS x.s f b).size ≤ 2000000
    rw [turnS_size]; exact hx
  unfold scalar_called firstV called3 called2
  repeat' split
  all_goals first | exact short_zero | exact g _ | exact short_told _ _ | exact short_num _ | exact gt _ _ _ (g _)
theorem short_apply (op : Int) (name : ByteArray) {l : List Val} (h : ∀ x ∈ l, shortV x) : shortV (scalar_Apply op name l) := by
  have g := short_getD h
  unfold scalar_Apply
  split
  · exact short_zero
  unfold applyB
  repeat' (first | refine short_ite (fun _ => ?_) (fun _ => ?_) | exact short_zero | exact short_told _ _ | exact short_bool _ | exact short_cmp _ _ _ | exact short_tri _ | (unfold scalar_both; exact short_tri _) | (unfold scalar_among; exact short_tri _) | exact short_cases l h | exact short_called name h)
  all_goals first
    | exact g _
    | (show (turnS _ _ _).size ≤ 2000000; rw [turnS_size]; exact g _)
    | (rename_i hs; show (_ ++ _ : ByteArray).size ≤ 2000000; rw [ByteArray.size_append]; omega)
theorem short_col {env : List (List Val)} (h : envOK env) (d a : Int) : shortV (colV d a env) := by
  unfold colV
  split
  · rename_i hc
    have hm : env.getD d.toNat [] ∈ env := by
      rw [List.getD_eq_getElem?_getD, List.getElem?_eq_getElem (by omega)]; exact List.getElem_mem _
    exact short_getD (h _ hm) _
  · exact short_zero
mutual
theorem short_eval {env : List (List Val)} (h : envOK env) : ∀ t : Term, strT t → shortV (evalG scalar_Apply env t)
  | .mk op v depth at_ name kids _ _, ht => by
    simp only [strT] at ht
    simp only [evalG]
    split
    · exact ht.1
    · split
      · exact short_col h _ _
      · split
        · exact short_zero
        · exact short_apply _ _ (short_evals h kids ht.2)
theorem short_evals {env : List (List Val)} (h : envOK env) : ∀ l : List Term, strTs l → ∀ x ∈ evalGs scalar_Apply env l, shortV x
  | [], _ => by simp [evalGs]
  | t :: l, ht => by
    simp only [strTs] at ht
    simp only [evalGs, List.mem_cons, forall_eq_or_imp]
    exact ⟨short_eval h t ht.1, short_evals h l ht.2⟩
end
def scalar_Eval (t : Term) (env : List (List Val)) : Val := evalG scalar_Apply env t
def A_scalar_Eval (r : Val) : List (A Un) := [.agg (encC Ty.val r)]
def O_scalar_Eval (_r : Val) : List (Ob Un) := []
def Fm_scalar_Eval (m : Nat) : FnC Un := fun args => match args with
  | [x0, x1] => (dS .term x0).bind fun t => (dL .row x1).bind fun env => some ([t.ht < m, t.sz ≤ 2000000, strT t, envOK env], A_scalar_Eval (scalar_Eval t env), O_scalar_Eval (scalar_Eval t env))
  | _ => none
def M_scalar_Eval (m : Nat) : Mc Un := mach (tbl [(10, Fm_scalar_Eval m), (11, F_scalar_Apply)]) (tbl []) (tbl []) (tbl []) (tbl [])
def R_scalar_Eval (r : Val) : RF Un := (A_scalar_Eval r, O_scalar_Eval r)
def N_scalar_Eval : Nat → NS := fun l => (look l [(14, { ts := bl 81 32281802128991715382, bs := bl 81 20, nm := [(.sl 5, 324)], cs := true })]).getD ⟨[], [], [], [], [], true⟩
def scalar_Eval_s14 (t : Term) (env : List (List Val)) (v0 : Int) (v1 : List Val) : S Un := (st 81 81 325 0 [(1, al .row env), (2, ax 2), (4, ax 4), (5, ao 324), (62, al .term t.kids), (63, ai (↑t.kids.length : Int)), (64, ai v0)] [(2, bg .term t), (4, bg .val zeroVal)] [(324, some ⟨(0 : Nat), Ty.val, v1, some (0 : Nat), true⟩)])
def scalar_Eval_B14 : Code := sub (bodyOf Tryz.f10) [1, 1, 1, 0, 1, 2, 2]
def scalar_Eval_L14 (m : Nat) : S Un → Option (EX Un) := loopF (N_scalar_Eval 14) (fun s Q => awf (M_scalar_Eval m) N_scalar_Eval scalar_Eval_B14 s Q)
def scalar_Eval_C14 (m : Nat) : Exit → S Un → Option (RF Un) := ctxF (M_scalar_Eval m) N_scalar_Eval (bodyOf Tryz.f10) [1, 1, 1, 0, 1, 2] (retF (M_scalar_Eval m) Tryz.f10.results.toList [.d])
def scalar_Eval_fn (m : Nat) (t : Term) (env : List (List Val)) : Option (RF Un) := awf (M_scalar_Eval m) N_scalar_Eval (bodyOf Tryz.f10) (entry Tryz.f10.ntmps 1 [.d (.agg (enc Ty.term t)), .d (.v (.dat (U := Un) Ty.row env))]) (retF (M_scalar_Eval m) Tryz.f10.results.toList [.d])
theorem scalar_Eval_in (m : Nat) (t : Term) (env : List (List Val)) : scalar_Eval_fn m t env =
 cndO (t.op == 1)
  (some (R_scalar_Eval (t.v)))
  (cndO (t.op == 2)
   (cndO (decide (t.depth ≥ 0))
    (cndO (decide (t.depth < (↑env.length : Int)))
     (cndO (decide (t.at_ ≥ 0))
      (obO (0 ≤ t.depth ∧ t.depth < (↑env.length : Int))
       (cndO (decide (t.at_ < (↑(List.length (env.getD t.depth.toNat [])) : Int)))
        (obO (0 ≤ t.depth ∧ t.depth < (↑env.length : Int))
         (obO (0 ≤ t.at_ ∧ t.at_ < (↑(List.length (env.getD t.depth.toNat [])) : Int))
          (some (R_scalar_Eval (List.getD (env.getD t.depth.toNat []) t.at_.toNat zeroVal)))))
        (some (R_scalar_Eval (zeroVal)))))
      (some (R_scalar_Eval (zeroVal))))
     (some (R_scalar_Eval (zeroVal))))
    (some (R_scalar_Eval (zeroVal))))
   (cndO (t.op == 26)
    (some (R_scalar_Eval (zeroVal)))
    (cndO (t.op == 27)
     (some (R_scalar_Eval (zeroVal)))
     (cndO (t.op == 28)
      (some (R_scalar_Eval (zeroVal)))
      (obO ((0 : Int) ≤ (0 : Int) ∧ (0 : Int) ≤ (↑t.kids.length : Int) ∧ (↑t.kids.length : Int).toNat * (32 : Nat) ≤ roomB)
       ((scalar_Eval_L14 m (scalar_Eval_s14 t env (0 : Int) ([]))).bind (thenX (scalar_Eval_C14 m)))))))) := by kernel_rfl
theorem scalar_Eval_l14 (m : Nat) (t : Term) (env : List (List Val)) (v0 : Int) (v1 : List Val) : scalar_Eval_L14 m (scalar_Eval_s14 t env v0 v1) =
 cndO (decide (v0 < (↑t.kids.length : Int)))
  (obO (0 ≤ v0 ∧ v0 < (↑t.kids.length : Int))
   (obO ((Term.ids (t.kids.getD v0.toNat zeroTerm)).ht < m)
    (obO ((Term.ids (t.kids.getD v0.toNat zeroTerm)).sz ≤ (2000000 : Nat))
     (obO (strT (Term.ids (t.kids.getD v0.toNat zeroTerm)))
      (obO (envOK env)
       (obO ((v1.length + [(scalar_Eval (Term.ids (t.kids.getD v0.toNat zeroTerm)) env)].length) * (32 : Nat) ≤ roomB)
        (scalar_Eval_L14 m (scalar_Eval_s14 t env (IntKind.i64.wrap (v0 + 1)) (v1 ++ [(scalar_Eval (Term.ids (t.kids.getD v0.toNat zeroTerm)) env)])))))))))
  (some (.exit 1, (scalar_Eval_s14 t env v0 v1))) := (loopF_eq (N_scalar_Eval 14) scalar_Eval_B14 _).trans (by kernel_rfl)
theorem scalar_Eval_a14_x1 (m : Nat) (t : Term) (env : List (List Val)) (v0 : Int) (v1 : List Val) : scalar_Eval_C14 m (.exit 1) (scalar_Eval_s14 t env v0 v1) =
 obO (txts v1)
  (some (R_scalar_Eval (scalar_Apply t.op t.name v1))) := by kernel_rfl
theorem eval_loop (m : Nat) (t : Term) (env : List (List Val)) (ht : WS .term t) (hm : t.ht < m + 1) (h1 : t.sz ≤ 2000000) (h2 : strT t) (h3 : envOK env) :
    (scalar_Eval_L14 m (scalar_Eval_s14 t env (0 : Int) [])).bind (thenX (scalar_Eval_C14 m)) = some (R_scalar_Eval (scalar_Apply t.op t.name (evalGs scalar_Apply env t.kids))) := by
  have hk : WL .term t.kids := ht.term_kids
  have hsz := t.sz_eq
  have hlen := szTs_len t.kids
  have hst := (strT_eq t).1 h2
  obtain ⟨lp, _⟩ := loop_fold (e := .exit 1) (L := scalar_Eval_L14 m) (st := fun (o : List Val) i => scalar_Eval_s14 t env i o) (l := t.kids) (d := zeroTerm) (g := fun o x => o ++ [scalar_Eval x env]) (fun i o => o.length = i) hk.len
    (fun o i x hi hx hI => by
      have hI' : o.length = i := hI
      have hmem : x ∈ t.kids := by rw [← hx, List.getD_eq_getElem?_getD, List.getElem?_eq_getElem (by omega)]; exact List.getElem_mem _
      refine ⟨by show (o ++ [_]).length = i + 1; rw [List.length_append, List.length_singleton]; omega, ?_⟩
      have hht := Term.ht_kid hmem
      have hxs := szTs_mem hmem
      rw [scalar_Eval_l14]
      simp only [cndO_eq, hi, decide_true, if_true, and_true, Int.toNat_natCast, hx, Term.ids_eq]
      rw [obO_pos (by omega), obO_pos (by omega), obO_pos (by omega), obO_pos (strTs_mem.1 hst.2 x hmem), obO_pos h3, obO_pos (by unfold roomB; rw [List.length_singleton]; omega)])
    (fun o _ => by rw [scalar_Eval_l14]; simp [cndO_eq]) [] rfl
  rw [snoc_fold, List.nil_append] at lp
  have he : t.kids.map (fun x => scalar_Eval x env) = evalGs scalar_Apply env t.kids := (evalGs_map _ _ _).symm
  rw [he] at lp
  refine (loop_end lp).trans ?_
  rw [scalar_Eval_a14_x1, obO_pos]
  refine ⟨by rw [evalGs_map, List.length_map]; omega, short_evals h3 t.kids hst.2⟩
theorem scalar_Eval_spec (m : Nat) (t : Term) (env : List (List Val)) (ht : WS .term t) (_he : WL .row env) (hm : t.ht < m + 1) (h1 : t.sz ≤ 2000000) (h2 : strT t) (h3 : envOK env) : scalar_Eval_fn m t env = some (R_scalar_Eval (scalar_Eval t env)) := by
  have hlen := szTs_len t.kids
  have hsz := t.sz_eq
  rw [scalar_Eval_in, eval_loop m t env ht hm h1 h2 h3]
  have e : scalar_Eval t env = evalG scalar_Apply env t := rfl
  rw [e, evalG_eq]
  simp only [cndO_or]
  simp only [cndO_eq, Bool.or_eq_true, beq_iff_eq, decide_eq_true_eq]
  by_cases c1 : t.op = 1
  · rw [if_pos c1, if_pos c1]
  rw [if_neg c1, if_neg c1]
  by_cases c2 : t.op = 2
  · rw [if_pos c2, if_pos c2]
    unfold colV
    by_cases d1 : t.depth ≥ 0
    · rw [if_pos d1]
      by_cases d2 : t.depth < (env.length : Int)
      · rw [if_pos d2]
        by_cases d3 : t.at_ ≥ 0
        · rw [if_pos d3, obO_pos ⟨d1, d2⟩]
          by_cases d4 : t.at_ < ((env.getD t.depth.toNat []).length : Int)
          · rw [if_pos d4, if_pos ⟨d1, d2, d3, d4⟩, obO_pos ⟨d1, d2⟩, obO_pos ⟨d3, d4⟩]
          · rw [if_neg d4, if_neg (fun e => d4 e.2.2.2)]
        · rw [if_neg d3, if_neg (fun e => d3 e.2.2.1)]
      · rw [if_neg d2, if_neg (fun e => d2 e.2.1)]
    · rw [if_neg d1, if_neg (fun e => d1 e.1)]
  rw [if_neg c2, if_neg c2]
  by_cases c3 : t.op = 26 ∨ t.op = 27 ∨ t.op = 28
  · rw [if_pos (by omega), if_pos c3]
  · rw [if_neg (by omega), if_neg c3, obO_pos (by unfold roomB; omega)]
theorem okm_scalar_Eval (m : Nat) (h_scalar_Eval : FnOK 10 (Fm_scalar_Eval m)) : FnOK 10 (Fm_scalar_Eval (m + 1)) := by
  intro args ob rs os h hob
  unfold Fm_scalar_Eval at h
  split at h
  · simp only [Option.bind_eq_some_iff, Option.some.injEq, Prod.mk.injEq] at h
    obtain ⟨t, e0, env, e1, rfl, rfl, rfl⟩ := h
    obtain rfl := dS_eq e0
    obtain rfl := dL_eq e1
    exact ⟨fn_contractF (M := (M_scalar_Eval m)) rfl (tbl_ok (l1 := [(10, Fm_scalar_Eval m), (11, F_scalar_Apply)]) (l2 := []) (l3 := []) (l4 := []) (l5 := []) ⟨h_scalar_Eval, ok_scalar_Apply, trivial⟩ trivial trivial trivial trivial) Tryz.func10 (by kernel_rfl) N_scalar_Eval 1 [.d] (fun hwf => (scalar_Eval_spec m t env (wfArg hwf (a := .d (.agg (enc Ty.term t))) (List.mem_of_getElem? (i := 0) rfl)) (wfArg hwf (a := .d (.v (.dat (U := Un) Ty.row env))) (List.mem_of_getElem? (i := 1) rfl)) (hob _ (List.mem_of_getElem? (i := 0) rfl)) (hob _ (List.mem_of_getElem? (i := 1) rfl)) (hob _ (List.mem_of_getElem? (i := 2) rfl)) (hob _ (List.mem_of_getElem? (i := 3) rfl)))), hasBody_of Tryz.func10 (by kernel_rfl) (by kernel_rfl)⟩
  · simp at h
theorem okAll_evalG : ∀ m, FnOK 10 (Fm_scalar_Eval m)
  | 0 => by
    skip
    intro args ob rs os h hob
    unfold Fm_scalar_Eval at h
    split at h
    · simp only [Option.bind_eq_some_iff, Option.some.injEq, Prod.mk.injEq] at h
      obtain ⟨_, _, _, _, rfl, _, _⟩ := h
      exact absurd (hob _ (List.mem_of_getElem? (i := 0) rfl)) (Nat.not_lt_zero _)
    · simp at h
  | m + 1 => by
    have ih := okAll_evalG m
    exact okm_scalar_Eval m ih
def F_scalar_Eval : FnC Un := fun args => match args with
  | [x0, x1] => (dS .term x0).bind fun t => (dL .row x1).bind fun env => some ([t.sz ≤ 2000000, strT t, envOK env], A_scalar_Eval (scalar_Eval t env), O_scalar_Eval (scalar_Eval t env))
  | _ => none
theorem ok_scalar_Eval : FnOK 10 F_scalar_Eval := by
  intro args ob rs os h hob
  unfold F_scalar_Eval at h
  split at h
  · simp only [Option.bind_eq_some_iff, Option.some.injEq, Prod.mk.injEq] at h
    obtain ⟨t, e0, env, e1, rfl, rfl, rfl⟩ := h
    refine ((okAll_evalG (t.ht + 1))) _ [t.ht < t.ht + 1, t.sz ≤ 2000000, strT t, envOK env] _ _ (?_ : Fm_scalar_Eval (t.ht + 1) _ = some _) ?_
    · unfold Fm_scalar_Eval
      simp only [e0, e1, Option.bind_some]
    · intro p hp
      simp only [List.mem_cons, List.not_mem_nil, or_false] at hp
      rcases hp with rfl | rfl | rfl | rfl
      · exact Nat.lt_succ_self _
      · exact hob _ (List.mem_of_getElem? (i := 0) rfl)
      · exact hob _ (List.mem_of_getElem? (i := 1) rfl)
      · exact hob _ (List.mem_of_getElem? (i := 2) rfl)
  · simp at h
def M_scalar_Truth : Mc Un := mach (tbl [(10, F_scalar_Eval), (37, F_tri_From)]) (tbl []) (tbl []) (tbl []) (tbl [])
def A_scalar_Truth (r : Int) : List (A Un) := [.c (.s (.int .i64 r))]
def O_scalar_Truth (_r : Int) : List (Ob Un) := []
def R_scalar_Truth (r : Int) : RF Un := (A_scalar_Truth r, O_scalar_Truth r)
def N_scalar_Truth : Nat → NS := fun l => (look l []).getD ⟨[], [], [], [], [], true⟩
def scalar_Truth_fn (t : Term) (env : List (List Val)) : Option (RF Un) := awf M_scalar_Truth N_scalar_Truth (bodyOf Tryz.f13) (entry Tryz.f13.ntmps 0 [.d (.agg (enc Ty.term t)), .d (.v (.dat (U := Un) Ty.row env))]) (retF M_scalar_Truth Tryz.f13.results.toList [.d])
theorem scalar_Truth_in (t : Term) (env : List (List Val)) : scalar_Truth_fn t env =
 obO ((Term.ids t).sz ≤ (2000000 : Nat))
  (obO (strT (Term.ids t))
   (obO (envOK env)
    (some (R_scalar_Truth (tri_From (scalar_Eval (Term.ids t) env)))))) := by kernel_rfl
def scalar_Truth (t : Term) (env : List (List Val)) : Int := tri_From (scalar_Eval t env)
theorem scalar_Truth_spec (t : Term) (env : List (List Val)) (_ht : WS .term t) (_he : WL .row env) (h1 : t.sz ≤ 2000000) (h2 : strT t) (h3 : envOK env) : scalar_Truth_fn t env = some (R_scalar_Truth (scalar_Truth t env)) := by
  rw [scalar_Truth_in, Term.ids_eq, obO_pos h1, obO_pos h2, obO_pos h3]
  rfl
def F_scalar_Truth : FnC Un := fun args => match args with
  | [x0, x1] => (dS .term x0).bind fun t => (dL .row x1).bind fun env => some ([t.sz ≤ 2000000, strT t, envOK env], A_scalar_Truth (scalar_Truth t env), O_scalar_Truth (scalar_Truth t env))
  | _ => none
theorem ok_scalar_Truth : FnOK 13 F_scalar_Truth := by
  intro args ob rs os h hob
  unfold F_scalar_Truth at h
  split at h
  · simp only [Option.bind_eq_some_iff, Option.some.injEq, Prod.mk.injEq] at h
    obtain ⟨t, e0, env, e1, rfl, rfl, rfl⟩ := h
    obtain rfl := dS_eq e0
    obtain rfl := dL_eq e1
    exact ⟨fn_contractF (M := M_scalar_Truth) rfl (tbl_ok (l1 := [(10, F_scalar_Eval), (37, F_tri_From)]) (l2 := []) (l3 := []) (l4 := []) (l5 := []) ⟨ok_scalar_Eval, ok_tri_From, trivial⟩ trivial trivial trivial trivial) Tryz.func13 (by kernel_rfl) N_scalar_Truth 0 [.d] (fun hwf => (scalar_Truth_spec t env (wfArg hwf (a := .d (.agg (enc Ty.term t))) (List.mem_of_getElem? (i := 0) rfl)) (wfArg hwf (a := .d (.v (.dat (U := Un) Ty.row env))) (List.mem_of_getElem? (i := 1) rfl)) (hob _ (List.mem_of_getElem? (i := 0) rfl)) (hob _ (List.mem_of_getElem? (i := 1) rfl)) (hob _ (List.mem_of_getElem? (i := 2) rfl)))), hasBody_of Tryz.func13 (by kernel_rfl) (by kernel_rfl)⟩
  · simp at h
end
end Go.Proofs.YtjmpnpkcgkhagaaGreat.B
namespace Go.Proofs.YtjmpnpkcgkhagaaGreat.B
open Go Go.RowKit
set_option linter.unusedVariables false
theorem BK.str_inv {s : ByteArray} {n : Nat} (h : BK (cs s) n) : s.size ≤ n := by
  cases h with
  | s _ _ h => exact h s rfl
mutual
theorem bkStr : ∀ (t : Term) (n : Nat), BKS (enc .term t) n → n ≤ 2000000 → strT t
  | .mk op v depth at_ name kids sub type, n, h, hn => by
    obtain ⟨_, _, _, h, q1⟩ := h.cons_inv
    obtain ⟨_, _, _, h, q2⟩ := h.cons_inv
    obtain ⟨_, _, _, h, q3⟩ := h.cons_inv
    obtain ⟨_, _, k0, h, q4⟩ := h.cons_inv
    obtain ⟨_, _, _, h, q5⟩ := h.cons_inv
    obtain ⟨_, _, _, h, q6⟩ := h.cons_inv
    obtain ⟨_, _, _, h, q7⟩ := h.cons_inv
    obtain ⟨_, _, k1, h, q8⟩ := h.cons_inv
    have e0 := k0.str_inv
    have e1 := bkStrs kids _ k1.dat_inv (by omega)
    simp only [strT]
    exact ⟨by show v.s.size ≤ _; have : v.s.size ≤ _ := e0; omega, e1⟩
theorem bkStrs : ∀ (l : List Term) (n : Nat), BKL .term l n → n ≤ 2000000 → strTs l
  | [], _, _, _ => trivial
  | t :: r, n, h, hn => by
    obtain ⟨_, _, h1, h2, _⟩ := h.cons_inv
    exact ⟨bkStr t _ h1 (by omega), bkStrs r _ h2 (by omega)⟩
end
theorem bkRow : ∀ (l : List Val) (n : Nat), BKL .val l n → n ≤ 2000000 → ∀ v ∈ l, shortV v
  | [], _, _, _ => by simp
  | x :: r, n, h, hn => by
    obtain ⟨_, _, h1, h2, _⟩ := h.cons_inv
    obtain ⟨_, _, _, h1, q2⟩ := h1.cons_inv
    obtain ⟨_, _, _, h1, q3⟩ := h1.cons_inv
    obtain ⟨_, _, k0, _, q4⟩ := h1.cons_inv
    intro v hv
    rcases List.mem_cons.1 hv with rfl | hv
    · have e0 := k0.str_inv
      show v.s.size ≤ _
      have : v.s.size ≤ _ := e0
      omega
    · exact bkRow r _ h2 (by omega) v hv
theorem env_one {l : List Val} (h : ∀ v ∈ l, shortV v) : envOK [l] := by
  intro r hr; rw [List.mem_singleton] at hr; rw [hr]; exact h
end Go.Proofs.YtjmpnpkcgkhagaaGreat.B
