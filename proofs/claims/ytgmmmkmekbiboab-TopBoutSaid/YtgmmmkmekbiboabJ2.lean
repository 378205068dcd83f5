/- My texts B9, B10, B11, B12, B13, Gw0, Gw1, joined: a claim takes at most 60 files. -/
import Derived.Test.YtgmmmkmekbiboabJ1

/- The engine, part B9: maps that were there before. -/
namespace Go.Eng
open Go Go.RowKit

section
variable {P : Program} {T : Tab}
variable {ro : Cx} {n : Nat} {F : Fin} {w0 : World} {M : Nat → Prop} {k : List It} {ops : Array Oper} {rest : List Oper} {e : Env} {H Hq : List Ck}
variable {K : Value → Prop} {q : Value → Value → Bool} {kt et mt : TypeId}

theorem MapAt.keep {w w' : World} {b : Nat} {f : Value → Option Value} (h : MapAt w b K q f) (c : Chg [] w w') : MapAt w' b K q f := by
  obtain ⟨es, clock, h1, h2⟩ := h
  exact ⟨es, clock, (c.block b (Array.getElem?_eq_some_iff.1 h1).1 (by simp)).trans h1, h2⟩
theorem MapAt.congr {w : World} {b : Nat} {f g : Value → Option Value} (h : MapAt w b K q f) (he : ∀ k, K k → f k = g k) : MapAt w b K q g := by
  obtain ⟨es, clock, h1, h2, h3⟩ := h
  exact ⟨es, clock, h1, h2, fun k hk => (h3 k hk).trans (he k hk)⟩
theorem qf_lookP {d b : Nat} {x ix : Operand} {f : Value → Option Value} {key z v : Value} {ty : TypeId} {pos : String} {af : Array Edge} (hK : KeyT P kt K q) (ht : P.underlying mt = some (.map kt et)) (hz : ZeroOf P et z)
    (hx : opv e x = some (.map (some b))) (hi : opv e ix = some key) (hd : Nat.blt d n = true) (hm : MapAt w0 b K q f) (hk : K key) (hv : (f key).getD z = v)
    (h : QF P ro n F w0 M0 k ops Hq rest ((d, v) :: e) H) : QF P ro n F w0 M0 k ops Hq (⟨some d, .lookup mt x ix false, ty, pos, af, none⟩ :: rest) e H := .mk fun w hw =>
  yf_quiet rfl hd (fun a hf w' hs => by
    simp only [execOp, hf.op hx, hf.op hi]
    simp [run_mapLook hK ht (zero_run hz w') (hm.keep hs.chg0) hk, hv]) (h.h w hw)
theorem qf_look2 {d b : Nat} {x ix : Operand} {f : Value → Option Value} {key v z : Value} {o : Bool} {ty : TypeId} {pos : String} {af : Array Edge} (hK : KeyT P kt K q) (ht : P.underlying mt = some (.map kt et)) (hz : ZeroOf P et z)
    (hx : opv e x = some (.map (some b))) (hi : opv e ix = some key) (hd : Nat.blt d n = true) (hm : mpP K q b f ∈ Hq) (hk : K key) (hv : (f key).getD z = v) (ho : (f key).isSome = o)
    (h : QF P ro n F w0 M k ops Hq rest ((d, .tuple #[v, .bool o]) :: e) H) : QF P ro n F w0 M k ops Hq (⟨some d, .lookup mt x ix true, ty, pos, af, none⟩ :: rest) e H := .mk fun w hw =>
  yf_quiet rfl hd (fun a hf w' hs => by
    simp only [execOp, hf.op hx, hf.op hi]
    simp [run_mapLook hK ht (zero_run hz w') (hs.mem hm) hk, hv, ho]) (h.h w hw)
theorem Sat.turn {w : World} {c c' : Ck} {R : List Ck} (h : Sat w0 M (c :: R) w) (hD : ∀ b, c'.D b → c.D b) (hp : c.p w → c'.p w) : Sat w0 M (c' :: R) w :=
  h.rep .z (Chg.refl [] w) (by simp) (hp (h.all _ List.mem_cons_self)) (fun b hb => ⟨.inl (hD b hb), (h.bd _ List.mem_cons_self b (hD b hb)).1⟩)
theorem Sat.mapC {w : World} {b : Nat} {f g : Value → Option Value} {R : List Ck} (h : Sat w0 M (mpP K q b f :: R) w) (he : ∀ k, K k → f k = g k) : Sat w0 M (mpP K q b g :: R) w :=
  h.turn (fun _ h => h) (fun hm => MapAt.congr hm he)
theorem map_sat {w : World} {b : Nat} {f : Value → Option Value} (h : MapAt w b K q f) : Sat w (fun x => x = b) [mpP K q b f] w := by
  have hb : b < w.heap.size := by
    obtain ⟨es, clock, h1, _⟩ := h
    exact (Array.getElem?_eq_some_iff.1 h1).1
  refine ⟨ChgP.refl _ _, fun c hc => ?_, List.pairwise_singleton _ _, fun c hc x hx => ?_⟩
  · rw [List.mem_singleton.1 hc]
    exact h
  · rw [List.mem_singleton.1 hc] at hx
    have hx' : x = b := hx
    subst hx'
    exact ⟨hb, .inl rfl⟩
end
end Go.Eng

/- The engine, part B10: a region that draws its order, in which some operations that act may stand in any order: one walk for each such order. -/
namespace Go.Eng
open Go Go.RowKit

section
variable {P : Program} {ops : Array Oper} {C : World → Prop} {K : Act → World → Prop}

theorem apart_symm {x y : Oper} (h : x.apart ops y = true) : y.apart ops x = true := by
  obtain ⟨h1, h2, h3⟩ := Oper.apart_spec h
  simp only [Oper.apart, Bool.and_eq_true]
  constructor
  · cases hy : y.dst with
    | none => rfl
    | some d =>
      simp only [Bool.and_eq_true, Bool.not_eq_true', bne_iff_ne, ne_eq]
      refine ⟨?_, fun hx => h2 d hx hy⟩
      have := h3 d hy
      simpa using this
  · cases hx : x.dst with
    | none => rfl
    | some d =>
      have := h1 d hx
      simpa using this

/-- Each operation against all others. -/
def pairsB (ops : Array Oper) (ms : List Nat) : Bool := (List.range ops.size).all fun j => match ops[j]? with
  | none => true
  | some oj => (kindOk oj.op && oj.after.all (fun e => Nat.blt e.on ops.size)) && (List.range j).all fun i => match ops[i]? with
    | none => true
    | some oi => (ms.getD j 0).testBit i || oi.apart ops oj
structure FlM (ops : Array Oper) : Prop where
  kind : ∀ (j : Nat) o, ops[j]? = some o → kindOk o.op = true
  edge : ∀ (j : Nat) o, ops[j]? = some o → ∀ e ∈ o.after, Region.binds .any e = true → ¬ e.on < ops.size → False
  pair : ∀ (i j : Nat) oi oj, i ≠ j → ops[i]? = some oi → ops[j]? = some oj → ((masks ops.toList).getD j 0).testBit i = true ∨ ((masks ops.toList).getD i 0).testBit j = true ∨ oi.apart ops oj = true
theorem pairsB_spec (h : pairsB ops (masks ops.toList) = true) : FlM ops := by
  have hj : ∀ (j : Nat) oj, ops[j]? = some oj → (kindOk oj.op = true ∧ (oj.after.all (fun e => Nat.blt e.on ops.size)) = true) ∧ ∀ i oi, i < j → ops[i]? = some oi → ((masks ops.toList).getD j 0).testBit i = true ∨ oi.apart ops oj = true := by
    intro j oj hoj
    have h1 := List.all_eq_true.1 h j (List.mem_range.2 (Array.getElem?_eq_some_iff.1 hoj).1)
    simp only [hoj, Bool.and_eq_true] at h1
    refine ⟨⟨h1.1.1, h1.1.2⟩, fun i oi hi hoi => ?_⟩
    have h2 := List.all_eq_true.1 h1.2 i (List.mem_range.2 hi)
    simpa only [hoi, Bool.or_eq_true] using h2
  refine ⟨fun j o ho => (hj j o ho).1.1, fun j o ho e he _ hn => hn (by have := Array.all_eq_true'.1 (hj j o ho).1.2 e he; simpa [Nat.blt_eq] using this), fun i j oi oj hij hoi hoj => ?_⟩
  rcases Nat.lt_or_gt_of_ne hij with h1 | h1
  · rcases (hj j oj hoj).2 i oi h1 hoi with h2 | h2
    · exact .inl h2
    · exact .inr (.inr h2)
  · rcases (hj i oi hoi).2 j oj h1 hoj with h2 | h2
    · exact .inr (.inl h2)
    · exact .inr (.inr (apart_symm h2))

/-- Orders: alternatives share what stands ahead. -/
inductive OT where
  | nil
  | op (i : Nat) (t : OT)
  | alt (t u : OT)
def wpT (P : Program) (ops : Array Oper) (C : World → Prop) (K : Act → World → Prop) : OT → Act → World → Prop
  | .nil, a, w => K a w
  | .op i t, a, w => match ops[i]? with
    | none => False
    | some o => if Region.wanted o (yielded ops a.tmps) = true then
        (if eff o.op = true then effStep P o a w (fun v w' => C w' ∧ wpT P ops C K t (a.put o.dst v) w')
         else ∃ v, (∀ w', C w' → (execOp a.eval o).run P w' = .ok (.value v) w') ∧ wpT P ops C K t (a.put o.dst v) w)
      else wpT P ops C K t (a.put o.dst undef) w
  | .alt t u, a, w => wpT P ops C K t a w ∧ wpT P ops C K u a w
def OT.del (j : Nat) : OT → OT
  | .nil => .nil
  | .op i t => if i = j then t else .op i (t.del j)
  | .alt t u => .alt (t.del j) (u.del j)
def isEff (ops : Array Oper) (i : Nat) : Bool := match ops[i]? with | some o => eff o.op | none => false
def OT.take (ops : Array Oper) (j : Nat) : OT → Option OT
  | .nil => none
  | .op i t => if i = j then some t else if isEff ops i = true then none else (t.take ops j).map (.op i)
  | .alt t u => match t.take ops j with | some x => some x | none => u.take ops j
def effsT (ops : Array Oper) : OT → List Nat
  | .nil => []
  | .op i t => if isEff ops i = true then i :: effsT ops t else effsT ops t
  | .alt t _ => effsT ops t
def covT (ops : Array Oper) (ms : List Nat) : Nat → OT → Bool
  | 0, t => (effsT ops t).isEmpty
  | n + 1, t => (effsT ops t).all fun j => (effsT ops t).any (fun i => (ms.getD j 0).testBit i) || (match t.take ops j with | some t' => covT ops ms n t' | none => false)
def OkT (ops : Array Oper) : OT → List Nat → Prop
  | .nil, rem => rem = []
  | .op i t, rem => (∃ o, ops[i]? = some o ∧ ∀ e ∈ o.after, Region.binds .any e = true → e.on ∉ rem) ∧ i ∈ rem ∧ (∀ b ∈ rem, ((masks ops.toList).getD i 0).testBit b = false) ∧ OkT ops t (rem.erase i)
  | .alt t u, rem => OkT ops t rem ∧ OkT ops u rem
def okT (ops : Array Oper) (ms : List Nat) : OT → List Nat → Bool
  | .nil, rem => rem.isEmpty
  | .op i t, rem => (match ops[i]? with | none => false | some o => o.after.all fun e => !(Region.binds .any e) || !(rem.contains e.on)) && rem.contains i && rem.all (fun b => !((ms.getD i 0).testBit b)) && okT ops ms t (rem.erase i)
  | .alt t u, rem => okT ops ms t rem && okT ops ms u rem
theorem okT_spec : ∀ (t : OT) (rem : List Nat), okT ops (masks ops.toList) t rem = true → OkT ops t rem
  | .nil, rem, h => by simpa [okT, OkT] using h
  | .op i t, rem, h => by
    simp only [okT, Bool.and_eq_true] at h
    obtain ⟨⟨⟨h1, h2⟩, h3⟩, h4⟩ := h
    refine ⟨?_, by simpa using h2, fun b hb => by simpa using List.all_eq_true.1 h3 b hb, okT_spec t _ h4⟩
    cases ho : ops[i]? with
    | none => rw [ho] at h1; cases h1
    | some o =>
      rw [ho] at h1
      refine ⟨o, rfl, fun e he hb => ?_⟩
      have := Array.all_eq_true'.1 h1 e he
      simp only [hb, Bool.not_true, Bool.false_or, Bool.not_eq_true'] at this
      simpa using this
  | .alt t u, rem, h => by
    simp only [okT, Bool.and_eq_true] at h
    exact ⟨okT_spec t rem h.1, okT_spec u rem h.2⟩

theorem del_ok {j : Nat} : ∀ (t : OT) (rem : List Nat), rem.Nodup → OkT ops t rem → j ∈ rem → OkT ops (t.del j) (rem.erase j)
  | .nil, rem, _, h, hj => by
    have : rem = [] := h
    subst this
    cases hj
  | .op i t, rem, hn, ⟨⟨o, h1, h1'⟩, h2, h3, h4⟩, hj => by
    unfold OT.del
    split
    · rename_i hij
      subst hij
      exact h4
    · rename_i hij
      refine ⟨⟨o, h1, fun e he hb hm => h1' e he hb (List.mem_of_mem_erase hm)⟩, (List.mem_erase_of_ne hij).2 h2, fun b hb => h3 b (List.mem_of_mem_erase hb), ?_⟩
      rw [List.erase_comm]
      exact del_ok t _ (hn.erase i) h4 ((List.mem_erase_of_ne (fun h => hij h.symm)).2 hj)
  | .alt t u, rem, hn, ⟨h1, h2⟩, hj => ⟨del_ok t rem hn h1 hj, del_ok u rem hn h2 hj⟩
theorem take_ok {j : Nat} : ∀ (t t' : OT) (rem : List Nat), rem.Nodup → OkT ops t rem → j ∈ rem → t.take ops j = some t' → OkT ops t' (rem.erase j)
  | .nil, _, _, _, _, _, h => by simp [OT.take] at h
  | .op i t, t', rem, hn, ⟨⟨o, h1, h1'⟩, h2, h3, h4⟩, hj, h => by
    unfold OT.take at h
    split at h
    · rename_i hij
      subst hij
      cases h
      exact h4
    · rename_i hij
      split at h
      · cases h
      · cases hx : t.take ops j with
        | none => rw [hx] at h; cases h
        | some x =>
          rw [hx] at h
          cases h
          refine ⟨⟨o, h1, fun e he hb hm => h1' e he hb (List.mem_of_mem_erase hm)⟩, (List.mem_erase_of_ne hij).2 h2, fun b hb => h3 b (List.mem_of_mem_erase hb), ?_⟩
          rw [List.erase_comm]
          exact take_ok t x _ (hn.erase i) h4 ((List.mem_erase_of_ne (fun h => hij h.symm)).2 hj) hx
  | .alt t u, t', rem, hn, ⟨h1, h2⟩, hj, h => by
    unfold OT.take at h
    split at h
    · rename_i x hx
      cases h
      exact take_ok t _ rem hn h1 hj hx
    · exact take_ok u t' rem hn h2 hj h
theorem take_del {j q : Nat} (hq : isEff ops q = false) (hj : isEff ops j = true) : ∀ t : OT, (t.del q).take ops j = (t.take ops j).map (OT.del q)
  | .nil => rfl
  | .op i t => by
    have hjq : j ≠ q := fun h => by rw [h, hq] at hj; cases hj
    by_cases hiq : i = q
    · subst hiq
      have e1 : (OT.op i t).del i = t := by simp [OT.del]
      rw [e1]
      simp only [OT.take, if_neg (fun h : i = j => hjq h.symm), hq, Bool.false_eq_true, if_false]
      cases t.take ops j with
      | none => rfl
      | some x => simp [OT.del]
    · have e1 : (OT.op i t).del q = .op i (t.del q) := by simp [OT.del, hiq]
      rw [e1]
      simp only [OT.take]
      split
      · rfl
      · split
        · rfl
        · rw [take_del hq hj t]
          cases t.take ops j with
          | none => rfl
          | some x => simp [OT.del, hiq]
  | .alt t u => by
    simp only [OT.del, OT.take, take_del hq hj t, take_del hq hj u]
    cases t.take ops j with
    | none => rfl
    | some x => rfl
theorem effs_del {q : Nat} (hq : isEff ops q = false) : ∀ t : OT, effsT ops (t.del q) = effsT ops t
  | .nil => rfl
  | .op i t => by
    unfold OT.del
    split
    · rename_i h
      subst h
      simp [effsT, hq]
    · simp only [effsT, effs_del hq t]
  | .alt t _ => by simp only [OT.del, effsT, effs_del hq t]
theorem effs_eff : ∀ (t : OT) (j : Nat), j ∈ effsT ops t → isEff ops j = true
  | .nil, j, h => by simp [effsT] at h
  | .op i t, j, h => by
    unfold effsT at h
    split at h
    · rename_i hi
      rcases List.mem_cons.1 h with rfl | h
      · exact hi
      · exact effs_eff t j h
    · exact effs_eff t j h
  | .alt t _, j, h => effs_eff t j h
theorem effs_rem : ∀ (t : OT) (rem : List Nat), OkT ops t rem → (∀ j, j ∈ effsT ops t → j ∈ rem) ∧ ∀ j, j ∈ rem → isEff ops j = true → j ∈ effsT ops t
  | .nil, rem, h => by
    have : rem = [] := h
    subst this
    exact ⟨fun j h => by simp [effsT] at h, fun j h => by cases h⟩
  | .op i t, rem, ⟨_, h2, _, h4⟩ => by
    obtain ⟨ih1, ih2⟩ := effs_rem t _ h4
    unfold effsT
    constructor
    · intro j hj
      split at hj
      · rcases List.mem_cons.1 hj with rfl | hj
        · exact h2
        · exact List.mem_of_mem_erase (ih1 j hj)
      · exact List.mem_of_mem_erase (ih1 j hj)
    · intro j hj he
      by_cases hij : j = i
      · subst hij
        rw [if_pos he]
        exact List.mem_cons_self
      · have := ih2 j ((List.mem_erase_of_ne hij).2 hj) he
        split
        · exact List.mem_cons_of_mem _ this
        · exact this
  | .alt t _, rem, ⟨h, _⟩ => effs_rem t rem h
theorem cov_del {q : Nat} (hq : isEff ops q = false) (ms : List Nat) : ∀ (n : Nat) (t : OT), covT ops ms n t = true → covT ops ms n (t.del q) = true
  | 0, t, h => by simpa [covT, effs_del hq] using h
  | n + 1, t, h => by
    simp only [covT, effs_del hq, List.all_eq_true] at h ⊢
    intro j hj
    have h1 := h j hj
    rw [Bool.or_eq_true] at h1 ⊢
    rcases h1 with h1 | h1
    · exact .inl h1
    · refine .inr ?_
      rw [take_del hq (effs_eff t j hj)]
      cases hx : t.take ops j with
      | none => rw [hx] at h1; cases h1
      | some x =>
        rw [hx] at h1
        exact cov_del hq ms n x h1

theorem pair_apart (hF : FlM ops) {i j : Nat} {oi oj : Oper} (hij : i ≠ j) (hi : ops[i]? = some oi) (hj : ops[j]? = some oj) (h1 : ((masks ops.toList).getD j 0).testBit i = false) (h2 : ((masks ops.toList).getD i 0).testBit j = false) : oi.apart ops oj = true := by
  rcases hF.pair i j oi oj hij hi hj with h | h | h
  · rw [h1] at h; cases h
  · rw [h2] at h; cases h
  · exact h

theorem swapT_quiet (hF : FlM ops) {j : Nat} {oj : Oper} (hj : ops[j]? = some oj) (hne : eff oj.op = false) : ∀ (t : OT) (rem : List Nat) (a : Act) (w : World), rem.Nodup → OkT ops t rem → j ∈ rem → (∀ i ∈ rem, ((masks ops.toList).getD j 0).testBit i = false) →
    Region.wanted oj (yielded ops a.tmps) = true → C w → wpT P ops C K t a w → ∃ v, (∀ w', C w' → (execOp a.eval oj).run P w' = .ok (.value v) w') ∧ wpT P ops C K (t.del j) (a.put oj.dst v) w
  | .nil, rem, a, w, hn, hok, hjr, hm, hw, hC, h => by
    have : rem = [] := hok
    subst this
    cases hjr
  | .alt t u, rem, a, w, hn, ⟨o1, o2⟩, hjr, hm, hw, hC, ⟨h1, h2⟩ => by
    obtain ⟨v, hv, h3⟩ := swapT_quiet hF hj hne t rem a w hn o1 hjr hm hw hC h1
    obtain ⟨v', hv', h4⟩ := swapT_quiet hF hj hne u rem a w hn o2 hjr hm hw hC h2
    have e1 := hv w hC
    have e2 := hv' w hC
    rw [e1] at e2
    have : v = v' := by simpa using e2
    subst this
    exact ⟨v, hv, h3, h4⟩
  | .op i t, rem, a, w, hn, ⟨⟨oi, hi, _⟩, hir, him, hok⟩, hjr, hm, hw, hC, h => by
    by_cases hij : i = j
    · subst hij
      rw [hj] at hi
      obtain rfl := Option.some.inj hi
      simp only [wpT, hj, hw, if_true, hne, Bool.false_eq_true, if_false] at h
      simpa [OT.del] using h
    · have hji : j ∈ rem.erase i := (List.mem_erase_of_ne (fun h => hij h.symm)).2 hjr
      have ih' := fun a w => swapT_quiet hF hj hne t (rem.erase i) a w (hn.erase i) hok hji (fun b hb => hm b (List.mem_of_mem_erase hb))
      have hap := pair_apart hF hij hi hj (hm i hir) (him j hjr)
      obtain ⟨p1, p2, p3⟩ := Oper.apart_spec hap
      have kj := hF.kind j oj hj
      have ki := hF.kind i oi hi
      have ej : ∀ (a : Act) v, execOp (a.put oi.dst v).eval oj = execOp a.eval oj := fun a v => exec_put kj a oi.dst v p1
      have ei : ∀ (a : Act) v, execOp (a.put oj.dst v).eval oi = execOp a.eval oi := fun a v => exec_put ki a oj.dst v p3
      have wj : ∀ (a : Act) v, Region.wanted oj (yielded ops (a.put oi.dst v).tmps) = Region.wanted oj (yielded ops a.tmps) := fun a v => wanted_put oj a oi.dst v p1
      have wi : ∀ (a : Act) v, Region.wanted oi (yielded ops (a.put oj.dst v).tmps) = Region.wanted oi (yielded ops a.tmps) := fun a v => wanted_put oi a oj.dst v p3
      have cm : ∀ (a : Act) u v, (a.put oi.dst u).put oj.dst v = (a.put oj.dst v).put oi.dst u := fun a u v => Act.put_comm a u v p2
      have ed : (OT.op i t).del j = .op i (t.del j) := by simp [OT.del, hij]
      rw [ed]
      simp only [wpT, hi] at h ⊢
      by_cases hwi : Region.wanted oi (yielded ops a.tmps) = true
      · simp only [hwi, if_true] at h
        by_cases he : eff oi.op = true
        · simp only [he, if_true] at h
          obtain ⟨v0, w0, hC0, h0⟩ := h.some
          obtain ⟨v, hv, _⟩ := ih' _ w0 (by rw [wj]; exact hw) hC0 h0
          simp only [ej] at hv
          refine ⟨v, hv, ?_⟩
          rw [wi]
          simp only [hwi, if_true, he]
          have h1 : effStep P oi (a.put oj.dst v) w (fun u w' => C w' ∧ wpT P ops C K t (a.put oi.dst u) w') := by
            unfold effStep at h ⊢
            rw [ei]
            exact h
          refine h1.mono fun u w' ⟨hC', h2⟩ => ⟨hC', ?_⟩
          obtain ⟨v', hv', h3⟩ := ih' _ w' (by rw [wj]; exact hw) hC' h2
          simp only [ej] at hv'
          have e1 := hv w hC
          have e2 := hv' w hC
          rw [e1] at e2
          have : v = v' := by simpa using e2
          subst this
          rw [cm] at h3
          exact h3
        · simp only [he] at h
          obtain ⟨u, hu, h⟩ := h
          obtain ⟨v, hv, h3⟩ := ih' _ w (by rw [wj]; exact hw) hC h
          simp only [ej] at hv
          refine ⟨v, hv, ?_⟩
          rw [wi]
          simp only [hwi, if_true, he]
          refine ⟨u, fun w' hC' => by rw [ei]; exact hu w' hC', ?_⟩
          rw [cm] at h3
          exact h3
      · simp only [hwi] at h
        obtain ⟨v, hv, h3⟩ := ih' _ w (by rw [wj]; exact hw) hC h
        simp only [ej] at hv
        refine ⟨v, hv, ?_⟩
        rw [wi]
        simp only [hwi]
        rw [cm] at h3
        exact h3

theorem swapT_skip (hF : FlM ops) {j : Nat} {oj : Oper} (hj : ops[j]? = some oj) : ∀ (t : OT) (rem : List Nat) (a : Act) (w : World), rem.Nodup → OkT ops t rem → j ∈ rem → (∀ i ∈ rem, ((masks ops.toList).getD j 0).testBit i = false) →
    Region.wanted oj (yielded ops a.tmps) = false → wpT P ops C K t a w → wpT P ops C K (t.del j) (a.put oj.dst undef) w
  | .nil, rem, a, w, hn, hok, hjr, hm, hw, h => by
    have : rem = [] := hok
    subst this
    cases hjr
  | .alt t u, rem, a, w, hn, ⟨o1, o2⟩, hjr, hm, hw, ⟨h1, h2⟩ => ⟨swapT_skip hF hj t rem a w hn o1 hjr hm hw h1, swapT_skip hF hj u rem a w hn o2 hjr hm hw h2⟩
  | .op i t, rem, a, w, hn, ⟨⟨oi, hi, _⟩, hir, him, hok⟩, hjr, hm, hw, h => by
    by_cases hij : i = j
    · subst hij
      rw [hj] at hi
      obtain rfl := Option.some.inj hi
      simp only [wpT, hj, hw, Bool.false_eq_true, if_false] at h
      simpa [OT.del] using h
    · have hji : j ∈ rem.erase i := (List.mem_erase_of_ne (fun h => hij h.symm)).2 hjr
      have ih' := fun a w => swapT_skip hF hj t (rem.erase i) a w (hn.erase i) hok hji (fun b hb => hm b (List.mem_of_mem_erase hb))
      have hap := pair_apart hF hij hi hj (hm i hir) (him j hjr)
      obtain ⟨p1, p2, p3⟩ := Oper.apart_spec hap
      have ki := hF.kind i oi hi
      have ei : ∀ (a : Act) v, execOp (a.put oj.dst v).eval oi = execOp a.eval oi := fun a v => exec_put ki a oj.dst v p3
      have wj : ∀ (a : Act) v, Region.wanted oj (yielded ops (a.put oi.dst v).tmps) = Region.wanted oj (yielded ops a.tmps) := fun a v => wanted_put oj a oi.dst v p1
      have wi : ∀ (a : Act) v, Region.wanted oi (yielded ops (a.put oj.dst v).tmps) = Region.wanted oi (yielded ops a.tmps) := fun a v => wanted_put oi a oj.dst v p3
      have cm : ∀ (a : Act) u v, (a.put oi.dst u).put oj.dst v = (a.put oj.dst v).put oi.dst u := fun a u v => Act.put_comm a u v p2
      have ed : (OT.op i t).del j = .op i (t.del j) := by simp [OT.del, hij]
      rw [ed]
      simp only [wpT, hi] at h ⊢
      rw [wi]
      by_cases hwi : Region.wanted oi (yielded ops a.tmps) = true
      · simp only [hwi, if_true] at h ⊢
        by_cases he : eff oi.op = true
        · simp only [he, if_true] at h ⊢
          have h1 : effStep P oi (a.put oj.dst undef) w (fun u w' => C w' ∧ wpT P ops C K t (a.put oi.dst u) w') := by
            unfold effStep at h ⊢
            rw [ei]
            exact h
          refine h1.mono fun u w' ⟨hC', h2⟩ => ⟨hC', ?_⟩
          have h3 := ih' _ w' (by rw [wj]; exact hw) h2
          rw [cm] at h3
          exact h3
        · simp only [he] at h ⊢
          obtain ⟨u, hu, h⟩ := h
          have h3 := ih' _ w (by rw [wj]; exact hw) h
          refine ⟨u, fun w' hC' => by rw [ei]; exact hu w' hC', ?_⟩
          rw [cm] at h3
          exact h3
      · simp only [hwi] at h ⊢
        have h3 := ih' _ w (by rw [wj]; exact hw) h
        rw [cm] at h3
        exact h3

theorem swapT_eff (hF : FlM ops) {j : Nat} {oj : Oper} (hj : ops[j]? = some oj) (he : eff oj.op = true) : ∀ (t t' : OT) (rem : List Nat) (a : Act) (w : World), rem.Nodup → OkT ops t rem → j ∈ rem → (∀ i ∈ rem, ((masks ops.toList).getD j 0).testBit i = false) →
    Region.wanted oj (yielded ops a.tmps) = true → t.take ops j = some t' → wpT P ops C K t a w → effStep P oj a w (fun v w' => C w' ∧ wpT P ops C K t' (a.put oj.dst v) w')
  | .nil, _, _, _, _, _, _, _, _, _, ht, _ => by simp [OT.take] at ht
  | .alt t u, t', rem, a, w, hn, ⟨o1, o2⟩, hjr, hm, hw, ht, ⟨h1, h2⟩ => by
    unfold OT.take at ht
    split at ht
    · rename_i x hx
      cases ht
      exact swapT_eff hF hj he t _ rem a w hn o1 hjr hm hw hx h1
    · exact swapT_eff hF hj he u t' rem a w hn o2 hjr hm hw ht h2
  | .op i t, t', rem, a, w, hn, ⟨⟨oi, hi, _⟩, hir, him, hok⟩, hjr, hm, hw, ht, h => by
    unfold OT.take at ht
    split at ht
    · rename_i hij
      subst hij
      cases ht
      rw [hj] at hi
      obtain rfl := Option.some.inj hi
      simp only [wpT, hj, hw, if_true, he] at h
      exact h
    · rename_i hij
      split at ht
      · cases ht
      · rename_i hei0
        have hei : eff oi.op = false := by simpa [isEff, hi] using hei0
        cases hx : t.take ops j with
        | none => rw [hx] at ht; cases ht
        | some x =>
          rw [hx] at ht
          cases ht
          have hji : j ∈ rem.erase i := (List.mem_erase_of_ne (fun h => hij h.symm)).2 hjr
          have ih' := fun a w => swapT_eff hF hj he t x (rem.erase i) a w (hn.erase i) hok hji (fun b hb => hm b (List.mem_of_mem_erase hb))
          have hap := pair_apart hF hij hi hj (hm i hir) (him j hjr)
          obtain ⟨p1, p2, p3⟩ := Oper.apart_spec hap
          have kj := hF.kind j oj hj
          have ki := hF.kind i oi hi
          have ej : ∀ (a : Act) v, execOp (a.put oi.dst v).eval oj = execOp a.eval oj := fun a v => exec_put kj a oi.dst v p1
          have ei : ∀ (a : Act) v, execOp (a.put oj.dst v).eval oi = execOp a.eval oi := fun a v => exec_put ki a oj.dst v p3
          have wj : ∀ (a : Act) v, Region.wanted oj (yielded ops (a.put oi.dst v).tmps) = Region.wanted oj (yielded ops a.tmps) := fun a v => wanted_put oj a oi.dst v p1
          have wi : ∀ (a : Act) v, Region.wanted oi (yielded ops (a.put oj.dst v).tmps) = Region.wanted oi (yielded ops a.tmps) := fun a v => wanted_put oi a oj.dst v p3
          have cm : ∀ (a : Act) u v, (a.put oi.dst u).put oj.dst v = (a.put oj.dst v).put oi.dst u := fun a u v => Act.put_comm a u v p2
          simp only [wpT, hi] at h
          by_cases hwi : Region.wanted oi (yielded ops a.tmps) = true
          · simp only [hwi, if_true, hei, Bool.false_eq_true, if_false] at h
            obtain ⟨u, hu, h⟩ := h
            have h3 := ih' _ w (by rw [wj]; exact hw) hx h
            have h4 : effStep P oj a w (fun v w' => C w' ∧ wpT P ops C K x ((a.put oi.dst u).put oj.dst v) w') := by
              unfold effStep at h3 ⊢
              rw [ej] at h3
              exact h3
            refine h4.mono fun v w' ⟨hC', h5⟩ => ⟨hC', ?_⟩
            simp only [wpT, hi]
            rw [wi]
            simp only [hwi, if_true, hei, Bool.false_eq_true, if_false]
            refine ⟨u, fun w' hC' => by rw [ei]; exact hu w' hC', ?_⟩
            rw [cm] at h5
            exact h5
          · simp only [hwi, Bool.false_eq_true, if_false] at h
            have h3 := ih' _ w (by rw [wj]; exact hw) hx h
            have h4 : effStep P oj a w (fun v w' => C w' ∧ wpT P ops C K x ((a.put oi.dst undef).put oj.dst v) w') := by
              unfold effStep at h3 ⊢
              rw [ej] at h3
              exact h3
            refine h4.mono fun v w' ⟨hC', h5⟩ => ⟨hC', ?_⟩
            simp only [wpT, hi]
            rw [wi]
            simp only [hwi, Bool.false_eq_true, if_false]
            rw [cm] at h5
            exact h5

/-- An operation that is left out: the orders in which it stands first, without it. -/
theorem swapT_skipE (hF : FlM ops) {j : Nat} {oj : Oper} (hj : ops[j]? = some oj) : ∀ (t t' : OT) (rem : List Nat) (a : Act) (w : World), rem.Nodup → OkT ops t rem → j ∈ rem → (∀ i ∈ rem, ((masks ops.toList).getD j 0).testBit i = false) →
    Region.wanted oj (yielded ops a.tmps) = false → t.take ops j = some t' → wpT P ops C K t a w → wpT P ops C K t' (a.put oj.dst undef) w
  | .nil, _, _, _, _, _, _, _, _, _, ht, _ => by simp [OT.take] at ht
  | .alt t u, t', rem, a, w, hn, ⟨o1, o2⟩, hjr, hm, hw, ht, ⟨h1, h2⟩ => by
    unfold OT.take at ht
    split at ht
    · rename_i x hx
      cases ht
      exact swapT_skipE hF hj t _ rem a w hn o1 hjr hm hw hx h1
    · exact swapT_skipE hF hj u t' rem a w hn o2 hjr hm hw ht h2
  | .op i t, t', rem, a, w, hn, ⟨⟨oi, hi, _⟩, hir, him, hok⟩, hjr, hm, hw, ht, h => by
    unfold OT.take at ht
    split at ht
    · rename_i hij
      subst hij
      cases ht
      rw [hj] at hi
      obtain rfl := Option.some.inj hi
      simp only [wpT, hj, hw, Bool.false_eq_true, if_false] at h
      exact h
    · rename_i hij
      split at ht
      · cases ht
      · rename_i hei0
        have hei : eff oi.op = false := by simpa [isEff, hi] using hei0
        cases hx : t.take ops j with
        | none => rw [hx] at ht; cases ht
        | some x =>
          rw [hx] at ht
          cases ht
          have hji : j ∈ rem.erase i := (List.mem_erase_of_ne (fun h => hij h.symm)).2 hjr
          have ih' := fun a w => swapT_skipE hF hj t x (rem.erase i) a w (hn.erase i) hok hji (fun b hb => hm b (List.mem_of_mem_erase hb))
          have hap := pair_apart hF hij hi hj (hm i hir) (him j hjr)
          obtain ⟨p1, p2, p3⟩ := Oper.apart_spec hap
          have ki := hF.kind i oi hi
          have ei : ∀ (a : Act) v, execOp (a.put oj.dst v).eval oi = execOp a.eval oi := fun a v => exec_put ki a oj.dst v p3
          have wj : ∀ (a : Act) v, Region.wanted oj (yielded ops (a.put oi.dst v).tmps) = Region.wanted oj (yielded ops a.tmps) := fun a v => wanted_put oj a oi.dst v p1
          have wi : ∀ (a : Act) v, Region.wanted oi (yielded ops (a.put oj.dst v).tmps) = Region.wanted oi (yielded ops a.tmps) := fun a v => wanted_put oi a oj.dst v p3
          have cm : ∀ (a : Act) u v, (a.put oi.dst u).put oj.dst v = (a.put oj.dst v).put oi.dst u := fun a u v => Act.put_comm a u v p2
          simp only [wpT, hi] at h ⊢
          rw [wi]
          by_cases hwi : Region.wanted oi (yielded ops a.tmps) = true
          · simp only [hwi, if_true, hei, Bool.false_eq_true, if_false] at h ⊢
            obtain ⟨u, hu, h⟩ := h
            have h3 := ih' _ w (by rw [wj]; exact hw) hx h
            refine ⟨u, fun w' hC' => by rw [ei]; exact hu w' hC', ?_⟩
            rw [cm] at h3
            exact h3
          · simp only [hwi, Bool.false_eq_true, if_false] at h ⊢
            have h3 := ih' _ w (by rw [wj]; exact hw) hx h
            rw [cm] at h3
            exact h3

theorem okT_end : ∀ (t : OT) (a : Act) (w : World), OkT ops t [] → wpT P ops C K t a w → K a w
  | .nil, _, _, _, h => h
  | .op i t, _, _, ⟨_, h2, _⟩, _ => by cases h2
  | .alt t _, a, w, ⟨h1, _⟩, ⟨h2, _⟩ => okT_end t a w h1 h2
theorem okT_first : ∀ (t : OT) (rem : List Nat), OkT ops t rem → rem ≠ [] → ∃ i ∈ rem, ∃ o, ops[i]? = some o ∧ ∀ e ∈ o.after, Region.binds .any e = true → e.on ∉ rem
  | .nil, rem, h, hne => absurd h hne
  | .op i t, rem, ⟨h1, h2, _⟩, _ => ⟨i, h2, h1⟩
  | .alt t _, rem, ⟨h1, _⟩, hne => okT_first t rem h1 hne

variable {ro : Cx} {Q : Fin}
theorem any_of_T (hF : FlM ops) (hK : ∀ a w, C w → K a w → Q .normal a w) : ∀ (fuel m : Nat) (t : OT) (rem : List Nat) (listed : Array Bool) (a : Act) (w : World),
    rem.length = fuel → rem.Nodup → listed.size = ops.size → (∀ i, i ∈ rem ↔ i < ops.size ∧ listed.getD i true = false) →
    (∀ (m : Nat) o, ops[m]? = some o → listed.getD m false = true → ∀ e ∈ o.after, Region.binds .any e = true → listed.getD e.on false = true) →
    OkT ops t rem → covT ops (masks ops.toList) m t = true → C w → wpT P ops C K t a w → wpAnyIn (FR ro.ro) 0 P .any ops Q fuel listed a w := by
  intro fuel
  induction fuel with
  | zero =>
    intro m t rem listed a w hl hn hsz hmem hcl hok hcov hC h
    have : rem = [] := by simpa using hl
    subst this
    refine ⟨?_, hK _ _ hC (okT_end t a w hok h)⟩
    refine List.eq_nil_iff_forall_not_mem.2 fun i hi => ?_
    obtain ⟨h0, o, ho, _⟩ := mem_ready.1 hi
    exact absurd ((hmem i).2 ⟨(Array.getElem?_eq_some_iff.1 ho).1, h0⟩) (by simp)
  | succ fuel ih =>
    intro m t rem listed a w hl hn hsz hmem hcl hok hcov hC h
    have hlist : ∀ x, x < ops.size → x ∉ rem → listed.getD x false = true := by
      intro x hx hr
      have h3 : ¬ (x < ops.size ∧ listed.getD x true = false) := fun hx => hr ((hmem x).2 hx)
      have h4 : x < listed.size := by omega
      simp only [Array.getD_eq_getD_getElem?, Array.getElem?_eq_getElem h4, Option.getD_some] at h3 ⊢
      cases hc : listed[x] with
      | true => rfl
      | false => exact absurd ⟨hx, hc⟩ h3
    have hunl : ∀ x, listed.getD x false = true → x ∉ rem := by
      intro x hx hr
      have h0 := ((hmem x).1 hr).2
      simp only [Array.getD_eq_getD_getElem?] at hx h0
      cases hc : listed[x]? <;> simp [hc] at hx h0
      simp [hx] at h0
    refine ⟨fun h0 => ?_, fun j hj => ?_⟩
    · exfalso
      obtain ⟨i, hir, o, ho, hd⟩ := okT_first t rem hok (by rintro rfl; simp at hl)
      have hrd : i ∈ Region.ready .any ops listed := by
        refine mem_ready.2 ⟨((hmem i).1 hir).2, o, ho, fun e he hb => ?_⟩
        by_cases hes : e.on < ops.size
        · exact hlist _ hes (hd e he hb)
        · exact (hF.edge i o ho e he hb hes).elim
      rw [h0] at hrd
      cases hrd
    · obtain ⟨h0, oj, hoj, hre⟩ := mem_ready.1 hj
      have hjr : j ∈ rem := (hmem j).2 ⟨(Array.getElem?_eq_some_iff.1 hoj).1, h0⟩
      have hun : ∀ i ∈ rem, ((masks ops.toList).getD j 0).testBit i = false := fun i hi => by
        cases hb : ((masks ops.toList).getD j 0).testBit i with
        | false => rfl
        | true => exact absurd hi (hunl i (masks_spec (D := fun m => listed.getD m false = true) (fun m o hm hD e he hb => hcl m o hm hD e he hb) j oj hoj (fun e he hb => hre e he hb) i hb))
      have next : ∀ m (t' : OT) a w, OkT ops t' (rem.erase j) → covT ops (masks ops.toList) m t' = true → C w → wpT P ops C K t' a w → wpAnyIn (FR ro.ro) 0 P .any ops Q fuel (listed.setIfInBounds j true) a w := by
        intro m t' a w hok hcov hC h
        refine ih m t' (rem.erase j) _ a w ?_ (hn.erase j) (by simp [hsz]) ?_ ?_ hok hcov hC h
        · rw [List.length_erase_of_mem hjr]; omega
        · intro i
          constructor
          · intro hi
            have hne : j ≠ i := fun e => by subst e; exact absurd hi (hn.not_mem_erase)
            have h1 := (hmem i).1 (List.mem_of_mem_erase hi)
            exact ⟨h1.1, by rw [getD_set_ne true hne]; exact h1.2⟩
          · rintro ⟨h1, h2⟩
            have hne : j ≠ i := fun e => by
              subst e
              simp [hsz, h1] at h2
            rw [getD_set_ne true hne] at h2
            exact (List.mem_erase_of_ne (fun h => hne h.symm)).2 ((hmem i).2 ⟨h1, h2⟩)
        · intro m o hm hD e he hb
          by_cases hmj : j = m
          · subst hmj
            rw [hoj] at hm
            obtain rfl := Option.some.inj hm
            exact getD_set_true (hre e he hb)
          · rw [getD_set_ne false hmj] at hD
            exact getD_set_true (hcl m o hm hD e he hb)
      unfold wpOpIn
      simp only [hoj]
      by_cases hw : Region.wanted oj (yielded ops a.tmps) = true
      · simp only [hw, if_true]
        cases he : eff oj.op with
        | true =>
          have hej : isEff ops j = true := by simp [isEff, hoj, he]
          have hje := (effs_rem t rem hok).2 j hjr hej
          cases m with
          | zero =>
            simp only [covT, List.isEmpty_iff] at hcov
            rw [hcov] at hje
            cases hje
          | succ m =>
            simp only [covT, List.all_eq_true] at hcov
            have h1 := hcov j hje
            rw [Bool.or_eq_true] at h1
            rcases h1 with h1 | h1
            · obtain ⟨i, hi, hb⟩ := List.any_eq_true.1 h1
              rw [hun i ((effs_rem t rem hok).1 i hi)] at hb
              cases hb
            · cases hx : t.take ops j with
              | none => rw [hx] at h1; cases h1
              | some x =>
                rw [hx] at h1
                have h2 := swapT_eff hF hoj he t x rem a w hn hok hjr hun hw hx h
                exact effStep.wpIn (hF.kind j oj hoj) (h2.mono fun v w' ⟨hC', h3⟩ => next m x _ _ (take_ok t x rem hn hok hjr hx) h1 hC' h3)
        | false =>
          have hej : isEff ops j = false := by simp [isEff, hoj, he]
          obtain ⟨v, hv, h2⟩ := swapT_quiet hF hoj he t rem a w hn hok hjr hun hw hC h
          exact upon_FR (fun c hc => by have := hF.kind j oj hoj; rw [hc] at this; cases this) (hv w hC) (next m _ _ _ (del_ok t rem hn hok hjr) (cov_del hej _ m t hcov) hC h2)
      · have hw' : Region.wanted oj (yielded ops a.tmps) = false := by simpa using hw
        simp only [hw', Bool.false_eq_true, if_false]
        cases he : eff oj.op with
        | false =>
          have hej : isEff ops j = false := by simp [isEff, hoj, he]
          exact ⟨fun f _ => fr_fn f, next m _ _ _ (del_ok t rem hn hok hjr) (cov_del hej _ m t hcov) hC (swapT_skip hF hoj t rem a w hn hok hjr hun hw' h)⟩
        | true =>
          have hej : isEff ops j = true := by simp [isEff, hoj, he]
          have hje := (effs_rem t rem hok).2 j hjr hej
          cases m with
          | zero =>
            simp only [covT, List.isEmpty_iff] at hcov
            rw [hcov] at hje
            cases hje
          | succ m =>
            simp only [covT, List.all_eq_true] at hcov
            have h1 := hcov j hje
            rw [Bool.or_eq_true] at h1
            rcases h1 with h1 | h1
            · obtain ⟨i, hi, hb⟩ := List.any_eq_true.1 h1
              rw [hun i ((effs_rem t rem hok).1 i hi)] at hb
              cases hb
            · cases hx : t.take ops j with
              | none => rw [hx] at h1; cases h1
              | some x =>
                rw [hx] at h1
                exact ⟨fun f _ => fr_fn f, next m _ _ _ (take_ok t x rem hn hok hjr hx) h1 hC (swapT_skipE hF hoj t x rem a w hn hok hjr hun hw' hx h)⟩

/-- The whole check. -/
def treeB (ops : Array Oper) (t : OT) : Bool := pairsB ops (masks ops.toList) && okT ops (masks ops.toList) t (List.range ops.size) && covT ops (masks ops.toList) ops.size t
theorem wpIn_region_T {id : Nat} {a : Act} {w : World} (t : OT) (hm : P.follows .mixedOrders = true) (hB : treeB ops t = true) (hC : C { w with drawn := w.drawn + 1 })
    (hK : ∀ a w, C w → K a w → Q .normal a w) (h : wpT P ops C K t a { w with drawn := w.drawn + 1 }) : (Code.region id ops true).wpIn (FR ro.ro) 0 P Q a w := by
  simp only [treeB, Bool.and_eq_true] at hB
  obtain ⟨⟨h1, h2⟩, h3⟩ := hB
  refine wpIn_region_any hm (any_of_T (pairsB_spec h1) hK ops.size ops.size t (List.range ops.size) _ a _ (by simp) List.nodup_range (by simp) ?_ ?_ (okT_spec t _ h2) h3 hC h)
  · intro i
    simp only [List.mem_range]
    constructor
    · intro hi
      exact ⟨hi, by simp [hi]⟩
    · exact fun hi => hi.1
  · intro m o _ hD
    simp only [Array.getD_eq_getD_getElem?, Array.getElem?_replicate] at hD
    split at hD <;> simp at hD
end
end Go.Eng

/- The engine, part B11: walks of a region by a tree of orders. -/
namespace Go.Eng
open Go Go.RowKit

section
variable {P : Program} {ro : Cx} {n : Nat} {F : Fin} {w0 : World} {M : Nat → Prop} {k : List It} {ops : Array Oper} {e : Env} {H Hq : List Ck}

structure QT (P : Program) (ro : Cx) (n : Nat) (F : Fin) (w0 : World) (M : Nat → Prop) (k : List It) (ops : Array Oper) (Hq : List Ck) (t : OT) (e : Env) (H : List Ck) : Prop where
  h : ∀ w, Sat w0 M (H ++ Hq) w → ∀ a, Fits n e a → a.defers = ro.ds → wpT P ops (Sat w0 M Hq) (fun a w => S P ro.ro F k .normal a w) t a w
def chainT : List Nat → OT → OT
  | [], t => t
  | i :: l, t => .op i (chainT l t)

theorem q_drawT {id : Nat} {l : List Oper} (t : OT) (Hq Hm : List Ck) (hH : Sp H (Hm ++ Hq)) (hm : P.follows .mixedOrders = true) (hB : treeB l.toArray t = true) (h : QT P ro n F w0 M k l.toArray Hq t e Hm) :
    Q P ro n F w0 M (.code (.region id l.toArray true) :: k) e H := .mk fun w hs a hf hd => by
  have hs1 := (hs.sp hH).keep (Chg.drew (N := []) w)
  exact wpIn_region_T t hm hB (C := Sat w0 M Hq) hs1.right (fun _ _ _ h => h) (h.h _ hs1 a hf hd)
theorem qt_nil (h : Q P ro n F w0 M k e (H ++ Hq)) : QT P ro n F w0 M k ops Hq .nil e H := ⟨fun w hs a hf hd => h.h w hs a hf hd⟩
theorem qt_alt {t u : OT} (h1 : QT P ro n F w0 M k ops Hq t e H) (h2 : QT P ro n F w0 M k ops Hq u e H) : QT P ro n F w0 M k ops Hq (.alt t u) e H :=
  ⟨fun w hs a hf hd => ⟨h1.h w hs a hf hd, h2.h w hs a hf hd⟩⟩
theorem wpT_chain {C : World → Prop} {K : Act → World → Prop} {t : OT} : ∀ (l : List Nat) (lo : List Oper) (a : Act) (w : World), l.map (fun i => ops[i]?) = lo.map some → wpFlL P ops C (wpT P ops C K t) lo a w → wpT P ops C K (chainT l t) a w
  | [], [], a, w, _, h => h
  | [], _ :: _, _, _, hl, _ => by cases hl
  | _ :: _, [], _, _, hl, _ => by cases hl
  | i :: l, o :: lo, a, w, hl, h => by
    simp only [List.map_cons, List.cons.injEq] at hl
    have ih : ∀ a w, wpFlL P ops C (wpT P ops C K t) lo a w → wpT P ops C K (chainT l t) a w := fun a w => wpT_chain l lo a w hl.2
    simp only [chainT, wpT, hl.1]
    simp only [wpFlL] at h
    split
    · rename_i hw
      rw [if_pos hw] at h
      split
      · rename_i he
        rw [if_pos he] at h
        exact h.mono fun v w' ⟨hC, h2⟩ => ⟨hC, ih _ _ h2⟩
      · rename_i he
        rw [if_neg he] at h
        obtain ⟨v, hv, h2⟩ := h
        exact ⟨v, hv, ih _ _ h2⟩
    · rename_i hw
      rw [if_neg hw] at h
      exact ih _ _ h
/-- The operations of these numbers. -/
inductive PickL (ops : Array Oper) : List Nat → List Oper → Prop
  | nil : PickL ops [] []
  | cons {i : Nat} {o : Oper} {l : List Nat} {lo : List Oper} : ops[i]? = some o → PickL ops l lo → PickL ops (i :: l) (o :: lo)
theorem PickL.map {l : List Nat} {lo : List Oper} (h : PickL ops l lo) : l.map (fun i => ops[i]?) = lo.map some := by
  induction h with
  | nil => rfl
  | cons h1 _ ih => simp [h1, ih]
theorem qt_seg {l : List Nat} {lo : List Oper} {t : OT} (hl : PickL ops l lo)
    (h : ∀ K1 : Act → World → Prop, (∀ e' H', QT P ro n F w0 M k ops Hq t e' H' → Q P ro n F w0 M (.k K1 :: k) e' (H' ++ Hq)) → QF P ro n F w0 M (.k K1 :: k) ops Hq lo e H) : QT P ro n F w0 M k ops Hq (chainT l t) e H :=
  ⟨fun w hs a hf hd => by
    have h1 := h (wpT P ops (Sat w0 M Hq) (fun a w => S P ro.ro F k .normal a w) t) (fun e' H' hq => .mk fun w' hs' a' hf' hd' => hq.h w' hs' a' hf' hd')
    exact wpT_chain l lo a w hl.map (h1.h w hs a hf hd)⟩

/-- What follows, once for all the ways that lead there. -/
theorem q_cut {σ : Type} {c : Code} (env : σ → Env) (hp : σ → List Ck) (main : ∀ s, Q P ro n F w0 M k (env s) (hp s))
    (first : ∀ K2 : Act → World → Prop, (∀ s e' H', Sub (env s) e' → Sp H' (hp s) → Q P ro n F w0 M (.k K2 :: k) e' H') → Q P ro n F w0 M (.code c :: .k K2 :: k) e H) : Q P ro n F w0 M (.code c :: k) e H := by
  have h1 := first (fun a w => S P ro.ro F k .normal a w) (fun s e' H' hs hH => .mk fun w hw a hf hd => (main s).h w (hw.sp hH) a (hf.sub hs) hd)
  have e1 : S P ro.ro F (.k (fun a w => S P ro.ro F k .normal a w) :: k) = S P ro.ro F k := by
    funext x a w
    cases x <;> rfl
  refine .mk fun w hs a hf hd => ?_
  have h2 := h1.h w hs a hf hd
  simp only [S] at h2 ⊢
  simp only [S] at e1
  rw [e1] at h2
  exact h2
end
end Go.Eng

/- The engine, part B12: more about callbacks: pieces that others leave alone; maps in worlds that change. -/
namespace Go.Eng
open Go Go.RowKit

section
variable {P : Program} {T : Tab}
variable {ro : Cx} {n : Nat} {F : Fin} {w0 : World} {M : Nat → Prop} {k : List It} {ops : Array Oper} {rest : List Oper} {e : Env} {H Hq : List Ck}
variable {K : Value → Prop} {q : Value → Value → Bool} {kt et mt : TypeId}

/-- Later changes of these pieces are changes of the first ones. -/
theorem Sat.later {w w' : World} {A B : List Ck} (h : Sat w0 (DL A) B w) (c : ChgP (DL B) w w') : ChgP (DL A) w0 w' := h.chg.upP c (fun k ⟨x, hx, hk⟩ => (h.bd x hx k hk).2)

theorem qf_fact {φ : Prop} (hf : ∀ w, Sat w0 M (H ++ Hq) w → φ) (h : φ → QF P ro n F w0 M k ops Hq rest e H) : QF P ro n F w0 M k ops Hq rest e H := .mk fun w hs => (h (hf w hs)).h w hs
theorem own_slice {w : World} {base e sz n : Nat} {v : Value} {xs : List Value} (h : w.ownsRow base e sz v n xs) : ∃ a m c, v = .slice a m c := by
  rcases h.2 with ⟨rfl, _⟩ | ⟨g, cap, cur, rfl, _⟩
  · exact ⟨_, _, _, rfl⟩
  · exact ⟨_, _, _, rfl⟩
theorem Sat.slice {w : World} {e sz n : Nat} {v : Value} {xs : List Value} (h : Sat w0 M H w) (hc : Ck.ow v e sz n xs ∈ H) : ∃ a m c, v = .slice a m c := own_slice (h.mem hc)

theorem Sat.slice2 {w : World} {e sz n : Nat} {v : Value} {xs : List Value} (h : Sat w0 M H w) (hc : Ck.ow v e sz n xs ∈ H) : ∃ a c, v = .slice a n c := by
  have h1 : w.ownsRow 0 e sz v n xs := h.all _ hc
  rcases h1.2 with ⟨rfl, rfl, _⟩ | ⟨g, cap, cur, rfl, _⟩
  · exact ⟨_, _, rfl⟩
  · exact ⟨_, _, rfl⟩

theorem Sat.rdI {w : World} {t n : Nat} {v : Value} {l : List Int} (h : Sat w0 M H w) (hc : Ck.ow v t 1 n (ints l) ∈ H) (hn : n = l.length) : RdI w 0 w.heap.size v l := by
  subst hn
  exact RdI.of (own_rd (h.all _ hc))

end
end Go.Eng

/- The engine, part B13: changing an element of a slice of our own. -/
namespace Go.Eng
open Go Go.RowKit

section
variable {P : Program} {T : Tab}
variable {ro : Cx} {n : Nat} {F : Fin} {w0 : World} {M : Nat → Prop} {k : List It} {ops : Array Oper} {rest : List Oper} {e : Env} {H Hq : List Ck}

theorem own_some {w : World} {et sz m : Nat} {v : Value} {xs : List Value} (h : w.ownsRow 0 et sz v m xs) (hm : 0 < m) : ∃ g c, v = .slice (some ⟨g, 0, none⟩) m c := by
  rcases h.2 with ⟨rfl, rfl⟩ | ⟨g, cap, cur, rfl, _⟩
  · omega
  · exact ⟨_, _, rfl⟩
theorem Sat.ownSome {w : World} {et sz m : Nat} {v : Value} {xs : List Value} (h : Sat w0 M H w) (hc : Ck.ow v et sz m xs ∈ H) (hm : 0 < m) : ∃ g c, v = .slice (some ⟨g, 0, none⟩) m c := own_some (h.all _ hc) hm

/-- A region that draws; what its first c operations read (Hq1) is not changed by them, and they stand ahead of all that changes Hm2. -/
theorem q_drawS2 {id : Nat} {l : List Oper} (c : Nat) (Hq1 Hm1 Hq2 Hm2 : List Ck) (hH1 : Sp H (Hm1 ++ Hq1)) (hH2 : Sp Hq1 (Hm2 ++ Hq2)) (hm : P.follows .mixedOrders = true) (hB : flB l.toArray = true)
    (hbs : flagB l.toArray (List.replicate c true ++ List.replicate (l.length - c) false) = true)
    (h : ∀ K1 : Act → World → Prop, (∀ e' H' Hm', Sp H' (Hm' ++ Hq2) → QF P ro n F w0 M k l.toArray Hq2 (l.drop c) e' Hm' → Q P ro n F w0 M (.k K1 :: k) e' H') → QF P ro n F w0 M (.k K1 :: k) l.toArray Hq1 (l.take c) e Hm1) :
    Q P ro n F w0 M (.code (.region id l.toArray true) :: k) e H := .mk fun w hs a hf hd => by
  have hs0 : Sat w0 M H { w with drawn := w.drawn + 1 } := hs.keep (Chg.drew (N := []) w)
  have hs1 : Sat w0 M Hq1 { w with drawn := w.drawn + 1 } := (hs0.sp hH1).right
  have h12 : ∀ w, Sat w0 M Hq1 w → Sat w0 M Hq2 w := fun w hw => (hw.sp hH2).right
  let bs := List.replicate c true ++ List.replicate (l.length - c) false
  refine wpIn_region_fl2 hm (flB_spec hB) (K := fun a w => S P ro.ro F k .normal a w) (Cq := flagC (Sat w0 M Hq1) (Sat w0 M Hq2) bs) (Ce := flagC (Sat w0 M Hq1) (Sat w0 M Hq2) bs)
    (fun i j oi oj => flagB_spec hbs h12 i j oi oj) (fun i => ?_) (fun _ _ h => h) ?_
  · unfold flagC
    cases bs.getD i false
    · exact h12 _ hs1
    · exact hs1
  · have h2 := wpFlB_eq (P := P) (ops := l.toArray) (C1 := Sat w0 M Hq1) (C2 := Sat w0 M Hq2) (bs := bs) (K := fun a w => S P ro.ro F k .normal a w) l 0 (by simp)
    rw [show List.range l.toArray.size = List.range' 0 l.length from by simp [List.range_eq_range'], h2]
    refine yb_seg (P := P) (ro := ro) (n := n) (F := F) (k := k) (C1 := Sat w0 M Hq1) (C2 := Sat w0 M Hq2) (bs := bs) (l := l) true c (by simp [bs]) (by simp [bs]) (fun K1 hK1 => ?_) a hf hd
    have h3 := h K1 (fun e' H' Hm' hsp hq => .mk fun w' hw' a' hf' hd' => ?_)
    · exact h3.h _ (hs0.sp hH1)
    · refine hK1 e' w' (fun a2 hf2 hd2 => ?_) a' hf' hd'
      have h4 : bs.drop c = List.replicate (l.length - c) false := by simp [bs]
      rw [h4]
      exact wpFlB_false _ _ (by simp) a2 w' (hq w' (hw'.sp hsp) a2 hf2 hd2)
end
end Go.Eng

/- Taken over from wind: what Q10:follow_ca,Q9:chooseF_ca,D5:shared_ca,D4:of_ca,D8:btw0,D8:drw0,H1:OwnR.form2,U0:OwnR.at,D7:made_ca reach. Written by graft.py. -/
namespace Go.Proofs.Ytgmmmkmekbiboab
open Go Go.Eng
/-- A range. -/
structure Rg where
  radius : Int
  unit : Int
  clicks : Int
  total : Int
  group : List Int
  drifts : List Int
  first : List Int
  next : List (List Int)
/-- Lists of lists that can be read. -/
def RdII (w : World) (lo hi : Nat) (v : Value) (ll : List (List Int)) : Prop :=
  ∃ vs, RdE w lo hi v 1 vs ∧ vs.length = ll.length ∧ ∀ i (h : i < vs.length) (h' : i < ll.length), RdI w lo hi vs[i] ll[i]
theorem RdII.keep {w w' : World} {lo hi : Nat} {v : Value} {ll : List (List Int)} (h : RdII w lo hi v ll) (c : Chg [] w w') : RdII w' lo hi v ll := by
  obtain ⟨vs, h1, h2, h3⟩ := h
  exact ⟨vs, h1.keep c, h2, fun i hi hi' => (h3 i hi hi').keep c⟩
theorem RdII.outI {w : World} {lo hi : Nat} {v : Value} {ll : List (List Int)} (h : RdII w lo hi v ll) : ∃ a cap, v = .slice a ll.length cap ∧ (0 < ll.length → ∃ b off, a = some ⟨b, off, none⟩) := by
  obtain ⟨vs, h1, h2, h3⟩ := h
  have := RdE.out h1
  rwa [h2] at this
/-- One row. -/
theorem RdII.row {w : World} {lo hi : Nat} {b off len cap : Nat} {ll : List (List Int)} (h : RdII w lo hi (.slice (some ⟨b, off, none⟩) len cap) ll) (i : Nat) (hi' : i < ll.length) :
    ∃ a c, RdI w lo hi (.slice a ll[i].length c) ll[i] ∧ ∀ w', Chg [] w w' → w'.cell? ⟨b, off + i * 1, none⟩ = some (.slice a ll[i].length c) := by
  obtain ⟨vs, h1, h2, h3⟩ := h
  have h4 := h3 i (by omega) hi'
  obtain ⟨a, c, hv, _⟩ := RdI.outI h4
  refine ⟨a, c, hv ▸ h4, fun w' hw' => ?_⟩
  rw [RdE.cell1 (h1.keep hw') i (by omega) (by rw [hv]; rfl), hv]
/-- The cells of a range, and what its lists hold. -/
def RgC (w : World) (cs : List Value) (r : Rg) : Prop :=
  ∃ lo hi ag cg ad cd af cf an cn, cs = [.int .i64 r.radius, .int .i64 r.unit, .int .i64 r.clicks, .int .i64 r.total, .slice ag r.group.length cg, .slice ad r.drifts.length cd, .slice af r.first.length cf, .slice an r.next.length cn] ∧
    RdI w lo hi (.slice ag r.group.length cg) r.group ∧ RdI w lo hi (.slice ad r.drifts.length cd) r.drifts ∧ RdI w lo hi (.slice af r.first.length cf) r.first ∧ RdII w lo hi (.slice an r.next.length cn) r.next
theorem RgC.keep {w w' : World} {cs : List Value} {r : Rg} (h : RgC w cs r) (c : Chg [] w w') : RgC w' cs r := by
  obtain ⟨lo, hi, ag, cg, ad, cd, af, cf, an, cn, h1, h2, h3, h4, h5⟩ := h
  exact ⟨lo, hi, ag, cg, ad, cd, af, cf, an, cn, h1, RdE.keep h2 c, RdE.keep h3 c, RdE.keep h4 c, h5.keep c⟩
/-- A desk, in block b. -/
def DkAt (w : World) (b : Nat) (r : Rg) : Prop := ∃ cs t, Blk w b cs t ∧ RgC w cs r
theorem DkAt.keep {w w' : World} {b : Nat} {r : Rg} (h : DkAt w b r) (c : Chg [] w w') : DkAt w' b r := by
  obtain ⟨cs, t, h1, h2⟩ := h
  exact ⟨cs, t, h1.keep c, h2.keep c⟩
/-- From lo to hi. -/
def inB (n lo hi : Int) : Bool := decide (lo ≤ n) && decide (n ≤ hi)
theorem inB_iff {n lo hi : Int} : inB n lo hi = true ↔ lo ≤ n ∧ n ≤ hi := by simp [inB]
/-- The sizes that a range can have. -/
structure Rg.Small (r : Rg) : Prop where
  group : r.group.length ≤ 24
  drifts : r.drifts.length ≤ 7
  first : r.first.length ≤ 7
  next : r.next.length ≤ 7
  rows : ∀ l ∈ r.next, l.length ≤ 7
/-- A right range. -/
structure Rg.Right (r : Rg) : Prop where
  g1 : 1 ≤ r.group.length
  g2 : r.group.length ≤ 21
  odd : r.group.length % 2 = 1
  d1 : 1 ≤ r.drifts.length
  d2 : r.drifts.length ≤ 5
  first : r.first.length = r.drifts.length
  next : r.next.length = r.drifts.length
  rows : ∀ l ∈ r.next, l.length = r.drifts.length
  radius : 0 ≤ r.radius ∧ r.radius ≤ 200
  unit : 1 ≤ r.unit ∧ r.unit ≤ 20
  clicks : 0 ≤ r.clicks ∧ r.clicks ≤ 6
  total : 1 ≤ r.total ∧ r.total ≤ 12
  drift : ∀ x ∈ r.drifts, -300 ≤ x ∧ x ≤ 300
  weight : ∀ x ∈ r.group, 0 ≤ x ∧ x ≤ 100
  chance : ∀ x ∈ r.first, 0 ≤ x ∧ x ≤ r.total
  chances : ∀ l ∈ r.next, ∀ x ∈ l, 0 ≤ x ∧ x ≤ r.total
  gsum : 1 ≤ r.group.sum ∧ r.group.sum ≤ 100
  fsum : r.first.sum = r.total
  nsum : ∀ l ∈ r.next, l.sum = r.total
theorem in_ca (n lo hi : Int) (w : World) : Ca Try.prog 17 [.int .i64 n, .int .i64 lo, .int .i64 hi] w fun v w' => v = .bool (inB n lo hi) ∧ Chg [] w w' := by
  refine q_of (Sat.nil w M0) Try.func17 rfl (by simp [Try.ntmps17]) ?_
  (refine q_seq (q_region (ql_pure tabOk rfl rfl (q_nil (q_seq (q_region ?_))))); (iterate 4 refine ql_pure tabOk rfl rfl ?_))
  refine ql_split rfl rfl (fun hc => ?_) (fun hc => ?_)
  · (refine ql_gyes rfl (ql_pure tabOk rfl rfl (ql_gyes rfl (ql_pure tabOk rfl rfl (ql_gyes rfl ?_)))); (iterate 3 refine ql_pure tabOk rfl rfl ?_); refine q_nil (q_ret ?_))
    exact q_fin1 rfl rfl fun w' hs => ⟨by simp at hc; simp [inB, hc], hs.chg0⟩
  · ((iterate 3 refine ql_gno rfl rfl rfl ?_); refine ql_pure tabOk rfl rfl (ql_pure tabOk rfl rfl (q_nil (q_ret ?_))))
    exact q_fin1 rfl rfl fun w' hs => ⟨by simp at hc; simp [inB]; omega, hs.chg0⟩
theorem sum_bd {c : Int} : ∀ (l : List Int), (∀ x ∈ l, -c ≤ x ∧ x ≤ c) → -(c * l.length) ≤ l.sum ∧ l.sum ≤ c * l.length
  | [], _ => by simp
  | x :: l, h => by
    have h1 := sum_bd l (fun y hy => h y (List.mem_cons_of_mem _ hy))
    have h2 := h x List.mem_cons_self
    have e : c * ((x :: l).length : Int) = c * l.length + c := by simp [Int.mul_add]
    rw [e, List.sum_cons]
    omega
theorem sum_take_bd {c : Int} {m : Nat} (l : List Int) (k : Nat) (h : ∀ x ∈ l, -c ≤ x ∧ x ≤ c) (hl : l.length ≤ m) (hc : 0 ≤ c) : -(c * m) ≤ (l.take k).sum ∧ (l.take k).sum ≤ c * m := by
  have h1 := sum_bd (l.take k) (fun x hx => h x (List.mem_of_mem_take hx))
  have h2 : c * (l.take k).length ≤ c * m := Int.mul_le_mul_of_nonneg_left (by rw [List.length_take]; omega) hc
  omega
theorem sum_take_succ (l : List Int) (k : Nat) (hk : k < l.length) : (l.take (k + 1)).sum = (l.take k).sum + l[k] := by
  rw [List.take_succ_eq_append_getElem hk, List.sum_append]
  simp
theorem sum_ca (w : World) (lo hi : Nat) (v : Value) (l : List Int) (h : RdI w lo hi v l) (hlen : l.length < 1000000) (hb : ∀ x ∈ l, -1000000 ≤ x ∧ x ≤ 1000000) :
    Ca Try.prog 51 [v] w fun r w' => r = .int .i64 l.sum ∧ Chg [] w w' := by
  obtain ⟨a, cap, rfl, hs⟩ := h.outI
  refine q_of (Sat.nil w M0) Try.func51 rfl (by simp [Try.ntmps51]) ?_
  (refine q_seq (q_region (ql_pure tabOk rfl rfl (q_nil (q_seq (q_region (ql_pure tabOk rfl rfl (q_nil (q_seq (q_seq (q_region ?_)))))))))); (iterate 3 refine ql_pure tabOk rfl rfl ?_); refine q_nil (q_block ?_))
  refine q_loop (σ := Nat) (fun k => k ≤ l.length) (fun k => l.length - k) (fun k => [(3, .int .i64 (l.take k).sum), (6, .slice a l.length cap), (7, .int .i64 l.length), (8, .int .i64 k)]) (fun _ => []) 0 (by omega) ⟨rfl, rfl, rfl, rfl, trivial⟩ .nil ?_
  intro k hk K hK
  (refine q_seq (q_region (ql_pure tabOk rfl rfl (q_nil (q_seq ?_)))))
  refine q_if rfl (fun hc => ?_) (fun hc => ?_)
  · have hk : k < l.length := by omega
    obtain ⟨b, off, rfl⟩ := hs (by omega)
    (refine q_skip (q_seq (q_block (q_seq (q_region ?_)))))
    have h1 := sum_take_bd l k hb (show l.length ≤ 1000000 by omega) (by omega)
    have h2 := hb l[k] (List.getElem_mem hk)
    (refine ql_index tabOk rfl rfl rfl rfl rfl (by omega) (by omega) ?_; refine ql_load1 tabOk rfl rfl rfl (fun w hs => RdI.at (h.keep hs.chg0) k hk) ?_)
    (refine ql_pure tabOk rfl rfl (q_nil (q_region (ql_pure tabOk rfl rfl (ql_pure tabOk rfl rfl (ql_ar tabOk rfl rfl rfl rfl (by omega) (by omega) (ql_pure tabOk rfl rfl (q_nil (q_blk (q_region (ql_ar tabOk rfl rfl rfl rfl (by omega) (by omega) (ql_pure tabOk rfl rfl ?_))))))))))); refine q_nil ?_)
    exact hK (k + 1) _ _ (by omega) (by omega) ⟨by rw [sum_take_succ l k hk]; rfl, rfl, rfl, rfl, trivial⟩ (by repeat constructor)
  · obtain rfl : k = l.length := by omega
    (refine q_exit _ rfl (q_seq (q_region (ql_pure tabOk rfl rfl (ql_pure tabOk rfl rfl (q_nil (q_ret ?_)))))))
    exact q_fin1 rfl rfl fun w' hs => ⟨by rw [List.take_length], hs.chg0⟩
theorem group_ca (w : World) (b : Nat) (r : Rg) (hd : DkAt w b r) (hr : r.Right) : Ca Try.prog 41 [.pointer (some ⟨b, 0, none⟩)] w fun v w' => v = .int .i64 r.group.sum ∧ Chg [] w w' := by
  obtain ⟨cs, bt, hblk, lo, hi, ag, cg, ad, cd, af, cf, an, cn, rfl, hg, hdr, hf, hn⟩ := hd
  refine q_of (Sat.nil w M0) Try.func41 rfl (by simp [Try.ntmps41]) ?_
  (refine q_seq (q_region (ql_pure tabOk rfl rfl (q_nil (q_seq (q_region ?_))))); (iterate 4 refine ql_pure tabOk rfl rfl ?_); refine ql_loadP tabOk rfl rfl rfl (by assumption) (by rfl) ?_)
  (refine ql_callv tabOk rfl rfl rfl rfl (fun w hs => sum_ca w lo hi _ r.group (hg.keep hs.chg0) (by have := hr.g2; omega) (fun x hx => by have := hr.weight x hx; omega)) ?_)
  (refine ql_pure tabOk rfl rfl (q_nil (q_ret ?_)))
  exact q_fin1 rfl rfl fun w' hs => ⟨rfl, hs.chg0⟩
/-- An impact hits. -/
def hitB (r : Rg) (n : Int) : Bool := inB n (-r.radius) r.radius
theorem hits_ca (w : World) (b : Nat) (r : Rg) (n : Int) (hd : DkAt w b r) (hr : 0 ≤ r.radius ∧ r.radius ≤ 200) : Ca Try.prog 21 [.pointer (some ⟨b, 0, none⟩), .int .i64 n] w fun v w' => v = .bool (hitB r n) ∧ Chg [] w w' := by
  obtain ⟨cs, bt, hblk, lo, hi, ag, cg, ad, cd, af, cf, an, cn, rfl, hg, hdr, hf, hn⟩ := hd
  refine q_of (Sat.nil w M0) Try.func21 rfl (by simp [Try.ntmps21]) ?_
  (refine q_seq (q_region (ql_pure tabOk rfl rfl (q_nil (q_seq ?_)))))
  refine q_draw _ [] (Sp.refl _) (by kernel_rfl) (by kernel_rfl) ?_
  ((iterate 5 refine qf_pure tabOk rfl rfl rfl ?_); refine qf_loadP tabOk rfl rfl rfl (by assumption) (by rfl) ?_; refine qf_neg tabOk rfl rfl (by omega) (by omega) ?_; (iterate 4 refine qf_pure tabOk rfl rfl rfl ?_); refine qf_loadP tabOk rfl rfl rfl (by assumption) (by rfl) ?_)
  refine qf_callv tabOk rfl rfl rfl rfl (fun w hs => in_ca n (-r.radius) r.radius w) ?_
  (refine qf_pure tabOk rfl rfl rfl (qf_nil (q_ret ?_)))
  exact q_fin1 rfl rfl fun w' hs => ⟨rfl, hs.chg0⟩
theorem mul_bd {a b A B : Int} (ha : -A ≤ a ∧ a ≤ A) (hb : -B ≤ b ∧ b ≤ B) : -(A * B) ≤ a * b ∧ a * b ≤ A * B := by
  have hA : 0 ≤ A := by omega
  have hB : 0 ≤ B := by omega
  have h1 : a.natAbs * b.natAbs ≤ A.natAbs * B.natAbs := Nat.mul_le_mul (by omega) (by omega)
  have h2 : (a * b).natAbs ≤ (A * B).natAbs := by rw [Int.natAbs_mul, Int.natAbs_mul]; exact h1
  have h3 : 0 ≤ A * B := Int.mul_nonneg hA hB
  omega
theorem mul_bd0 {a b A B : Int} (ha : 0 ≤ a ∧ a ≤ A) (hb : 0 ≤ b ∧ b ≤ B) : 0 ≤ a * b ∧ a * b ≤ A * B :=
  ⟨Int.mul_nonneg ha.1 hb.1, (mul_bd ⟨by omega, ha.2⟩ ⟨by omega, hb.2⟩).2⟩
def rtV (q : Int × Int) : Value := .agg #[.int .i64 q.1, .int .i64 q.2]
/-- The weights of the offsets, those that hit counted 0. -/
def missL (r : Rg) (drift click : Int) : List Int := r.group.zipIdx.map fun p => if hitB r (drift + (p.2 : Int) - (r.group.length : Int) / 2 + click * r.unit) then 0 else p.1
def missS (r : Rg) (drift click : Int) : Int := (missL r drift click).sum
theorem missL_length (r : Rg) (drift click : Int) : (missL r drift click).length = r.group.length := by simp [missL]
theorem missL_get (r : Rg) (drift click : Int) (k : Nat) (hk : k < r.group.length) : (missL r drift click)[k]'(by rw [missL_length]; exact hk) = if hitB r (drift + (k : Int) - (r.group.length : Int) / 2 + click * r.unit) then 0 else r.group[k] := by
  simp [missL]
theorem missL_bd (r : Rg) (hr : r.Right) (drift click : Int) : ∀ x ∈ missL r drift click, -100 ≤ x ∧ x ≤ 100 := by
  intro x hx
  obtain ⟨k, hk, rfl⟩ := List.getElem_of_mem hx
  have hk' : k < r.group.length := by rwa [missL_length] at hk
  have := hr.weight r.group[k] (List.getElem_mem hk')
  rw [missL_get r drift click k hk']
  split <;> omega
theorem missed_ca (w : World) (b : Nat) (r : Rg) (drift click : Int) (hd : DkAt w b r) (hr : r.Right) (h1 : -1000000 ≤ drift ∧ drift ≤ 1000000) (h2 : -1000 ≤ click ∧ click ≤ 1000) :
    Ca Try.prog 40 [.pointer (some ⟨b, 0, none⟩), .int .i64 drift, .int .i64 click] w fun v w' => v = .int .i64 (missS r drift click) ∧ Chg [] w w' := by
  have hd0 := hd
  obtain ⟨cs, bt, hblk, lo, hi, ag, cg, ad, cd, af, cf, an, cn, rfl, hg, hdr, hf, hn⟩ := hd
  obtain ⟨_, _, hsl, hsg⟩ := RdI.outI hg
  cases hsl
  have hlen : r.group.length ≤ 21 := hr.g2
  have hcu := mul_bd h2 (show -20 ≤ r.unit ∧ r.unit ≤ 20 by have := hr.unit; omega)
  refine q_of (Sat.nil w M0) Try.func40 rfl (by simp [Try.ntmps40]) ?_
  (refine q_seq (q_region (ql_pure tabOk rfl rfl (q_nil (q_seq (q_region ?_))))); (iterate 3 refine ql_pure tabOk rfl rfl ?_); refine q_nil (q_seq (q_region (ql_pure tabOk rfl rfl (q_nil (q_seq (q_seq (q_region ?_))))))); (iterate 4 refine ql_pure tabOk rfl rfl ?_); refine ql_loadP tabOk rfl rfl rfl (by assumption) (by rfl) ?_; refine ql_pure tabOk rfl rfl (ql_pure tabOk rfl rfl (q_nil (q_block ?_))))
  refine q_loop (σ := Nat) (fun k => k ≤ r.group.length) (fun k => r.group.length - k) (fun k => [(0, .pointer (some ⟨b, 0, none⟩)), (1, .int .i64 drift), (2, .int .i64 click), (7, .func (.func 21) #[.pointer (some ⟨b, 0, none⟩)] #[]), (8, .int .i64 ((missL r drift click).take k).sum), (17, .slice ag r.group.length cg), (18, .int .i64 r.group.length), (19, .int .i64 k)]) (fun _ => []) 0 (by omega) ⟨rfl, rfl, rfl, rfl, rfl, rfl, rfl, rfl, trivial⟩ .nil ?_
  intro k hk K hK
  (refine q_seq (q_region (ql_pure tabOk rfl rfl (q_nil (q_seq ?_)))))
  refine q_if rfl (fun hc => ?_) (fun hc => ?_)
  · have hk : k < r.group.length := by omega
    obtain ⟨b0, off, rfl⟩ := hsg (by omega)
    have h3 := sum_take_bd (missL r drift click) k (missL_bd r hr drift click) (show (missL r drift click).length ≤ 21 by rw [missL_length]; omega) (by omega)
    have h4 := hr.weight r.group[k] (List.getElem_mem hk)
    have h5 := sum_take_succ (missL r drift click) k (by rw [missL_length]; exact hk)
    rw [missL_get r drift click k hk] at h5
    (refine q_skip (q_seq (q_block (q_seq (q_region (ql_pure tabOk rfl rfl ?_))))))
    (refine ql_index tabOk rfl rfl rfl rfl rfl (by omega) (by omega) ?_; refine ql_load1 tabOk rfl rfl rfl (fun w hs => RdI.at (hg.keep hs.chg0) k hk) ?_)
    (refine ql_pure tabOk rfl rfl (ql_pure tabOk rfl rfl (q_nil (q_seq ?_))))
    refine q_draw _ [] (Sp.refl _) (by kernel_rfl) (by kernel_rfl) ?_
    ((iterate 3 refine qf_pure tabOk rfl rfl rfl ?_); refine qf_ar tabOk rfl rfl rfl rfl (by omega) (by omega) ?_; (iterate 4 refine qf_pure tabOk rfl rfl rfl ?_); refine qf_loadP tabOk rfl rfl rfl (by assumption) (by rfl) ?_; refine qf_pure tabOk rfl rfl rfl (qf_quoN rfl rfl rfl (by omega) (by omega) (by omega) (qf_ar tabOk rfl rfl rfl rfl (by omega) (by omega) ?_)); (iterate 5 refine qf_pure tabOk rfl rfl rfl ?_); refine qf_loadP tabOk rfl rfl rfl (by assumption) (by rfl) ?_; refine qf_ar tabOk rfl rfl rfl rfl (by omega) (by omega) (qf_ar tabOk rfl rfl rfl rfl (by omega) (by omega) ?_))
    refine qf_callv tabOk rfl rfl rfl rfl (fun w hs => hits_ca w b r _ (hd0.keep hs.chg0) hr.radius) ?_
    (refine qf_pure tabOk rfl rfl rfl (qf_nil ?_))
    refine q_cond rfl (fun hc => ?_) (fun hc => ?_)
    · simp at hc
      rw [hc] at h5
      (refine q_region (ql_pure tabOk rfl rfl (ql_pure tabOk rfl rfl (ql_ar tabOk rfl rfl rfl rfl (by omega) (by omega) (ql_pure tabOk rfl rfl (q_nil (q_blk (q_region (ql_ar tabOk rfl rfl rfl rfl (by omega) (by omega) (ql_pure tabOk rfl rfl (q_nil ?_)))))))))))
      exact hK (k + 1) _ _ (by omega) (by omega) ⟨rfl, rfl, rfl, rfl, by rw [h5]; rfl, rfl, rfl, rfl, trivial⟩ (by repeat constructor)
    · simp at hc
      rw [hc] at h5
      (refine q_skip (q_blk (q_region (ql_ar tabOk rfl rfl rfl rfl (by omega) (by omega) (ql_pure tabOk rfl rfl (q_nil ?_))))))
      exact hK (k + 1) _ _ (by omega) (by omega) ⟨rfl, rfl, rfl, rfl, by rw [h5]; simp; rfl, rfl, rfl, rfl, trivial⟩ (by repeat constructor)
  · obtain rfl : k = r.group.length := by omega
    (refine q_exit _ rfl (q_seq (q_region (ql_pure tabOk rfl rfl (ql_pure tabOk rfl rfl (q_nil (q_ret ?_)))))))
    refine q_fin tabOk rfl (by repeat constructor) fun w hs => ?_
    exact ⟨by rw [missS, List.take_of_length_le (by rw [missL_length]; omega)]; rfl, hs.chg0⟩
/-- The clicks that are so far. -/
def farL (C near : Int) (far : Nat) : List Int := if far = 0 then [near] else [near - far, near + far].filter (fun c => inB c (-C) C)
def clickP (C near : Int) (n : Nat) : List Int := (List.range n).flatMap (farL C near)
/-- All clicks, the ones nearest to one first. -/
def clickL (C near : Int) : List Int := clickP C near (2 * C + 1).toNat
theorem clickP_succ (C near : Int) (n : Nat) : clickP C near (n + 1) = clickP C near n ++ farL C near n := by simp [clickP, List.range_succ]
theorem clickP_split (C near : Int) {n m : Nat} (h : n < m) : ∃ suf, clickP C near m = clickP C near n ++ (farL C near n ++ suf) := by
  induction m with
  | zero => omega
  | succ m ih =>
    by_cases h2 : n = m
    · subst h2
      exact ⟨[], by rw [clickP_succ, List.append_nil]⟩
    · obtain ⟨suf, hs⟩ := ih (by omega)
      exact ⟨suf ++ farL C near m, by rw [clickP_succ, hs]; simp⟩
/-- .. the first j of them. -/
def partL (C near : Int) (far j : Nat) : List Int := ([near - far, near + far].take j).filter (fun c => inB c (-C) C)
theorem partL_succ (C near : Int) (far j : Nat) (c : Int) (hc : [near - (far : Int), near + far][j]? = some c) : partL C near far (j + 1) = partL C near far j ++ if inB c (-C) C then [c] else [] := by
  obtain ⟨hj, rfl⟩ := List.getElem?_eq_some_iff.1 hc
  rw [partL, List.take_succ_eq_append_getElem hj, List.filter_append, partL]
  congr 1
  simp [List.filter_cons]
theorem farL_pos (C near : Int) (far : Nat) (h : far ≠ 0) : farL C near far = partL C near far 2 := by simp [farL, partL, h]
theorem farL_part (C near : Int) (far j : Nat) (h : far ≠ 0) (c : Int) (hc : [near - (far : Int), near + far][j]? = some c) (hin : inB c (-C) C = true) : ∃ suf, farL C near far = partL C near far j ++ c :: suf := by
  obtain ⟨hj, rfl⟩ := List.getElem?_eq_some_iff.1 hc
  refine ⟨([near - (far : Int), near + far].drop (j + 1)).filter (fun c => inB c (-C) C), ?_⟩
  rw [farL, if_neg h, partL]
  conv => lhs; rw [← List.take_append_drop j [near - (far : Int), near + far], List.filter_append, List.drop_eq_getElem_cons hj, List.filter_cons]
  rw [if_pos hin]
theorem ci_arr : arrB Try.prog 78 2 3 1 = true := by kernel_rfl
set_option maxHeartbeats 1000000 in
theorem clicks_it (w0 w : World) (D : Nat → Prop) (b bd bn : Nat) (near : Int) (r : Rg) (hdk : DkAt w0 b r) (h0 : ∀ w', ChgP D w w' → Chg [] w0 w') (hC : 0 ≤ r.clicks ∧ r.clicks ≤ 6) (hn : inB near (-r.clicks) r.clicks = true)
    {t1 t2 : TypeId} (hbd : Blk w bd [.pointer (some ⟨b, 0, none⟩)] t1) (hbn : Blk w bn [.int .i64 near] t2) (hDd : ¬ D bd) (hDn : ¬ D bn) :
    ItOk Try.prog 43 [.pointer (some ⟨bd, 0, none⟩), .pointer (some ⟨bn, 0, none⟩)] (fun c => [Value.int .i64 c]) (clickL r.clicks near) w D := by
  intro fv σ L I E s0 hI0 hLD hsat hcb
  have hn' := inB_iff.1 hn
  obtain ⟨cs, bt, hblk, lo, hi, ag, cg, ad, cd, af, cf, an, cn, rfl, hg, hdr, hf, hn⟩ := hdk
  have hm : ∀ w', ChgP (DL (L s0)) w w' → ChgP D w w' := fun w' hc => ⟨hc.os, hc.tape, hc.output, hc.size, fun k hk hk2 => hc.block k hk (fun h => hk2 (hLD k h))⟩
  have hP1 : ∀ w', ChgP (DL (L s0)) w w' → Blk w' bd [.pointer (some ⟨b, 0, none⟩)] t1 := fun w' hc => (hc.block bd hbd.lt (fun h => hDd (hLD bd h))).trans hbd
  have hP2 : ∀ w', ChgP (DL (L s0)) w w' → Blk w' bn [.int .i64 near] t2 := fun w' hc => (hc.block bn hbn.lt (fun h => hDn (hLD bn h))).trans hbn
  have hP3 : ∀ w', ChgP (DL (L s0)) w w' → Blk w' b _ bt := fun w' hc => hblk.keep (h0 w' (hm w' hc))
  clear hblk
  refine q_of (H := [un (L s0)]) (Sat.un1.2 hsat) Try.func43 rfl (by simp [Try.ntmps43]) ?_
  (refine q_seq (q_region ?_); refine ql_loadG tabOk rfl rfl rfl (by assumption) (by rfl) ?_; (iterate 3 refine ql_pure tabOk rfl rfl ?_); refine ql_loadG tabOk rfl rfl rfl (by assumption) (by rfl) ?_; refine ql_ar tabOk rfl rfl rfl rfl (by omega) (by omega) (ql_ar tabOk rfl rfl rfl rfl (by omega) (by omega) (ql_pure tabOk rfl rfl (q_nil (q_block ?_)))))
  refine q_loop (σ := Nat × σ) (fun s => s.1 ≤ (2 * r.clicks + 1).toNat ∧ I (clickP r.clicks near s.1) s.2) (fun s => (2 * r.clicks + 1).toNat - s.1) (fun s => [(0, fv), (1, .pointer (some ⟨bd, 0, none⟩)), (2, .pointer (some ⟨bn, 0, none⟩)), (13, .int .i64 (2 * r.clicks + 1)), (14, .int .i64 s.1)])
    (fun s => [un (L s.2)]) (0, s0) ⟨by omega, hI0⟩ ⟨rfl, rfl, rfl, rfl, rfl, trivial⟩ (Sp.refl _) ?_
  rintro ⟨far, s⟩ ⟨hfar, hI⟩ K hK
  simp only at hfar hI
  (refine q_seq (q_region (ql_pure tabOk rfl rfl (q_nil (q_seq ?_)))))
  refine q_if rfl (fun hc => ?_) (fun hc => ?_)
  · have hfl : far < (2 * r.clicks + 1).toNat := by simp only at hc; omega
    obtain ⟨suf, hsuf⟩ := clickP_split r.clicks near hfl
    (refine q_skip (q_seq (q_block (q_seq (q_region (ql_pure tabOk rfl rfl (ql_pure tabOk rfl rfl (q_nil (q_seq (q_region ?_))))))))); refine ql_loadG tabOk rfl rfl rfl (by assumption) (by rfl) ?_; refine ql_pure tabOk rfl rfl (ql_ar tabOk rfl rfl rfl rfl (by omega) (by omega) ?_); refine ql_loadG tabOk rfl rfl rfl (by assumption) (by rfl) ?_; refine ql_pure tabOk rfl rfl (ql_ar tabOk rfl rfl rfl rfl (by omega) (by omega) ?_))
    refine ql_mk #[.int .i64 (near - far), .int .i64 (near + far)] rfl (by kernel_rfl) rfl ?_
    (refine ql_pure tabOk rfl rfl (q_nil (q_block ?_)))
    refine q_loop (σ := Nat × σ) (fun q => q.1 ≤ 2 ∧ (far = 0 → q.1 = 0) ∧ I (clickP r.clicks near far ++ partL r.clicks near far q.1) q.2) (fun q => 2 - q.1) (fun q => [(0, fv), (1, .pointer (some ⟨bd, 0, none⟩)), (2, .pointer (some ⟨bn, 0, none⟩)), (4, .int .i64 far), (13, .int .i64 (2 * r.clicks + 1)), (14, .int .i64 far), (23, .agg #[.int .i64 (near - far), .int .i64 (near + far)]), (24, .int .i64 q.1)])
      (fun q => [un (L q.2)]) (0, s) ⟨by simp, fun _ => rfl, by simpa [partL] using hI⟩ ⟨rfl, rfl, rfl, rfl, rfl, rfl, rfl, rfl, trivial⟩ (Sp.refl _) ?_
    clear hI
    rintro ⟨j, s⟩ ⟨hj, hj0, hI⟩ K2 hK2
    simp only at hj hj0 hI
    (refine q_seq (q_region (ql_pure tabOk rfl rfl (q_nil (q_seq ?_)))))
    refine q_if rfl (fun hc => ?_) (fun hc => ?_)
    · have hj2 : j < 2 := by simp only at hc; omega
      clear hc
      have hcj : ∃ c, [near - (far : Int), near + far][j]? = some c ∧ -20 ≤ c ∧ c ≤ 20 := by
        obtain rfl | rfl : j = 0 ∨ j = 1 := by omega
        · exact ⟨_, rfl, by omega, by omega⟩
        · exact ⟨_, rfl, by omega, by omega⟩
      obtain ⟨c, hcj, hc1, hc2⟩ := hcj
      (refine q_skip (q_seq (q_block (q_seq (q_region ?_)))))
      refine ql_ixA (v := .int .i64 c) tabOk ci_arr rfl rfl rfl rfl (by simp only; omega) (by simp only; omega) (by
        obtain rfl | rfl : j = 0 ∨ j = 1 := by omega
        · simpa using hcj
        · simpa using hcj) ?_
      (refine ql_pure tabOk rfl rfl (q_nil (q_seq (q_seq ?_))))
      refine q_draw [] [un (L s)] (Sp.refl _) (by kernel_rfl) (by kernel_rfl) ?_
      (refine qf_pure tabOk rfl rfl rfl ?_; refine qf_loadG tabOk rfl rfl rfl (by assumption) (by rfl) ?_; (iterate 3 refine qf_pure tabOk rfl rfl rfl ?_); refine qf_loadG tabOk rfl rfl rfl (by assumption) (by rfl) ?_; refine qf_neg tabOk rfl rfl (by omega) (by omega) ?_; refine qf_loadG tabOk rfl rfl rfl (by assumption) (by rfl) ?_; (iterate 3 refine qf_pure tabOk rfl rfl rfl ?_); refine qf_loadG tabOk rfl rfl rfl (by assumption) (by rfl) ?_)
      refine qf_callv tabOk rfl rfl rfl rfl (fun w hs => in_ca c (-r.clicks) r.clicks w) ?_
      (refine qf_pure tabOk rfl rfl rfl ?_)
      by_cases hin : inB c (-r.clicks) r.clicks = true
      · rw [hin]
        (refine qf_gyes rfl (qf_pure tabOk rfl rfl rfl (qf_gyes rfl (qf_pure tabOk rfl rfl rfl (qf_gyes rfl (qf_pure tabOk rfl rfl rfl ?_))))))
        by_cases hf0 : far = 0
        · subst hf0
          obtain rfl : j = 0 := hj0 rfl
          obtain rfl : c = near := by simpa using hcj.symm
          (refine qf_gyes rfl (qf_pure tabOk rfl rfl rfl (qf_gyes rfl ?_)); refine qf_loadG tabOk rfl rfl rfl (by assumption) (by rfl) ?_; refine qf_gyes rfl (qf_pure tabOk rfl rfl rfl (qf_gyes rfl ?_)); (iterate 3 refine qf_pure tabOk rfl rfl rfl ?_))
          rw [decide_eq_true (rfl : c = c)]
          (refine qf_gyes rfl (qf_pure tabOk rfl rfl rfl (qf_gyes rfl (qf_pure tabOk rfl rfl rfl (qf_gyes rfl ?_)))))
          have hx : clickL r.clicks c = (clickP r.clicks c 0 ++ partL r.clicks c 0 0) ++ c :: suf := by rw [clickL, hsuf]; simp [farL, partL]
          refine qf_callF [un (L s)] [] (DL (L s)) rfl rfl rfl (Sp.refl _) (fun b hb => ⟨_, .head _, hb⟩) (yieldF hcb hx hI) ?_
          rintro s' v (⟨rfl, hI'⟩ | ⟨rfl, hE⟩)
          · (refine qf_gyes rfl (qf_pure tabOk rfl rfl rfl (qf_pure tabOk rfl rfl rfl (qf_nil (q_cond_false rfl (q_skip (q_seq (q_region (ql_pure tabOk rfl rfl (ql_pure tabOk rfl rfl (q_nil (q_cond_true rfl ?_))))))))))); refine q_exit _ rfl (q_blk (q_region (ql_ar tabOk rfl rfl rfl rfl (by omega) (by omega) (ql_pure tabOk rfl rfl (q_nil ?_))))))
            refine hK (1, s') _ _ ⟨by omega, ?_⟩ (by simp only; omega) ⟨rfl, rfl, rfl, rfl, rfl, trivial⟩ (by repeat constructor)
            rw [show clickP r.clicks c 1 = clickP r.clicks c 0 ++ partL r.clicks c 0 0 ++ [c] by simp [clickP, farL, partL]]
            exact hI'
          · (refine qf_gyes rfl (qf_pure tabOk rfl rfl rfl (qf_pure tabOk rfl rfl rfl (qf_nil (q_cond_true rfl (q_ret ?_))))))
            refine q_fin tabOk rfl (by repeat constructor) fun w hs => ?_
            exact ⟨s', .inr hE, Sat.un1.1 (hs.sp (Sp.refl _))⟩
        · rw [decide_eq_true (show (0 : Int) < far by omega)]
          ((iterate 3 refine qf_gno rfl rfl rfl ?_); refine qf_gyes rfl ?_; (iterate 3 refine qf_pure tabOk rfl rfl rfl ?_); refine qf_gyes rfl (qf_pure tabOk rfl rfl rfl (qf_gyes rfl (qf_pure tabOk rfl rfl rfl (qf_gyes rfl ?_)))))
          obtain ⟨suf2, hsuf2⟩ := farL_part r.clicks near far j hf0 c hcj hin
          have hx : clickL r.clicks near = (clickP r.clicks near far ++ partL r.clicks near far j) ++ c :: (suf2 ++ suf) := by rw [clickL, hsuf, hsuf2]; simp
          have hp := partL_succ r.clicks near far j c hcj
          rw [if_pos hin] at hp
          refine qf_callF [un (L s)] [] (DL (L s)) rfl rfl rfl (Sp.refl _) (fun b hb => ⟨_, .head _, hb⟩) (yieldF hcb hx hI) ?_
          rintro s' v (⟨rfl, hI'⟩ | ⟨rfl, hE⟩)
          · (refine qf_gyes rfl (qf_pure tabOk rfl rfl rfl (qf_pure tabOk rfl rfl rfl (qf_nil (q_cond_false rfl (q_skip (q_seq (q_region (ql_pure tabOk rfl rfl (ql_pure tabOk rfl rfl (q_nil ?_)))))))))))
            rw [decide_eq_false (show ¬ (far : Int) = 0 by omega)]
            (refine q_cond_false rfl (q_skip (q_blk (q_region (ql_ar tabOk rfl rfl rfl rfl (by omega) (by omega) (ql_pure tabOk rfl rfl (q_nil ?_)))))))
            refine hK2 (j + 1, s') _ _ ⟨by simp only; omega, fun h => absurd h hf0, ?_⟩ (by simp only; omega) ⟨rfl, rfl, rfl, rfl, rfl, rfl, rfl, rfl, trivial⟩ (by repeat constructor)
            simp only
            rw [hp, ← List.append_assoc]
            exact hI'
          · (refine qf_gyes rfl (qf_pure tabOk rfl rfl rfl (qf_pure tabOk rfl rfl rfl (qf_nil (q_cond_true rfl (q_ret ?_))))))
            refine q_fin tabOk rfl (by repeat constructor) fun w hs => ?_
            exact ⟨s', .inr hE, Sat.un1.1 (hs.sp (Sp.refl _))⟩
      · have hin' : inB c (-r.clicks) r.clicks = false := by simpa using hin
        rw [hin']
        ((iterate 3 refine qf_gno rfl rfl rfl ?_); (iterate 3 refine qf_gnone rfl rfl ?_); refine qf_gno rfl rfl rfl (qf_pure tabOk rfl rfl rfl (qf_pure tabOk rfl rfl rfl ?_)); (iterate 4 refine qf_gno rfl rfl rfl ?_); refine qf_pure tabOk rfl rfl rfl (qf_nil (q_cond_false rfl (q_skip (q_seq (q_region (ql_pure tabOk rfl rfl (ql_pure tabOk rfl rfl (q_nil ?_)))))))))
        by_cases hf0 : far = 0
        · subst hf0
          obtain rfl : j = 0 := hj0 rfl
          obtain rfl : c = near := by simpa using hcj.symm
          exact absurd hn hin
        · rw [decide_eq_false (show ¬ (far : Int) = 0 by omega)]
          (refine q_cond_false rfl (q_skip (q_blk (q_region (ql_ar tabOk rfl rfl rfl rfl (by omega) (by omega) (ql_pure tabOk rfl rfl (q_nil ?_)))))))
          have hp := partL_succ r.clicks near far j c hcj
          rw [if_neg hin, List.append_nil] at hp
          exact hK2 (j + 1, s) _ _ ⟨by simp only; omega, fun h => absurd h hf0, by simp only; rw [hp]; exact hI⟩ (by simp only; omega) ⟨rfl, rfl, rfl, rfl, rfl, rfl, rfl, rfl, trivial⟩ (by repeat constructor)
    · have hj2 : j = 2 := by simp only at hc; omega
      subst hj2
      have hf0 : far ≠ 0 := fun h => by have := hj0 h; omega
      (refine q_exit _ rfl (q_blk (q_region (ql_ar tabOk rfl rfl rfl rfl (by omega) (by omega) (ql_pure tabOk rfl rfl (q_nil ?_))))))
      exact hK (far + 1, s) _ _ ⟨by simp only; omega, by simp only; rw [clickP_succ, farL_pos r.clicks near far hf0]; exact hI⟩ (by simp only; omega) ⟨rfl, rfl, rfl, rfl, rfl, trivial⟩ (by repeat constructor)
  · obtain rfl : far = (2 * r.clicks + 1).toNat := by simp only at hc; omega
    (refine q_exit _ rfl ?_)
    refine q_end tabOk rfl (by repeat constructor) fun w hs => ?_
    exact ⟨s, .inl hI, Sat.un1.1 (hs.sp (Sp.refl _))⟩
theorem clicks_ca (w : World) (b : Nat) (near : Int) : Ca Try.prog 33 [.pointer (some ⟨b, 0, none⟩), .int .i64 near] w fun v w' =>
    ∃ x : Nat × Nat, v = .func (.func 43) #[] #[.pointer (some ⟨x.1, 0, none⟩), .pointer (some ⟨x.2, 0, none⟩)] ∧ Sat w M0 [.pt x.2 [.int .i64 near] 3, .pt x.1 [.pointer (some ⟨b, 0, none⟩)] 72] w' := by
  refine q_of (Sat.nil w M0) Try.func33 rfl (by simp [Try.ntmps33]) ?_
  (refine q_seq (q_region ?_))
  refine ql_box rfl rfl (fun b2 => ?_)
  refine ql_box rfl rfl (fun b3 => ?_)
  (refine ql_pure tabOk rfl rfl (q_nil (q_seq (q_region (ql_pure tabOk rfl rfl (ql_pure tabOk rfl rfl (q_nil (q_ret ?_))))))))
  refine q_fin tabOk rfl (by repeat constructor) fun w hs => ?_
  exact ⟨(b2, b3), rfl, hs⟩
theorem clickL_in (C near : Int) (hn : inB near (-C) C = true) : ∀ c ∈ clickL C near, inB c (-C) C = true := by
  intro c hc
  simp only [clickL, clickP, List.mem_flatMap] at hc
  obtain ⟨n, _, hc⟩ := hc
  unfold farL at hc
  split at hc
  · rw [List.mem_singleton.1 hc]; exact hn
  · exact (List.mem_filter.1 hc).2
set_option maxHeartbeats 1000000 in
theorem idxF_int (w : World) (lo hi : Nat) (v cv : Value) (es : List Value) (p : Value → Bool) (hrd : RdE w lo hi v 1 es) (hone : ∀ i (hi : i < es.length), oneV es[i] = true) (hlen : es.length < 4611686018427387904) (hp : PredAt Try.prog tab w cv es p) :
    Ca Try.prog 38 [v, cv] w fun r w' => ((∃ i : Nat, r = .int .i64 i ∧ ∃ hi : i < es.length, p es[i] = true) ∨ (r = .int .i64 (-1) ∧ ∀ x ∈ es, p x = false)) ∧ Chg [] w w' := by
  obtain ⟨a, cap, rfl, hsl⟩ := hrd.out
  obtain ⟨g, first, caps, rfl, hg, hcl⟩ := hp
  refine ca_of Try.func38 rfl (by simp [Try.ntmps38]) ?_
  (refine y_seq (y_region (yl_pure tabOk rfl rfl (y_seq (y_seq (y_region ?_))))); (iterate 3 refine yl_pure tabOk rfl rfl ?_); refine y_block ?_)
  refine y_loop (fun m l wr => ∃ k : Nat, k ≤ es.length ∧ m = es.length - k ∧ l = [(0, .slice a es.length cap), (1, .func (.func g) first caps), (7, .int .i64 es.length), (8, .int .i64 k)] ∧ (∀ i (hi : i < es.length), i < k → p es[i] = false) ∧ Chg [] w wr) (m := es.length)
    ⟨0, by omega, rfl, rfl, fun i _ hi => by omega, Chg.refl _ _⟩ ⟨rfl, rfl, rfl, rfl, trivial⟩ ?_
  rintro m l wr ⟨k, hkl, rfl, rfl, hpk, hcw⟩ K hK
  (refine y_seq (y_region (yl_pure tabOk rfl rfl (y_seq ?_))))
  refine y_if rfl (fun hc => ?_) (fun hc => ?_)
  · have hk : k < es.length := by omega
    obtain ⟨b, off, rfl⟩ := hsl (by omega)
    (refine y_skip (y_seq (y_block (y_seq (y_region (yl_pure tabOk rfl rfl (yl_pure tabOk rfl rfl (y_seq (y_region ?_)))))))); (iterate 3 refine yl_pure tabOk rfl rfl ?_))
    refine yl_index tabOk rfl rfl rfl rfl rfl (by omega) (by omega) ?_
    refine yl_load1 tabOk rfl rfl rfl (v := es[k]) (by rw [show (Int.toNat (k : Int)) = k from rfl]; exact (hrd.keep hcw).cell1 k hk (hone k hk)) ?_
    refine yl_call tabOk rfl hg rfl rfl (hcl wr hcw es[k] (List.getElem_mem hk)) ?_
    rintro _ w2 ⟨rfl, hc2⟩
    (refine yl_nil ?_)
    refine y_cond rfl (fun hc => ?_) (fun hc => ?_)
    · (refine y_seq (y_region (yl_pure tabOk rfl rfl (yl_pure tabOk rfl rfl (y_ret ?_)))))
      exact y_fin1 rfl rfl ⟨.inl ⟨k, rfl, hk, hc⟩, hcw.trans hc2⟩
    · (refine y_skip (y_region (yl_pure tabOk rfl rfl (yl_pure tabOk rfl rfl (yl_nil ?_)))))
      refine y_k (hK _ _ _ _ ⟨k + 1, by omega, rfl, rfl, fun i hi hik => ?_, hcw.trans hc2⟩ (by omega) ⟨rfl, rfl, rfl, ?_, trivial⟩)
      · by_cases h : i < k
        · exact hpk i hi h
        · obtain rfl : i = k := by omega
          exact hc
      · show some (Value.int _ (IntKind.i64.wrap (↑k + 1))) = _
        rw [w64 (by omega) (by omega)]
        rfl
  · (refine y_exit _ rfl (y_seq (y_region (yl_pure tabOk rfl rfl (y_ret ?_)))))
    refine y_fin1 rfl rfl ⟨.inr ⟨rfl, fun x hx => ?_⟩, hcw⟩
    obtain ⟨i, hi, rfl⟩ := List.getElem_of_mem hx
    exact hpk i hi (by omega)
theorem conF_int (w : World) (lo hi : Nat) (v cv : Value) (es : List Value) (p : Value → Bool) (hrd : RdE w lo hi v 1 es) (hone : ∀ i (hi : i < es.length), oneV es[i] = true) (hlen : es.length < 4611686018427387904) (hp : PredAt Try.prog tab w cv es p) :
    Ca Try.prog 27 [v, cv] w fun r w' => r = .bool (es.any p) ∧ Chg [] w w' := by
  refine ca_of Try.func27 rfl (by simp [Try.ntmps27]) ?_
  (refine y_seq (y_region (yl_pure tabOk rfl rfl (y_seq (y_region (yl_pure tabOk rfl rfl (yl_pure tabOk rfl rfl ?_)))))))
  refine yl_call tabOk rfl rfl rfl rfl (idxF_int w lo hi v cv es p hrd hone hlen hp) ?_
  rintro r w2 ⟨⟨i, rfl, hi, hpi⟩ | ⟨rfl, hall⟩, hc2⟩
  · (refine yl_pure tabOk rfl rfl (yl_pure tabOk rfl rfl (y_ret ?_)))
    refine y_fin1 rfl rfl ⟨?_, hc2⟩
    have h1 : es.any p = true := List.any_eq_true.2 ⟨_, List.getElem_mem hi, hpi⟩
    rw [h1]
    exact congrArg Value.bool (decide_eq_true (by omega))
  · (refine yl_pure tabOk rfl rfl (yl_pure tabOk rfl rfl (y_ret ?_)))
    refine y_fin1 rfl rfl ⟨?_, hc2⟩
    have h1 : es.any p = false := List.any_eq_false.2 (fun x hx => by simp [hall x hx])
    rw [h1]
    rfl
theorem all1_int (w : World) (b t : Nat) (cv x : Value) (es : List Value) (p : Value → Bool) (_hx : oneV x = true) (hm : x ∈ es) (hb : Blk w b [cv] t) (hp : PredAt Try.prog tab w cv es p) :
    Ca Try.prog 28 [x, .pointer (some ⟨b, 0, none⟩)] w fun r w' => r = .bool (!(p x)) ∧ Chg [] w w' := by
  obtain ⟨g, first, caps, rfl, hg, hcl⟩ := hp
  refine ca_of Try.func28 rfl (by simp [Try.ntmps28]) ?_
  (refine y_seq (y_region (yl_pure tabOk rfl rfl (y_seq (y_region ?_)))); refine yl_loadB tabOk rfl rfl rfl (by assumption) (by rfl) ?_; refine yl_pure tabOk rfl rfl ?_)
  refine yl_call tabOk rfl hg rfl rfl (hcl w (Chg.refl _ _) _ hm) ?_
  rintro _ w2 ⟨rfl, hc2⟩
  (refine yl_pure tabOk rfl rfl (yl_pure tabOk rfl rfl (y_ret ?_)))
  exact y_fin1 rfl rfl ⟨rfl, hc2⟩
theorem all_int (w : World) (lo hi : Nat) (v cv : Value) (es : List Value) (p : Value → Bool) (hrd : RdE w lo hi v 1 es) (hone : ∀ i (hi : i < es.length), oneV es[i] = true) (hlen : es.length < 4611686018427387904) (hp : PredAt Try.prog tab w cv es p) :
    Ca Try.prog 15 [v, cv] w fun r w' => r = .bool (es.all p) ∧ Chg [] w w' := by
  refine ca_of Try.func15 rfl (by simp [Try.ntmps15]) ?_
  (refine y_seq (y_region ?_))
  refine yl_box rfl rfl (fun w1 hc1 hs1 hb1 => ?_)
  have hcv : cv.cells.toList = [cv] := by obtain ⟨g, first, caps, rfl, _, _⟩ := hp; rfl
  rw [hcv] at hb1
  have hp1 : PredAt Try.prog tab w1 (.func (.func 28) #[] #[.pointer (some ⟨w.heap.size, 0, none⟩)]) es (fun x => !(p x)) := by
    refine ⟨28, #[], #[_], rfl, rfl, fun w' hw' x hx => ?_⟩
    refine all1_int w' w.heap.size _ cv x es p ?_ hx (hb1.keep hw') (hp.keep (hc1.trans hw'))
    obtain ⟨i, hi, rfl⟩ := List.getElem_of_mem hx
    exact hone i hi
  (refine yl_pure tabOk rfl rfl (y_seq (y_region (yl_pure tabOk rfl rfl (yl_pure tabOk rfl rfl ?_)))))
  refine yl_call tabOk rfl rfl rfl rfl (conF_int w1 lo hi v _ es _ (hrd.keep hc1) hone hlen hp1) ?_
  rintro _ w2 ⟨rfl, hc2⟩
  (refine yl_pure tabOk rfl rfl (yl_pure tabOk rfl rfl (y_ret ?_)))
  refine y_fin1 rfl rfl ⟨?_, hc1.trans hc2⟩
  rw [List.all_eq_not_any_not]
/-- A predicate of rows, as a function value. -/
def RowP (w : World) (lo hi : Nat) (cv : Value) (ll : List (List Int)) (p : List Int → Bool) : Prop :=
  ∃ g first caps, cv = .func (.func g) first caps ∧ has tab.fn g = true ∧
    ∀ w', Chg [] w w' → ∀ l ∈ ll, ∀ v, RdI w' lo hi v l → Ca Try.prog g (first.toList ++ [v] ++ caps.toList) w' fun v w'' => v = .bool (p l) ∧ Chg [] w' w''
theorem RowP.keep {w w1 : World} {lo hi : Nat} {cv : Value} {ll : List (List Int)} {p : List Int → Bool} (h : RowP w lo hi cv ll p) (c : Chg [] w w1) : RowP w1 lo hi cv ll p := by
  obtain ⟨g, f, cs, h1, h2, h3⟩ := h
  exact ⟨g, f, cs, h1, h2, fun w' hw => h3 w' (c.trans hw)⟩
theorem idxR (w : World) (lo hi : Nat) (v cv : Value) (ll : List (List Int)) (p : List Int → Bool) (hrd : RdII w lo hi v ll) (hlen : ll.length < 1000000) (hp : RowP w lo hi cv ll p) :
    Ca Try.prog 55 [v, cv] w fun r w' => (∃ i : Int, r = .int .i64 i ∧ decide (0 ≤ i) = ll.any p) ∧ Chg [] w w' := by
  obtain ⟨a, cap, rfl, hsl⟩ := hrd.outI
  obtain ⟨g, first, caps, rfl, hg, hcl⟩ := hp
  refine q_of (Sat.nil w M0) Try.func55 rfl (by simp [Try.ntmps55]) ?_
  (refine q_seq (q_region (ql_pure tabOk rfl rfl (q_nil (q_seq (q_seq (q_region ?_)))))); (iterate 3 refine ql_pure tabOk rfl rfl ?_); refine q_nil (q_block ?_))
  refine q_loop (σ := Nat) (fun k => k ≤ ll.length ∧ (ll.take k).any p = false) (fun k => ll.length - k) (fun k => [(0, .slice a ll.length cap), (1, .func (.func g) first caps), (7, .int .i64 ll.length), (8, .int .i64 k)]) (fun _ => []) 0 ⟨by omega, rfl⟩ ⟨rfl, rfl, rfl, rfl, trivial⟩ .nil ?_
  rintro k ⟨hk, hpk⟩ K hK
  (refine q_seq (q_region (ql_pure tabOk rfl rfl (q_nil (q_seq ?_)))))
  refine q_if rfl (fun hc => ?_) (fun hc => ?_)
  · have hk : k < ll.length := by omega
    obtain ⟨b, off, rfl⟩ := hsl (by omega)
    obtain ⟨ar, cr, hrow, hcell⟩ := hrd.row k hk
    (refine q_skip (q_seq (q_block (q_seq (q_region (ql_pure tabOk rfl rfl (ql_pure tabOk rfl rfl (q_nil (q_seq (q_region ?_))))))))); (iterate 3 refine ql_pure tabOk rfl rfl ?_))
    refine ql_index tabOk rfl rfl rfl rfl rfl (by omega) (by omega) ?_
    refine ql_load1 (v := .slice ar ll[k].length cr) tabOk rfl rfl rfl (fun w' hs => hcell w' hs.chg0) ?_
    refine ql_callv tabOk rfl hg rfl rfl (fun w' hs => hcl w' hs.chg0 ll[k] (List.getElem_mem hk) _ (RdE.keep hrow hs.chg0)) ?_
    (refine q_nil ?_)
    refine q_cond rfl (fun hc => ?_) (fun hc => ?_)
    · (refine q_seq (q_region (ql_pure tabOk rfl rfl (ql_pure tabOk rfl rfl (q_nil (q_ret ?_))))))
      refine q_fin tabOk rfl (by repeat constructor) fun w hs => ?_
      refine ⟨⟨k, rfl, ?_⟩, hs.chg0⟩
      rw [decide_eq_true (by omega), List.any_eq_true.2 ⟨ll[k], List.getElem_mem hk, hc⟩]
    · (refine q_skip (q_blk (q_region (ql_ar tabOk rfl rfl rfl rfl (by omega) (by omega) (ql_pure tabOk rfl rfl (q_nil ?_))))))
      exact hK (k + 1) _ _ ⟨by omega, by rw [List.take_succ_eq_append_getElem hk, List.any_append, hpk]; simp [hc]⟩ (by omega) ⟨rfl, rfl, rfl, rfl, trivial⟩ (by repeat constructor)
  · obtain rfl : k = ll.length := by omega
    rw [List.take_length] at hpk
    (refine q_exit _ rfl (q_seq (q_region (ql_pure tabOk rfl rfl (q_nil (q_ret ?_))))))
    refine q_fin tabOk rfl (by repeat constructor) fun w hs => ?_
    exact ⟨⟨-1, rfl, by rw [hpk]; rfl⟩, hs.chg0⟩
theorem conR (w : World) (lo hi : Nat) (v cv : Value) (ll : List (List Int)) (p : List Int → Bool) (hrd : RdII w lo hi v ll) (hlen : ll.length < 1000000) (hp : RowP w lo hi cv ll p) :
    Ca Try.prog 53 [v, cv] w fun r w' => r = .bool (ll.any p) ∧ Chg [] w w' := by
  refine q_of (Sat.nil w M0) Try.func53 rfl (by simp [Try.ntmps53]) ?_
  (refine q_seq (q_region (ql_pure tabOk rfl rfl (q_nil (q_seq (q_region (ql_pure tabOk rfl rfl (ql_pure tabOk rfl rfl ?_))))))))
  refine ql_call (β := Int) (ψ := fun i v => v = .int .i64 i ∧ decide (0 ≤ i) = ll.any p) (L' := fun _ => []) tabOk [] _ M0 rfl rfl rfl rfl (Sp.refl _) (fun _ h => h.elim) (fun w' hs => (idxR w' lo hi v cv ll p (hrd.keep hs.chg0) hlen (hp.keep hs.chg0)).mono (fun r w'' ⟨⟨i, h1, h2⟩, h3⟩ => ⟨i, ⟨h1, h2⟩, (Sat.nil w' M0).keep h3⟩)) ?_
  rintro i _ ⟨rfl, hi⟩
  (refine ql_pure tabOk rfl rfl (ql_pure tabOk rfl rfl (q_nil (q_ret ?_))))
  refine q_fin tabOk rfl (by repeat constructor) fun w hs => ?_
  exact ⟨by rw [← hi]; rfl, hs.chg0⟩
theorem allR1 (w : World) (lo hi : Nat) (b t : Nat) (cv v : Value) (l : List Int) (ll : List (List Int)) (p : List Int → Bool) (hm : l ∈ ll) (hb : Blk w b [cv] t) (hv : RdI w lo hi v l) (hp : RowP w lo hi cv ll p) :
    Ca Try.prog 54 [v, .pointer (some ⟨b, 0, none⟩)] w fun r w' => r = .bool (!(p l)) ∧ Chg [] w w' := by
  obtain ⟨g, first, caps, rfl, hg, hcl⟩ := hp
  refine q_of (Sat.nil w M0) Try.func54 rfl (by simp [Try.ntmps54]) ?_
  (refine q_seq (q_region (ql_pure tabOk rfl rfl (q_nil (q_seq (q_region ?_))))); refine ql_loadP tabOk rfl rfl rfl (by assumption) (by rfl) ?_; refine ql_pure tabOk rfl rfl ?_)
  refine ql_callv tabOk rfl hg rfl rfl (fun w' hs => hcl w' hs.chg0 l hm _ (RdE.keep hv hs.chg0)) ?_
  (refine ql_pure tabOk rfl rfl (ql_pure tabOk rfl rfl (q_nil (q_ret ?_))))
  refine q_fin tabOk rfl (by repeat constructor) fun w hs => ?_
  exact ⟨rfl, hs.chg0⟩
theorem allR (w : World) (lo hi : Nat) (v cv : Value) (ll : List (List Int)) (p : List Int → Bool) (hrd : RdII w lo hi v ll) (hlen : ll.length < 1000000) (hp : RowP w lo hi cv ll p) :
    Ca Try.prog 45 [v, cv] w fun r w' => r = .bool (ll.all p) ∧ Chg [] w w' := by
  have hcv : cv.cells.toList = [cv] := by obtain ⟨g, first, caps, rfl, _, _⟩ := hp; rfl
  refine q_of (Sat.nil w M0) Try.func45 rfl (by simp [Try.ntmps45]) ?_
  (refine q_seq (q_region ?_))
  refine ql_box rfl rfl (fun b3 => ?_)
  rw [hcv]
  (refine ql_pure tabOk rfl rfl (q_nil (q_seq (q_region (ql_pure tabOk rfl rfl (ql_pure tabOk rfl rfl ?_))))))
  refine ql_callv tabOk rfl rfl rfl rfl (fun w hs => conR w lo hi v _ ll (fun l => !(p l)) (hrd.keep hs.chg0) hlen ⟨_, #[], #[_], rfl, rfl, fun w' hw' l hl v hv => allR1 w' lo hi b3 _ cv v l ll p hl ((hs.blk (by repeat constructor)).keep hw') hv (hp.keep (hs.chg0.trans hw'))⟩) ?_
  (refine ql_pure tabOk rfl rfl (ql_pure tabOk rfl rfl (q_nil (q_ret ?_))))
  refine q_fin tabOk rfl (by repeat constructor) fun w hs => ?_
  exact ⟨by rw [List.all_eq_not_any_not]; rfl, hs.chg0⟩
def pI (lo hi : Int) : Value → Bool
  | .int _ n => inB n lo hi
  | _ => false
theorem pI_all (lo hi : Int) (l : List Int) : (ints l).all (pI lo hi) = l.all (fun n => inB n lo hi) := by
  rw [List.all_map]
  rfl
theorem ints_one (l : List Int) : ∀ i (hi : i < (ints l).length), oneV (ints l)[i] = true := by
  intro i hi
  simp [oneV]
theorem chk1_p (w : World) (lo hi b : Nat) (t : TypeId) (m : Int) (ll : List (List Int)) (hb : Blk w b [.int .i64 m] t) : RowP w lo hi (.func (.func 46) #[] #[.pointer (some ⟨b, 0, none⟩)]) ll (fun l => decide ((l.length : Int) = m) && true) := by
  refine ⟨_, _, _, rfl, rfl, fun w' hw' l _ v hv => ?_⟩
  have hb' := hb.keep hw'
  obtain ⟨a, c, rfl, _⟩ := RdI.outI hv
  refine q_of (Sat.nil w' M0) Try.func46 rfl (by simp [Try.ntmps46]) ?_
  (refine q_seq (q_region (ql_pure tabOk rfl rfl (q_nil (q_seq (q_region (ql_pure tabOk rfl rfl (ql_pure tabOk rfl rfl ?_))))))); refine ql_loadP tabOk rfl rfl rfl (by assumption) (by rfl) ?_; refine ql_pure tabOk rfl rfl (ql_pure tabOk rfl rfl (q_nil (q_ret ?_))))
  refine q_fin tabOk rfl (by repeat constructor) fun w hs => ?_
  exact ⟨by simp [retV], hs.chg0⟩
theorem chk2_p (w : World) (b : Nat) (t : TypeId) (r : Rg) (cs : List Value) (es : List Int) (hb : Blk w b cs t) (hc : cs[3]? = some (.int .i64 r.total)) : PredAt Try.prog tab w (.func (.func 47) #[] #[.pointer (some ⟨b, 0, none⟩)]) (ints es) (pI 0 r.total) := by
  refine ⟨_, _, _, rfl, rfl, fun w' hw' x hx => ?_⟩
  have hb' := hb.keep hw'
  obtain ⟨y, hy, rfl⟩ := List.mem_map.1 hx
  refine q_of (Sat.nil w' M0) Try.func47 rfl (by simp [Try.ntmps47]) ?_
  (refine q_seq (q_region (ql_pure tabOk rfl rfl (q_nil (q_seq (q_region (ql_pure tabOk rfl rfl (ql_pure tabOk rfl rfl ?_))))))))
  refine ql_loadP tabOk rfl rfl rfl hb' hc ?_
  skip
  refine ql_callv tabOk rfl rfl rfl rfl (fun w hs => in_ca y 0 r.total w) ?_
  (refine ql_pure tabOk rfl rfl (q_nil (q_ret ?_)))
  refine q_fin tabOk rfl (by repeat constructor) fun w hs => ?_
  exact ⟨rfl, hs.chg0⟩
theorem chk3_p (w : World) (es : List Int) : PredAt Try.prog tab w (.func (.func 48) #[] #[]) (ints es) (pI (-300) 300) := by
  refine ⟨_, _, _, rfl, rfl, fun w' hw' x hx => ?_⟩
  obtain ⟨y, hy, rfl⟩ := List.mem_map.1 hx
  refine q_of (Sat.nil w' M0) Try.func48 rfl (by simp [Try.ntmps48]) ?_
  (refine q_seq (q_region (ql_pure tabOk rfl rfl (q_nil (q_seq (q_region (ql_pure tabOk rfl rfl ?_)))))))
  refine ql_callv tabOk rfl rfl rfl rfl (fun w hs => in_ca y (-300) 300 w) ?_
  (refine ql_pure tabOk rfl rfl (q_nil (q_ret ?_)))
  refine q_fin tabOk rfl (by repeat constructor) fun w hs => ?_
  exact ⟨rfl, hs.chg0⟩
theorem chk4_p (w : World) (es : List Int) : PredAt Try.prog tab w (.func (.func 49) #[] #[]) (ints es) (pI 0 100) := by
  refine ⟨_, _, _, rfl, rfl, fun w' hw' x hx => ?_⟩
  obtain ⟨y, hy, rfl⟩ := List.mem_map.1 hx
  refine q_of (Sat.nil w' M0) Try.func49 rfl (by simp [Try.ntmps49]) ?_
  (refine q_seq (q_region (ql_pure tabOk rfl rfl (q_nil (q_seq (q_region (ql_pure tabOk rfl rfl ?_)))))))
  refine ql_callv tabOk rfl rfl rfl rfl (fun w hs => in_ca y 0 100 w) ?_
  (refine ql_pure tabOk rfl rfl (q_nil (q_ret ?_)))
  refine q_fin tabOk rfl (by repeat constructor) fun w hs => ?_
  exact ⟨rfl, hs.chg0⟩
theorem chk5_p (w : World) (lo hi b b1 : Nat) (t t1 : TypeId) (r : Rg) (cs : List Value) (ll : List (List Int)) (hlen : ∀ l ∈ ll, l.length < 1000000) (hb : Blk w b [.func (.func 47) #[] #[.pointer (some ⟨b1, 0, none⟩)]] t) (hb1 : Blk w b1 cs t1) (hc : cs[3]? = some (.int .i64 r.total)) :
    RowP w lo hi (.func (.func 50) #[] #[.pointer (some ⟨b, 0, none⟩)]) ll (fun l => l.all (fun n => inB n 0 r.total)) := by
  refine ⟨_, _, _, rfl, rfl, fun w' hw' l hl v hv => ?_⟩
  have hb' := hb.keep hw'
  refine q_of (Sat.nil w' M0) Try.func50 rfl (by simp [Try.ntmps50]) ?_
  (refine q_seq (q_region (ql_pure tabOk rfl rfl (q_nil (q_seq (q_region (ql_pure tabOk rfl rfl ?_)))))); refine ql_loadP tabOk rfl rfl rfl (by assumption) (by rfl) ?_)
  (refine ql_callv tabOk rfl rfl rfl rfl (fun w hs => all_int w lo hi v _ (ints l) (pI 0 r.total) (RdE.keep hv hs.chg0) (ints_one l) (by have := hlen l hl; simp; omega) (chk2_p w b1 t1 r cs l (hb1.keep (hw'.trans hs.chg0)) hc)) ?_)
  (refine ql_pure tabOk rfl rfl (q_nil (q_ret ?_)))
  refine q_fin tabOk rfl (by repeat constructor) fun w hs => ?_
  exact ⟨by rw [pI_all]; rfl, hs.chg0⟩
theorem chk6_p (w : World) (lo hi b : Nat) (t : TypeId) (r : Rg) (cs : List Value) (ll : List (List Int)) (hlen : ∀ l ∈ ll, l.length < 1000000 ∧ ∀ x ∈ l, -1000000 ≤ x ∧ x ≤ 1000000) (hb : Blk w b cs t) (hc : cs[3]? = some (.int .i64 r.total)) :
    RowP w lo hi (.func (.func 52) #[] #[.pointer (some ⟨b, 0, none⟩)]) ll (fun l => decide (l.sum = r.total) && true) := by
  refine ⟨_, _, _, rfl, rfl, fun w' hw' l hl v hv => ?_⟩
  have hb' := hb.keep hw'
  refine q_of (Sat.nil w' M0) Try.func52 rfl (by simp [Try.ntmps52]) ?_
  (refine q_seq (q_region (ql_pure tabOk rfl rfl (q_nil (q_seq ?_)))))
  refine q_draw _ [] (Sp.refl _) (by kernel_rfl) (by kernel_rfl) ?_
  (refine qf_pure tabOk rfl rfl rfl ?_)
  refine qf_callv tabOk rfl rfl rfl rfl (fun w hs => sum_ca w lo hi v l (RdE.keep hv hs.chg0) (hlen l hl).1 (hlen l hl).2) ?_
  (refine qf_pure tabOk rfl rfl rfl ?_)
  refine qf_loadP tabOk rfl rfl rfl hb' hc ?_
  (refine qf_pure tabOk rfl rfl rfl (qf_pure tabOk rfl rfl rfl (qf_nil (q_ret ?_))))
  refine q_fin tabOk rfl (by repeat constructor) fun w hs => ?_
  exact ⟨by simp [retV], hs.chg0⟩
def cntB (r : Rg) : Bool := inB r.group.length 1 21 && !(decide ((r.group.length : Int) % 2 = 0)) && inB r.drifts.length 1 5 && decide ((r.first.length : Int) = r.drifts.length) && decide ((r.next.length : Int) = r.drifts.length) && r.next.all (fun l => decide ((l.length : Int) = r.drifts.length) && true)
def rng1B (r : Rg) : Bool := inB r.radius 0 200 && inB r.unit 1 20 && inB r.clicks 0 6 && inB r.total 1 12
def rng2B (r : Rg) : Bool := r.drifts.all (fun n => inB n (-300) 300) && r.group.all (fun n => inB n 0 100)
def rng3B (r : Rg) : Bool := r.first.all (fun n => inB n 0 r.total) && r.next.all (fun l => l.all (fun n => inB n 0 r.total))
def cnfB (r : Rg) : Bool := inB r.group.sum 1 100 && decide (r.first.sum = r.total) && r.next.all (fun l => decide (l.sum = r.total) && true)
/-- The error of a range. -/
def checkV (r : Rg) : Int := if !cntB r then 2 else if !rng1B r then 3 else if !rng2B r then 3 else if !rng3B r then 3 else if !cnfB r then 7 else 0
set_option maxHeartbeats 2000000 in
theorem check_ca (w : World) (cs : List Value) (r : Rg) (h : RgC w cs r) (hsm : r.Small) : Ca Try.prog 37 [.agg cs.toArray] w fun v w' => v = .int .i64 (checkV r) ∧ Chg [] w w' := by
  obtain ⟨lo, hi, ag, cg, ad, cd, af, cf, an, cn, rfl, hg, hdr, hf, hn⟩ := h
  have s1 := hsm.group
  have s2 := hsm.drifts
  have s3 := hsm.first
  have s4 := hsm.next
  refine q_of (Sat.nil w M0) Try.func37 rfl (by simp [Try.ntmps37]) ?_
  (refine q_seq (q_region ?_))
  refine ql_box rfl rfl (fun b1 => ?_)
  (refine ql_pure tabOk rfl rfl (q_nil (q_seq (q_region (ql_pure tabOk rfl rfl ?_)))); refine ql_loadBa tabOk rfl rfl rfl ?_; refine ql_pure tabOk rfl rfl ?_)
  refine ql_alloc zero3 rfl (fun b3 => ?_)
  (refine ql_set tabOk rfl rfl rfl rfl (by repeat constructor) ?_; refine q_nil (q_seq (q_seq (q_region (ql_pure tabOk rfl rfl ?_)))); refine ql_loadBa tabOk rfl rfl rfl ?_; refine ql_pure tabOk rfl rfl ?_)
  refine ql_callv tabOk rfl rfl rfl rfl (fun w hs => in_ca (r.group.length : Int) 1 21 w) ?_
  (refine ql_pure tabOk rfl rfl (ql_pure tabOk rfl rfl ?_))
  refine ql_split rfl rfl (fun hc => ?_) (fun hc => ?_)
  · ((iterate 5 refine ql_gno rfl rfl rfl ?_); refine ql_pure tabOk rfl rfl (ql_pure tabOk rfl rfl ?_); (iterate 3 refine ql_gno rfl rfl rfl ?_); refine ql_pure tabOk rfl rfl (ql_pure tabOk rfl rfl ?_); (iterate 5 refine ql_gno rfl rfl rfl ?_); refine ql_pure tabOk rfl rfl (ql_pure tabOk rfl rfl ?_); (iterate 5 refine ql_gno rfl rfl rfl ?_); refine ql_pure tabOk rfl rfl (ql_pure tabOk rfl rfl ?_); (iterate 5 refine ql_gno rfl rfl rfl ?_); refine ql_pure tabOk rfl rfl (q_nil (q_cond_true rfl (q_seq (q_region (ql_pure tabOk rfl rfl (q_nil (q_ret ?_))))))))
    refine q_fin tabOk rfl (by repeat constructor) fun w hs => ?_
    exact ⟨by simp at hc; simp [retV, checkV, cntB, hc], hs.chg0⟩
  simp at hc
  have c1 := hc
  (refine ql_gyes rfl (ql_pure tabOk rfl rfl (ql_gyes rfl ?_)); refine ql_loadBa tabOk rfl rfl rfl ?_; refine ql_gyes rfl (ql_pure tabOk rfl rfl (ql_gyes rfl (ql_remN rfl rfl rfl (by omega) (by omega) (ql_gyes rfl ?_)))); (iterate 3 refine ql_pure tabOk rfl rfl ?_))
  refine ql_split rfl rfl (fun hc => ?_) (fun hc => ?_)
  · ((iterate 3 refine ql_gno rfl rfl rfl ?_); refine ql_pure tabOk rfl rfl (ql_pure tabOk rfl rfl ?_); (iterate 5 refine ql_gno rfl rfl rfl ?_); refine ql_pure tabOk rfl rfl (ql_pure tabOk rfl rfl ?_); (iterate 5 refine ql_gno rfl rfl rfl ?_); refine ql_pure tabOk rfl rfl (ql_pure tabOk rfl rfl ?_); (iterate 5 refine ql_gno rfl rfl rfl ?_); refine ql_pure tabOk rfl rfl (q_nil (q_cond_true rfl (q_seq (q_region (ql_pure tabOk rfl rfl (q_nil (q_ret ?_))))))))
    refine q_fin tabOk rfl (by repeat constructor) fun w hs => ?_
    exact ⟨by simp [retV, checkV, cntB, hc], hs.chg0⟩
  simp at hc
  have c2 := hc
  (refine ql_gyes rfl ?_; refine ql_loadBa tabOk rfl rfl rfl ?_; refine ql_gyes rfl ?_)
  refine ql_callv tabOk rfl rfl rfl rfl (fun w hs => in_ca (r.drifts.length : Int) 1 5 w) ?_
  (refine ql_gyes rfl ?_; (iterate 3 refine ql_pure tabOk rfl rfl ?_))
  refine ql_split rfl rfl (fun hc => ?_) (fun hc => ?_)
  · ((iterate 5 refine ql_gno rfl rfl rfl ?_); refine ql_pure tabOk rfl rfl (ql_pure tabOk rfl rfl ?_); (iterate 5 refine ql_gno rfl rfl rfl ?_); refine ql_pure tabOk rfl rfl (ql_pure tabOk rfl rfl ?_); (iterate 5 refine ql_gno rfl rfl rfl ?_); refine ql_pure tabOk rfl rfl (q_nil (q_cond_true rfl (q_seq (q_region (ql_pure tabOk rfl rfl (q_nil (q_ret ?_))))))))
    refine q_fin tabOk rfl (by repeat constructor) fun w hs => ?_
    exact ⟨by simp at hc; simp [retV, checkV, cntB, hc], hs.chg0⟩
  simp at hc
  have c3 := hc
  (refine ql_gyes rfl (ql_pure tabOk rfl rfl (ql_gyes rfl ?_)); refine ql_loadBa tabOk rfl rfl rfl ?_; refine ql_gyes rfl (ql_pure tabOk rfl rfl (ql_gyes rfl ?_)); refine ql_loadBa tabOk rfl rfl rfl ?_; refine ql_gyes rfl ?_; (iterate 3 refine ql_pure tabOk rfl rfl ?_))
  refine ql_split rfl rfl (fun hc => ?_) (fun hc => ?_)
  · ((iterate 5 refine ql_gno rfl rfl rfl ?_); refine ql_pure tabOk rfl rfl (ql_pure tabOk rfl rfl ?_); (iterate 5 refine ql_gno rfl rfl rfl ?_); refine ql_pure tabOk rfl rfl (q_nil (q_cond_true rfl (q_seq (q_region (ql_pure tabOk rfl rfl (q_nil (q_ret ?_))))))))
    refine q_fin tabOk rfl (by repeat constructor) fun w hs => ?_
    exact ⟨by simp [retV, checkV, cntB, hc], hs.chg0⟩
  simp at hc
  have c4 := hc
  (refine ql_gyes rfl (ql_pure tabOk rfl rfl (ql_gyes rfl ?_)); refine ql_loadBa tabOk rfl rfl rfl ?_; refine ql_gyes rfl (ql_pure tabOk rfl rfl (ql_gyes rfl ?_)); refine ql_loadBa tabOk rfl rfl rfl ?_; refine ql_gyes rfl ?_; (iterate 3 refine ql_pure tabOk rfl rfl ?_))
  refine ql_split rfl rfl (fun hc => ?_) (fun hc => ?_)
  · ((iterate 5 refine ql_gno rfl rfl rfl ?_); refine ql_pure tabOk rfl rfl (q_nil (q_cond_true rfl (q_seq (q_region (ql_pure tabOk rfl rfl (q_nil (q_ret ?_))))))))
    refine q_fin tabOk rfl (by repeat constructor) fun w hs => ?_
    exact ⟨by simp [retV, checkV, cntB, hc], hs.chg0⟩
  simp at hc
  have c5 := hc
  (refine ql_gyes rfl (ql_pure tabOk rfl rfl (ql_gyes rfl ?_)); refine ql_loadBa tabOk rfl rfl rfl ?_; refine ql_gyes rfl (ql_pure tabOk rfl rfl (ql_gyes rfl ?_)))
  refine ql_callv tabOk rfl rfl rfl rfl (fun w hs => allR w lo hi _ _ r.next _ (hn.keep hs.chg0) (by omega) (chk1_p w lo hi b3 _ _ r.next (hs.blk (by repeat constructor)))) ?_
  (refine ql_gyes rfl (ql_pure tabOk rfl rfl (ql_pure tabOk rfl rfl (q_nil ?_))))
  refine q_cond rfl (fun hc => ?_) (fun hc => ?_)
  · (refine q_seq (q_region (ql_pure tabOk rfl rfl (q_nil (q_ret ?_)))))
    refine q_fin tabOk rfl (by repeat constructor) fun w hs => ?_
    exact ⟨by simp only [Bool.not_eq_true'] at hc; simp only [retV, checkV, cntB, hc, Bool.and_false, Bool.false_and, Bool.not_false, Bool.not_true, if_true, if_false, Bool.false_eq_true], hs.chg0⟩
  simp only [Bool.not_eq_false'] at hc
  have cnt : cntB r = true := by
    simp only [cntB, Bool.and_eq_true, Bool.not_eq_true', decide_eq_true_eq, decide_eq_false_iff_not]
    exact ⟨⟨⟨⟨⟨c1, by omega⟩, c3⟩, by omega⟩, by omega⟩, hc⟩
  have hrows : ∀ l ∈ r.next, l.length = r.drifts.length := fun l hl => by
    have := List.all_eq_true.1 hc l hl
    simp at this
    omega
  have c3' := inB_iff.1 c3
  clear c1 c2 c3 c4 c5 hc
  (refine q_skip (q_seq (q_region (ql_pure tabOk rfl rfl ?_))))
  refine ql_alloc zero67 rfl (fun b4 => ?_)
  (refine ql_set tabOk rfl rfl rfl rfl (by repeat constructor) ?_; refine q_nil (q_seq (q_block (q_seq (q_region (ql_pure tabOk rfl rfl ?_))))); refine ql_loadBa tabOk rfl rfl rfl ?_)
  refine ql_callv tabOk rfl rfl rfl rfl (fun w hs => in_ca r.radius 0 200 w) ?_
  (refine ql_pure tabOk rfl rfl (ql_pure tabOk rfl rfl ?_))
  refine ql_split rfl rfl (fun hc => ?_) (fun hc => ?_)
  · ((iterate 4 refine ql_gno rfl rfl rfl ?_); refine ql_pure tabOk rfl rfl (ql_pure tabOk rfl rfl ?_); (iterate 4 refine ql_gno rfl rfl rfl ?_); refine ql_pure tabOk rfl rfl (ql_pure tabOk rfl rfl ?_); (iterate 4 refine ql_gno rfl rfl rfl ?_); refine ql_pure tabOk rfl rfl (ql_pure tabOk rfl rfl (q_nil (q_cond_true rfl (q_seq (q_region (ql_pure tabOk rfl rfl (q_nil (q_ret ?_)))))))))
    refine q_fin tabOk rfl (by repeat constructor) fun w hs => ?_
    exact ⟨by simp at hc; simp [retV, checkV, cnt, rng1B, hc], hs.chg0⟩
  simp at hc
  have c1 := hc
  (refine ql_gyes rfl (ql_pure tabOk rfl rfl (ql_gyes rfl ?_)); refine ql_loadBa tabOk rfl rfl rfl ?_; refine ql_gyes rfl ?_)
  refine ql_callv tabOk rfl rfl rfl rfl (fun w hs => in_ca r.unit 1 20 w) ?_
  (refine ql_gyes rfl ?_; (iterate 3 refine ql_pure tabOk rfl rfl ?_))
  refine ql_split rfl rfl (fun hc => ?_) (fun hc => ?_)
  · ((iterate 4 refine ql_gno rfl rfl rfl ?_); refine ql_pure tabOk rfl rfl (ql_pure tabOk rfl rfl ?_); (iterate 4 refine ql_gno rfl rfl rfl ?_); refine ql_pure tabOk rfl rfl (ql_pure tabOk rfl rfl (q_nil (q_cond_true rfl (q_seq (q_region (ql_pure tabOk rfl rfl (q_nil (q_ret ?_)))))))))
    refine q_fin tabOk rfl (by repeat constructor) fun w hs => ?_
    exact ⟨by simp at hc; simp [retV, checkV, cnt, rng1B, hc], hs.chg0⟩
  simp at hc
  have c2 := hc
  (refine ql_gyes rfl (ql_pure tabOk rfl rfl (ql_gyes rfl ?_)); refine ql_loadBa tabOk rfl rfl rfl ?_; refine ql_gyes rfl ?_)
  refine ql_callv tabOk rfl rfl rfl rfl (fun w hs => in_ca r.clicks 0 6 w) ?_
  (refine ql_gyes rfl ?_; (iterate 3 refine ql_pure tabOk rfl rfl ?_))
  refine ql_split rfl rfl (fun hc => ?_) (fun hc => ?_)
  · ((iterate 4 refine ql_gno rfl rfl rfl ?_); refine ql_pure tabOk rfl rfl (ql_pure tabOk rfl rfl (q_nil (q_cond_true rfl (q_seq (q_region (ql_pure tabOk rfl rfl (q_nil (q_ret ?_)))))))))
    refine q_fin tabOk rfl (by repeat constructor) fun w hs => ?_
    exact ⟨by simp at hc; simp [retV, checkV, cnt, rng1B, hc], hs.chg0⟩
  simp at hc
  have c3 := hc
  (refine ql_gyes rfl (ql_pure tabOk rfl rfl (ql_gyes rfl ?_)); refine ql_loadBa tabOk rfl rfl rfl ?_; refine ql_gyes rfl ?_)
  refine ql_callv tabOk rfl rfl rfl rfl (fun w hs => in_ca r.total 1 12 w) ?_
  (refine ql_gyes rfl ?_; (iterate 3 refine ql_pure tabOk rfl rfl ?_); refine q_nil ?_)
  refine q_cond rfl (fun hc => ?_) (fun hc => ?_)
  · (refine q_seq (q_region (ql_pure tabOk rfl rfl (q_nil (q_ret ?_)))))
    refine q_fin tabOk rfl (by repeat constructor) fun w hs => ?_
    exact ⟨by simp at hc; simp [retV, checkV, cnt, rng1B, hc], hs.chg0⟩
  simp at hc
  have rng1 : rng1B r = true := by simp [rng1B, c1, c2, c3, hc]
  have htot := inB_iff.1 hc
  clear c1 c2 c3 hc
  (refine q_seq (q_region (ql_pure tabOk rfl rfl ?_)); refine ql_loadBa tabOk rfl rfl rfl ?_)
  (refine ql_callv tabOk rfl rfl rfl rfl (fun w hs => all_int w lo hi _ _ (ints r.drifts) (pI (-300) 300) (RdE.keep hdr hs.chg0) (ints_one _) (by simp; omega) (chk3_p w r.drifts)) ?_)
  rw [pI_all]
  (refine ql_pure tabOk rfl rfl (ql_pure tabOk rfl rfl ?_))
  refine ql_split rfl rfl (fun hc => ?_) (fun hc => ?_)
  · ((iterate 4 refine ql_gno rfl rfl rfl ?_); refine ql_pure tabOk rfl rfl (ql_pure tabOk rfl rfl (q_nil (q_cond_true rfl (q_seq (q_region (ql_pure tabOk rfl rfl (q_nil (q_ret ?_)))))))))
    refine q_fin tabOk rfl (by repeat constructor) fun w hs => ?_
    exact ⟨by simp only [Bool.not_eq_true'] at hc; simp only [retV, checkV, cnt, rng1, rng2B, hc, Bool.and_false, Bool.false_and, Bool.not_false, Bool.not_true, if_true, if_false, Bool.false_eq_true], hs.chg0⟩
  simp only [Bool.not_eq_false'] at hc
  have c1 := hc
  (refine ql_gyes rfl (ql_pure tabOk rfl rfl (ql_gyes rfl ?_)); refine ql_loadBa tabOk rfl rfl rfl ?_; refine ql_gyes rfl ?_)
  (refine ql_callv tabOk rfl rfl rfl rfl (fun w hs => all_int w lo hi _ _ (ints r.group) (pI 0 100) (RdE.keep hg hs.chg0) (ints_one _) (by simp; omega) (chk4_p w r.group)) ?_)
  rw [pI_all]
  (refine ql_gyes rfl ?_; (iterate 3 refine ql_pure tabOk rfl rfl ?_); refine q_nil ?_)
  refine q_cond rfl (fun hc => ?_) (fun hc => ?_)
  · (refine q_seq (q_region (ql_pure tabOk rfl rfl (q_nil (q_ret ?_)))))
    refine q_fin tabOk rfl (by repeat constructor) fun w hs => ?_
    exact ⟨by simp only [Bool.not_eq_true'] at hc; simp only [retV, checkV, cnt, rng1, rng2B, hc, Bool.and_false, Bool.false_and, Bool.not_false, Bool.not_true, if_true, if_false, Bool.false_eq_true], hs.chg0⟩
  simp only [Bool.not_eq_false'] at hc
  have rng2 : rng2B r = true := by simp only [rng2B, Bool.and_eq_true]; exact ⟨c1, hc⟩
  have hgr : ∀ x ∈ r.group, -1000000 ≤ x ∧ x ≤ 1000000 := fun x hx => by
    have := inB_iff.1 (List.all_eq_true.1 hc x hx)
    omega
  clear c1 hc
  (refine q_seq (q_region (ql_pure tabOk rfl rfl ?_)); (iterate 2 refine ql_loadBa tabOk rfl rfl rfl ?_))
  (refine ql_callv tabOk rfl rfl rfl rfl (fun w hs => all_int w lo hi _ _ (ints r.first) (pI 0 r.total) (RdE.keep hf hs.chg0) (ints_one _) (by simp; omega) (chk2_p w b1 _ r _ r.first (hs.blk (by repeat constructor)) rfl)) ?_)
  rw [pI_all]
  (refine ql_pure tabOk rfl rfl (ql_pure tabOk rfl rfl ?_))
  refine ql_split rfl rfl (fun hc => ?_) (fun hc => ?_)
  · ((iterate 5 refine ql_gno rfl rfl rfl ?_); refine ql_pure tabOk rfl rfl (ql_pure tabOk rfl rfl (q_nil (q_cond_true rfl (q_seq (q_region (ql_pure tabOk rfl rfl (q_nil (q_ret ?_)))))))))
    refine q_fin tabOk rfl (by repeat constructor) fun w hs => ?_
    exact ⟨by simp only [Bool.not_eq_true'] at hc; simp only [retV, checkV, cnt, rng1, rng2, rng3B, hc, Bool.and_false, Bool.false_and, Bool.not_false, Bool.not_true, if_true, if_false, Bool.false_eq_true], hs.chg0⟩
  simp only [Bool.not_eq_false'] at hc
  have c1 := hc
  (refine ql_gyes rfl (ql_pure tabOk rfl rfl (ql_gyes rfl ?_)); refine ql_loadBa tabOk rfl rfl rfl ?_; refine ql_gyes rfl (ql_pure tabOk rfl rfl (ql_gyes rfl ?_)))
  (refine ql_callv tabOk rfl rfl rfl rfl (fun w hs => allR w lo hi _ _ r.next _ (hn.keep hs.chg0) (by omega) (chk5_p w lo hi b4 b1 _ _ r _ r.next (fun l hl => by have := hrows l hl; omega) (hs.blk (by repeat constructor)) (hs.blk (by repeat constructor)) rfl)) ?_)
  (refine ql_gyes rfl ?_; (iterate 3 refine ql_pure tabOk rfl rfl ?_); refine q_nil ?_)
  refine q_cond rfl (fun hc => ?_) (fun hc => ?_)
  · (refine q_seq (q_region (ql_pure tabOk rfl rfl (q_nil (q_ret ?_)))))
    refine q_fin tabOk rfl (by repeat constructor) fun w hs => ?_
    exact ⟨by simp only [Bool.not_eq_true'] at hc; simp only [retV, checkV, cnt, rng1, rng2, rng3B, hc, Bool.and_false, Bool.false_and, Bool.not_false, Bool.not_true, if_true, if_false, Bool.false_eq_true], hs.chg0⟩
  simp only [Bool.not_eq_false'] at hc
  have rng3 : rng3B r = true := by simp only [rng3B, Bool.and_eq_true]; exact ⟨c1, hc⟩
  have hfr : ∀ x ∈ r.first, -1000000 ≤ x ∧ x ≤ 1000000 := fun x hx => by
    have := inB_iff.1 (List.all_eq_true.1 c1 x hx)
    omega
  have hnr : ∀ l ∈ r.next, l.length < 1000000 ∧ ∀ x ∈ l, -1000000 ≤ x ∧ x ≤ 1000000 := fun l hl => ⟨by have := hrows l hl; omega, fun x hx => by
    have := inB_iff.1 (List.all_eq_true.1 (List.all_eq_true.1 hc l hl) x hx)
    omega⟩
  clear c1 hc
  (refine q_seq ?_)
  refine q_draw _ [] (Sp.refl _) (by kernel_rfl) (by kernel_rfl) ?_
  (refine qf_pure tabOk rfl rfl rfl ?_; refine qf_loadBa tabOk rfl rfl rfl ?_)
  refine qf_callv tabOk rfl rfl rfl rfl (fun w hs => sum_ca w lo hi _ r.group (RdE.keep hg hs.chg0) (by omega) hgr) ?_
  skip
  refine qf_callv tabOk rfl rfl rfl rfl (fun w hs => in_ca r.group.sum 1 100 w) ?_
  (refine qf_pure tabOk rfl rfl rfl (qf_pure tabOk rfl rfl rfl ?_))
  refine qf_split rfl rfl (fun hc => ?_) (fun hc => ?_)
  · ((iterate 6 refine qf_gno rfl rfl rfl ?_); refine qf_pure tabOk rfl rfl rfl (qf_pure tabOk rfl rfl rfl ?_); (iterate 5 refine qf_gno rfl rfl rfl ?_); refine qf_pure tabOk rfl rfl rfl (qf_pure tabOk rfl rfl rfl (qf_nil (q_cond_true rfl (q_seq (q_region (ql_pure tabOk rfl rfl (q_nil (q_ret ?_)))))))))
    refine q_fin tabOk rfl (by repeat constructor) fun w hs => ?_
    exact ⟨by simp at hc; simp [retV, checkV, cnt, rng1, rng2, rng3, cnfB, hc], hs.chg0⟩
  simp at hc
  have c1 := hc
  (refine qf_gyes rfl (qf_pure tabOk rfl rfl rfl (qf_gyes rfl ?_)); refine qf_loadBa tabOk rfl rfl rfl ?_; refine qf_gyes rfl ?_)
  refine qf_callv tabOk rfl rfl rfl rfl (fun w hs => sum_ca w lo hi _ r.first (RdE.keep hf hs.chg0) (by omega) hfr) ?_
  (refine qf_gyes rfl (qf_pure tabOk rfl rfl rfl (qf_gyes rfl ?_)); refine qf_loadBa tabOk rfl rfl rfl ?_; refine qf_gyes rfl ?_; (iterate 3 refine qf_pure tabOk rfl rfl rfl ?_))
  refine qf_split rfl rfl (fun hc => ?_) (fun hc => ?_)
  · ((iterate 5 refine qf_gno rfl rfl rfl ?_); refine qf_pure tabOk rfl rfl rfl (qf_pure tabOk rfl rfl rfl (qf_nil (q_cond_true rfl (q_seq (q_region (ql_pure tabOk rfl rfl (q_nil (q_ret ?_)))))))))
    refine q_fin tabOk rfl (by repeat constructor) fun w hs => ?_
    exact ⟨by simp at hc; simp [retV, checkV, cnt, rng1, rng2, rng3, cnfB, hc], hs.chg0⟩
  simp at hc
  have c2 := hc
  (refine qf_gyes rfl (qf_pure tabOk rfl rfl rfl (qf_gyes rfl ?_)); refine qf_loadBa tabOk rfl rfl rfl ?_; refine qf_gyes rfl (qf_pure tabOk rfl rfl rfl (qf_gyes rfl ?_)))
  refine qf_callv tabOk rfl rfl rfl rfl (fun w hs => allR w lo hi _ _ r.next _ (hn.keep hs.chg0) (by omega) (chk6_p w lo hi b1 _ r _ r.next hnr (hs.blk (by repeat constructor)) rfl)) ?_
  (refine qf_gyes rfl ?_; (iterate 3 refine qf_pure tabOk rfl rfl rfl ?_); refine qf_nil ?_)
  refine q_cond rfl (fun hc => ?_) (fun hc => ?_)
  · (refine q_seq (q_region (ql_pure tabOk rfl rfl (q_nil (q_ret ?_)))))
    refine q_fin tabOk rfl (by repeat constructor) fun w hs => ?_
    exact ⟨by simp only [Bool.not_eq_true'] at hc; simp only [retV, checkV, cnt, rng1, rng2, rng3, cnfB, hc, Bool.and_false, Bool.false_and, Bool.not_false, Bool.not_true, if_true, if_false, Bool.false_eq_true], hs.chg0⟩
  · simp only [Bool.not_eq_false'] at hc
    (refine q_skip (q_blk (q_seq (q_region (ql_pure tabOk rfl rfl (q_nil (q_ret ?_)))))))
    refine q_fin tabOk rfl (by repeat constructor) fun w hs => ?_
    refine ⟨?_, hs.chg0⟩
    have cnf : cnfB r = true := by
      simp only [cnfB, Bool.and_eq_true]
      exact ⟨⟨c1, by simpa using c2⟩, hc⟩
    simp [retV, checkV, cnt, rng1, rng2, rng3, cnf]
theorem right_check (r : Rg) : checkV r = 0 ↔ r.Right := by
  constructor
  · intro h
    have hc : cntB r = true ∧ rng1B r = true ∧ rng2B r = true ∧ rng3B r = true ∧ cnfB r = true := by
      unfold checkV at h
      cases h1 : cntB r <;> cases h2 : rng1B r <;> cases h3 : rng2B r <;> cases h4 : rng3B r <;> cases h5 : cnfB r <;> simp [h1, h2, h3, h4, h5] at h ⊢
    obtain ⟨h1, h2, h3, h4, h5⟩ := hc
    simp only [cntB, rng1B, rng2B, rng3B, cnfB, Bool.and_eq_true, inB_iff, Bool.not_eq_true', decide_eq_true_eq, decide_eq_false_iff_not, List.all_eq_true, Bool.and_true] at h1 h2 h3 h4 h5
    obtain ⟨⟨⟨⟨⟨a1, a2⟩, a3⟩, a4⟩, a5⟩, a6⟩ := h1
    obtain ⟨⟨⟨b1, b2⟩, b3⟩, b4⟩ := h2
    obtain ⟨⟨d1, d2⟩, d3⟩ := h5
    exact ⟨by omega, by omega, by omega, by omega, by omega, by omega, by omega, fun l hl => by have := a6 l hl; omega, b1, b2, b3, b4, h3.1, h3.2, h4.1, h4.2, d1, d2, d3⟩
  · intro h
    have h1 : cntB r = true := by
      simp only [cntB, Bool.and_eq_true, inB_iff, Bool.not_eq_true', decide_eq_true_eq, decide_eq_false_iff_not, List.all_eq_true, Bool.and_true]
      have e1 := h.g1; have e2 := h.g2; have e3 := h.odd; have e4 := h.d1; have e5 := h.d2; have e6 := h.first; have e7 := h.next
      exact ⟨⟨⟨⟨⟨by omega, by omega⟩, by omega⟩, by omega⟩, by omega⟩, fun l hl => by have := h.rows l hl; omega⟩
    have h2 : rng1B r = true := by
      simp only [rng1B, Bool.and_eq_true, inB_iff]
      exact ⟨⟨⟨h.radius, h.unit⟩, h.clicks⟩, h.total⟩
    have h3 : rng2B r = true := by
      simp only [rng2B, Bool.and_eq_true, inB_iff, List.all_eq_true]
      exact ⟨h.drift, h.weight⟩
    have h4 : rng3B r = true := by
      simp only [rng3B, Bool.and_eq_true, inB_iff, List.all_eq_true]
      exact ⟨h.chance, h.chances⟩
    have h5 : cnfB r = true := by
      simp only [cnfB, Bool.and_eq_true, inB_iff, List.all_eq_true, decide_eq_true_eq, Bool.and_true]
      exact ⟨⟨h.gsum, h.fsum⟩, h.nsum⟩
    simp [checkV, h1, h2, h3, h4, h5]
theorem sum_mono : ∀ (a b : List Int), a.length = b.length → (∀ i (h : i < a.length) (h' : i < b.length), a[i] ≤ b[i]) → a.sum ≤ b.sum
  | [], [], _, _ => by simp
  | x :: a, y :: b, hl, h => by
    have h0 := h 0 (by simp) (by simp)
    have ih := sum_mono a b (by simpa using hl) (fun i h1 h2 => by have := h (i + 1) (by simpa using h1) (by simpa using h2); simpa using this)
    simp at h0
    simp
    omega
theorem sum_nonneg' : ∀ (a : List Int), (∀ x ∈ a, 0 ≤ x) → 0 ≤ a.sum
  | [], _ => by simp
  | x :: a, h => by
    have h0 := h x List.mem_cons_self
    have ih := sum_nonneg' a (fun y hy => h y (List.mem_cons_of_mem _ hy))
    simp
    omega
theorem missS_bd (r : Rg) (hr : r.Right) (drift click : Int) : 0 ≤ missS r drift click ∧ missS r drift click ≤ r.group.sum := by
  constructor
  · refine sum_nonneg' _ (fun x hx => ?_)
    obtain ⟨k, hk, rfl⟩ := List.getElem_of_mem hx
    have hk' : k < r.group.length := by rwa [missL_length] at hk
    have := hr.weight r.group[k] (List.getElem_mem hk')
    rw [missL_get r drift click k hk']
    split <;> omega
  · refine sum_mono _ _ (missL_length r drift click) (fun k h h' => ?_)
    have := hr.weight r.group[k] (List.getElem_mem h')
    rw [missL_get r drift click k h']
    split <;> omega
theorem row_bd {r : Rg} (hr : r.Right) (k : Nat) : ∀ x ∈ r.next.getD k [], 0 ≤ x ∧ x ≤ 12 := by
  intro x hx
  by_cases h : k < r.next.length
  · simp only [List.getD_eq_getElem?_getD, List.getElem?_eq_getElem h, Option.getD_some] at hx
    have := hr.chances _ (List.getElem_mem h) x hx
    have := hr.total
    omega
  · simp [List.getD_eq_getElem?_getD, List.getElem?_eq_none (Nat.le_of_not_lt h)] at hx
theorem getD_bd {l : List Int} {B : Int} (hB : 0 ≤ B) (h : ∀ x ∈ l, 0 ≤ x ∧ x ≤ B) (k : Nat) : 0 ≤ l.getD k 0 ∧ l.getD k 0 ≤ B := by
  by_cases hk : k < l.length
  · simp only [List.getD_eq_getElem?_getD, List.getElem?_eq_getElem hk, Option.getD_some]
    exact h _ (List.getElem_mem hk)
  · simp only [List.getD_eq_getElem?_getD, List.getElem?_eq_none (Nat.le_of_not_lt hk), Option.getD_none]
    omega
theorem tot_bd (r : Rg) (hr : r.Right) : ∀ k, 1 ≤ r.total ^ k ∧ r.total ^ k ≤ 12 ^ k
  | 0 => by simp
  | k + 1 => by
    have h1 := tot_bd r hr k
    have h2 := hr.total
    have h3 := mul_bd0 (show 0 ≤ r.total ^ k ∧ r.total ^ k ≤ 12 ^ k by omega) (show 0 ≤ r.total ∧ r.total ≤ 12 by omega)
    have h4 : r.total ^ k * 1 ≤ r.total ^ k * r.total := Int.mul_le_mul_of_nonneg_left h2.1 (by omega)
    rw [Int.pow_succ, Int.pow_succ]
    omega
def sumR (f : Nat → Int) : Nat → Int
  | 0 => 0
  | n + 1 => sumR f n + f n
theorem sumR_mul (c : Int) (g : Nat → Int) : ∀ n, sumR (fun i => c * g i) n = c * sumR g n
  | 0 => by simp [sumR]
  | n + 1 => by rw [sumR, sumR, sumR_mul c g n, Int.mul_add]
theorem sumR_front (f : Nat → Int) : ∀ n, sumR f (n + 1) = f 0 + sumR (fun i => f (i + 1)) n
  | 0 => by simp [sumR]
  | n + 1 => by rw [sumR, sumR_front f n, sumR]; omega
theorem sumR_zero (f : Nat → Int) : ∀ n, (∀ i, i < n → f i = 0) → sumR f n = 0
  | 0, _ => rfl
  | n + 1, h => by rw [sumR, sumR_zero f n (fun i hi => h i (by omega)), h n (by omega)]; rfl
theorem sumR_getD : ∀ (l : List Int) n, l.length ≤ n → sumR (fun i => l.getD i 0) n = l.sum
  | [], n, _ => by rw [sumR_zero]; rfl; intro i _; simp
  | x :: l, 0, h => by simp at h
  | x :: l, n + 1, h => by
    rw [sumR_front, List.sum_cons]
    have := sumR_getD l n (by simpa using h)
    simp at this ⊢
    omega
theorem sumR_mono (f g : Nat → Int) : ∀ n, (∀ i, i < n → f i ≤ g i) → sumR f n ≤ sumR g n
  | 0, _ => by simp [sumR]
  | n + 1, h => by
    have h1 := sumR_mono f g n (fun i hi => h i (by omega))
    have h2 := h n (by omega)
    rw [sumR, sumR]
    omega
/-- A list of spans that can be read. -/
abbrev RdS (w : World) (lo hi : Nat) (v : Value) (l : List (Int × Int)) : Prop := RdE w lo hi v 2 (l.map rtV)
theorem RdS.outI {w : World} {lo hi : Nat} {v : Value} {l : List (Int × Int)} (h : RdS w lo hi v l) : ∃ a cap, v = .slice a l.length cap ∧ (0 < l.length → ∃ b off, a = some ⟨b, off, none⟩) := by
  have := RdE.out h
  simpa using this
theorem RdS.at {w : World} {lo hi b off len cap : Nat} {l : List (Int × Int)} (h : RdS w lo hi (.slice (some ⟨b, off, none⟩) len cap) l) (i : Nat) (hi : i < l.length) (j : Nat) (hj : j < 2) : w.cell? ⟨b, off + i * 2 + j, none⟩ = [Value.int .i64 l[i].1, Value.int .i64 l[i].2][j]? := by
  have := RdE.cell h i j (by simpa using hi) hj
  rw [this]
  simp [rtV, Value.cells]
theorem slI : SlT Try.prog 25 3 1 8 (.int .i64 0) := ⟨by kernel_rfl, by kernel_rfl, by kernel_rfl, by decide⟩
/-- Rules. -/
structure Ru where
  miss : Int
  click : Int
  wait : Int
  waits : Int
structure Ru.Right (p : Ru) : Prop where
  miss : 0 ≤ p.miss ∧ p.miss ≤ 6000
  click : 0 ≤ p.click ∧ p.click ≤ 600
  wait : 0 ≤ p.wait ∧ p.wait ≤ 600
  waits : 0 ≤ p.waits ∧ p.waits ≤ 3
def partsV (r : Rg) (shot wt : Nat) : Int := r.group.sum * r.total ^ (4 - shot + wt)
def folS (r : Rg) (f : Nat → Int) (st : Nat) : Int := sumR (fun t => (r.next.getD st []).getD t 0 * f t) r.drifts.length
/-- What is to be expected of a shot, if g are the values behind it. -/
def shootV (r : Rg) (p : Ru) (g : Nat → Int → Int) (shot wt st : Nat) (cl click : Int) : Int :=
  p.click * max (click - cl) (cl - click) * partsV r shot wt + p.miss * missS r (r.drifts.getD st 0) click * (partsV r shot wt / r.group.sum) + (if shot < 4 then folS r (fun t => g t click) st else 0)
def waitV (r : Rg) (p : Ru) (h : Nat → Int → Int) (shot wt st : Nat) (cl : Int) : Int := p.wait * partsV r shot wt + folS r (fun t => h t cl) st
def chStep (r : Rg) (p : Ru) (g : Nat → Int → Int) (shot wt st : Nat) (cl : Int) (s : Int × Int) (c : Int) : Int × Int := if shootV r p g shot wt st cl c < s.2 then (c, shootV r p g shot wt st cl c) else s
def chClick (r : Rg) (p : Ru) (g : Nat → Int → Int) (shot wt st : Nat) (cl : Int) : Int × Int := (clickL r.clicks cl).foldl (chStep r p g shot wt st cl) (cl, shootV r p g shot wt st cl cl)
/-- The best choice (to wait; the click), and what is to be expected. -/
def chV (r : Rg) (p : Ru) (g h : Nat → Int → Int) (shot wt st : Nat) (cl : Int) : (Bool × Int) × Int :=
  let s := chClick r p g shot wt st cl
  if 0 < wt then (if waitV r p h shot wt st cl < s.2 then ((true, 0), waitV r p h shot wt st cl) else ((false, s.1), s.2)) else ((false, s.1), s.2)
def allC (C : Int) : List Int := (List.range (2 * C + 1).toNat).map fun (i : Nat) => (i : Int) - C
def getT (C : Int) (t : List (List Int)) (st : Nat) (cl : Int) : Int := (t.getD st []).getD (cl + C).toNat 0
def lev (r : Rg) (p : Ru) (g h : Nat → Int → Int) (shot wt : Nat) : List (List Int) := (List.range r.drifts.length).map fun st => (allC r.clicks).map fun cl => (chV r p g h shot wt st cl).2
def levW (r : Rg) (p : Ru) (shot : Nat) (prev : List (List (List Int))) : Nat → List (List (List Int))
  | 0 => []
  | k + 1 => let l := levW r p shot prev k; l ++ [lev r p (getT r.clicks (prev.getD k [])) (getT r.clicks (l.getD (k - 1) [])) shot k]
def tabV (r : Rg) (p : Ru) : Nat → List (List (List Int))
  | 0 => levW r p 4 [] (p.waits + 1).toNat
  | m + 1 => levW r p (4 - (m + 1)) (tabV r p m) (p.waits + 1).toNat
/-- The value of a situation; 0 behind the last shot. -/
def valV (r : Rg) (p : Ru) (shot wt st : Nat) (cl : Int) : Int := if shot < 5 then getT r.clicks ((tabV r p (4 - shot)).getD wt []) st cl else 0
def choV (r : Rg) (p : Ru) (shot wt st : Nat) (cl : Int) : (Bool × Int) × Int := chV r p (valV r p (shot + 1) wt) (valV r p shot (wt - 1)) shot wt st cl
theorem levW_length (r : Rg) (p : Ru) (shot : Nat) (prev : List (List (List Int))) : ∀ k, (levW r p shot prev k).length = k
  | 0 => rfl
  | k + 1 => by simp [levW, levW_length r p shot prev k]
theorem levW_getD (r : Rg) (p : Ru) (shot : Nat) (prev : List (List (List Int))) : ∀ n k, k < n → (levW r p shot prev n).getD k [] = lev r p (getT r.clicks (prev.getD k [])) (getT r.clicks ((levW r p shot prev n).getD (k - 1) [])) shot k ∨ k = 0 ∧ (levW r p shot prev n).getD 0 [] = lev r p (getT r.clicks (prev.getD 0 [])) (getT r.clicks []) shot 0
  | 0, k, h => by omega
  | n + 1, k, h => by
    have hl := levW_length r p shot prev n
    by_cases hk : k < n
    · have ih := levW_getD r p shot prev n k hk
      have e : ∀ j, j < n → (levW r p shot prev (n + 1)).getD j [] = (levW r p shot prev n).getD j [] := fun j hj => by
        simp only [levW, List.getD_eq_getElem?_getD]
        rw [List.getElem?_append_left (by omega)]
      rw [e k hk, e (k - 1) (by omega), e 0 (by omega)]
      exact ih
    · obtain rfl : k = n := by omega
      have e0 : (levW r p shot prev (k + 1)).getD k [] = lev r p (getT r.clicks (prev.getD k [])) (getT r.clicks ((levW r p shot prev k).getD (k - 1) [])) shot k := by
        simp only [levW, List.getD_eq_getElem?_getD]
        rw [List.getElem?_append_right (by omega), hl]
        simp
      cases k with
      | zero => exact .inr ⟨rfl, e0⟩
      | succ j =>
        refine .inl ?_
        rw [e0]
        congr 2
        simp only [Nat.add_sub_cancel]
        rw [show levW r p shot prev (j + 1 + 1) = levW r p shot prev (j + 1) ++ [lev r p (getT r.clicks (prev.getD (j + 1) [])) (getT r.clicks ((levW r p shot prev (j + 1)).getD j [])) shot (j + 1)] from rfl]
        simp only [List.getD_eq_getElem?_getD]
        rw [List.getElem?_append_left (by omega)]
theorem lev_get (r : Rg) (p : Ru) (g h : Nat → Int → Int) (shot wt st : Nat) (cl : Int) (hs : st < r.drifts.length) (hc : -r.clicks ≤ cl ∧ cl ≤ r.clicks) : getT r.clicks (lev r p g h shot wt) st cl = (chV r p g h shot wt st cl).2 := by
  have h1 : (cl + r.clicks).toNat < (2 * r.clicks + 1).toNat := by omega
  have h2 : ((cl + r.clicks).toNat : Int) - r.clicks = cl := by omega
  have h3 : max (cl + r.clicks) 0 - r.clicks = cl := by omega
  simp [getT, lev, allC, hs, h1, h3]
theorem chV_h0 (r : Rg) (p : Ru) (g h h' : Nat → Int → Int) (shot st : Nat) (cl : Int) : chV r p g h shot 0 st cl = chV r p g h' shot 0 st cl := by simp [chV]
theorem chClick_g4 (r : Rg) (p : Ru) (g g' : Nat → Int → Int) (wt st : Nat) (cl : Int) : chClick r p g 4 wt st cl = chClick r p g' 4 wt st cl := by
  have : chStep r p g 4 wt st cl = chStep r p g' 4 wt st cl := by
    funext s c
    simp [chStep, shootV]
  simp only [chClick, this]
  simp [shootV]
theorem chV_g4 (r : Rg) (p : Ru) (g g' h : Nat → Int → Int) (wt st : Nat) (cl : Int) : chV r p g h 4 wt st cl = chV r p g' h 4 wt st cl := by
  simp only [chV, chClick_g4 r p g g']
/-- The value of a situation is what the best choice costs. -/
theorem valV_eq (r : Rg) (p : Ru) (shot wt st : Nat) (cl : Int) (h5 : shot < 5) (hw : (wt : Int) ≤ p.waits) (hs : st < r.drifts.length) (hc : -r.clicks ≤ cl ∧ cl ≤ r.clicks) : valV r p shot wt st cl = (choV r p shot wt st cl).2 := by
  obtain ⟨m, hm⟩ : ∃ m, 4 - shot = m := ⟨_, rfl⟩
  have hwn : wt < (p.waits + 1).toNat := by omega
  unfold valV choV
  rw [if_pos h5, hm]
  cases m with
  | zero =>
    obtain rfl : shot = 4 := by omega
    rcases levW_getD r p 4 [] _ wt hwn with h | ⟨rfl, h⟩
    · rw [tabV, h, lev_get r p _ _ 4 wt st cl hs hc]
      rw [chV_g4 r p _ (valV r p (4 + 1) wt)]
      rfl
    · rw [tabV, h, lev_get r p _ _ 4 0 st cl hs hc]
      rw [chV_g4 r p _ (valV r p (4 + 1) 0), chV_h0 r p _ _ (valV r p 4 (0 - 1))]
  | succ m =>
    have hsh : shot = 4 - (m + 1) := by omega
    have hm4 : m + 1 ≤ 4 := by omega
    have eg : getT r.clicks ((tabV r p m).getD wt []) = valV r p (shot + 1) wt := by
      funext t c
      simp only [valV]
      rw [if_pos (by omega), show 4 - (shot + 1) = m by omega]
    rcases levW_getD r p (4 - (m + 1)) (tabV r p m) _ wt hwn with h | ⟨rfl, h⟩
    · rw [tabV, h, lev_get r p _ _ _ wt st cl hs hc, eg, ← hsh]
      congr 1
      congr 1
      funext t c
      simp only [valV]
      rw [if_pos h5, hm, tabV, ← hsh]
    · rw [tabV, h, lev_get r p _ _ _ 0 st cl hs hc, eg, ← hsh]
      rw [chV_h0 r p _ _ (valV r p shot (0 - 1))]
theorem slII : SlT Try.prog 26 25 1 24 (.slice none 0 0) := ⟨by kernel_rfl, by kernel_rfl, by kernel_rfl, by decide⟩
/-- Lists, each in a block of its own. -/
def rowsK (xs : List (Nat × List Int)) : List Ck := xs.map fun p => .pt p.1 (ints p.2) 3
def rowsV (xs : List (Nat × List Int)) : List Value := xs.map fun p => .slice (some ⟨p.1, 0, none⟩) p.2.length p.2.length
end Go.Proofs.Ytgmmmkmekbiboab

/- Taken over from wind: what Q10:follow_ca,Q9:chooseF_ca,D5:shared_ca,D4:of_ca,D8:btw0,D8:drw0,H1:OwnR.form2,U0:OwnR.at,D7:made_ca reach. Written by graft.py. -/
namespace Go.Proofs.Ytgmmmkmekbiboab
open Go Go.Eng
theorem parts_div (r : Rg) (hr : r.Right) (shot wt : Nat) : partsV r shot wt / r.group.sum = r.total ^ (4 - shot + wt) := by
  have := hr.gsum
  unfold partsV
  exact Int.mul_ediv_cancel_left _ (by omega)
theorem tot7 (r : Rg) (hr : r.Right) (k : Nat) (hk : k ≤ 7) : 1 ≤ r.total ^ k ∧ r.total ^ k ≤ 35831808 := by
  have h1 := tot_bd r hr k
  have h2 : (12 : Int) ^ k ≤ 12 ^ 7 := by
    have : (12 : Nat) ^ k ≤ 12 ^ 7 := Nat.pow_le_pow_right (by omega) hk
    exact_mod_cast this
  have h3 : (12 : Int) ^ 7 = 35831808 := by decide
  omega
theorem parts_bd (r : Rg) (hr : r.Right) (shot wt : Nat) (hw : wt ≤ 3) : 1 ≤ partsV r shot wt ∧ partsV r shot wt ≤ 3583180800 := by
  have h1 := tot7 r hr (4 - shot + wt) (by omega)
  have h2 := hr.gsum
  have h3 : 0 ≤ partsV r shot wt ∧ partsV r shot wt ≤ 100 * 35831808 := mul_bd0 (by omega) (by omega)
  have h4 : 1 * 1 ≤ partsV r shot wt := Int.mul_le_mul h2.1 h1.1 (by omega) (by omega)
  omega
theorem parts_shot (r : Rg) (shot wt : Nat) (h : shot < 4) : partsV r shot wt = r.total * partsV r (shot + 1) wt := by
  unfold partsV
  rw [show 4 - shot + wt = (4 - (shot + 1) + wt) + 1 by omega, Int.pow_succ, Int.mul_comm r.total, Int.mul_assoc]
theorem next_bd (r : Rg) (hr : r.Right) (st t : Nat) : 0 ≤ (r.next.getD st []).getD t 0 ∧ (r.next.getD st []).getD t 0 ≤ 12 := getD_bd (by omega) (row_bd hr st) t
theorem sumR_bd (f : Nat → Int) (B : Int) : ∀ n, (∀ i, i < n → 0 ≤ f i ∧ f i ≤ B) → 0 ≤ sumR f n ∧ sumR f n ≤ B * n
  | 0, _ => by simp [sumR]
  | n + 1, h => by
    have ih := sumR_bd f B n (fun i hi => h i (by omega))
    have h1 := h n (by omega)
    have e : B * ((n + 1 : Nat) : Int) = B * n + B := by simp [Int.mul_add]
    rw [e, sumR]
    omega
theorem fol_bd (r : Rg) (hr : r.Right) (f : Nat → Int) (B : Int) (hB : ∀ t, t < r.drifts.length → 0 ≤ f t ∧ f t ≤ B) (st n : Nat) (hn : n ≤ r.drifts.length) : 0 ≤ sumR (fun t => (r.next.getD st []).getD t 0 * f t) n ∧ sumR (fun t => (r.next.getD st []).getD t 0 * f t) n ≤ 12 * B * n :=
  sumR_bd _ _ n (fun i hi => mul_bd0 (next_bd r hr st i) (hB i (by omega)))
/-- A row's weights times values that are not above B. -/
theorem fol_tot (r : Rg) (hr : r.Right) (f : Nat → Int) (B : Int) (hB : ∀ t, t < r.drifts.length → 0 ≤ f t ∧ f t ≤ B) (st : Nat) (hs : st < r.drifts.length) : 0 ≤ folS r f st ∧ folS r f st ≤ r.total * B := by
  refine ⟨(fol_bd r hr f B hB st _ (Nat.le_refl _)).1, ?_⟩
  have hn : st < r.next.length := by rw [hr.next]; exact hs
  have hrow : r.next.getD st [] = r.next[st] := by simp [hn]
  have hlen := hr.rows _ (List.getElem_mem hn)
  have hsum := hr.nsum _ (List.getElem_mem hn)
  have h1 : folS r f st ≤ sumR (fun t => B * (r.next.getD st []).getD t 0) r.drifts.length := sumR_mono _ _ _ (fun i hi => by
    rw [Int.mul_comm B]
    exact Int.mul_le_mul_of_nonneg_left (hB i hi).2 (next_bd r hr st i).1)
  rw [sumR_mul, sumR_getD _ _ (by rw [hrow]; omega), hrow, hsum, Int.mul_comm B] at h1
  exact h1
theorem far_bd {C cl click : Int} (hC : C ≤ 6) (h1 : -C ≤ cl ∧ cl ≤ C) (h2 : -C ≤ click ∧ click ≤ C) : 0 ≤ max (click - cl) (cl - click) ∧ max (click - cl) (cl - click) ≤ 12 := by omega
theorem shoot_bd (r : Rg) (hr : r.Right) (p : Ru) (hp : p.Right) (g : Nat → Int → Int) (B : Int) (hB0 : 0 ≤ B) (hB : ∀ t c, t < r.drifts.length → -r.clicks ≤ c ∧ c ≤ r.clicks → 0 ≤ g t c ∧ g t c ≤ B) (shot wt st : Nat) (hw : wt ≤ 3) (cl click : Int) (h1 : -r.clicks ≤ cl ∧ cl ≤ r.clicks) (h2 : -r.clicks ≤ click ∧ click ≤ r.clicks) :
    0 ≤ shootV r p g shot wt st cl click ∧ shootV r p g shot wt st cl click ≤ 50000000000000 + 60 * B := by
  have hpt := parts_bd r hr shot wt hw
  have hms := missS_bd r hr (r.drifts.getD st 0) click
  have hg := hr.gsum
  have hd := parts_div r hr shot wt
  have ht := tot7 r hr (4 - shot + wt) (by omega)
  have a1 := mul_bd0 hp.click (far_bd hr.clicks.2 h1 h2)
  have a2 := mul_bd0 a1 (show 0 ≤ partsV r shot wt ∧ partsV r shot wt ≤ 3583180800 by omega)
  have b1 := mul_bd0 hp.miss (show 0 ≤ missS r (r.drifts.getD st 0) click ∧ missS r (r.drifts.getD st 0) click ≤ 100 by omega)
  have b2 := mul_bd0 b1 (show 0 ≤ partsV r shot wt / r.group.sum ∧ partsV r shot wt / r.group.sum ≤ 35831808 by omega)
  have c1 : 0 ≤ folS r (fun t => g t click) st ∧ folS r (fun t => g t click) st ≤ 12 * B * (r.drifts.length : Int) := fol_bd r hr (fun t => g t click) B (fun t ht => hB t click ht h2) st r.drifts.length (Nat.le_refl _)
  have c2 : 12 * B * (r.drifts.length : Int) ≤ 12 * B * 5 := Int.mul_le_mul_of_nonneg_left (by have := hr.d2; omega) (by omega)
  unfold shootV
  split
  · omega
  · omega
theorem fold_best (sv : Int → Int) : ∀ (l : List Int) (s : Int × Int), s.2 = sv s.1 → (l.foldl (fun s c => if sv c < s.2 then (c, sv c) else s) s).2 = sv (l.foldl (fun s c => if sv c < s.2 then (c, sv c) else s) s).1 ∧ (l.foldl (fun s c => if sv c < s.2 then (c, sv c) else s) s).2 ≤ s.2 ∧ (∀ c ∈ l, (l.foldl (fun s c => if sv c < s.2 then (c, sv c) else s) s).2 ≤ sv c) ∧ ((l.foldl (fun s c => if sv c < s.2 then (c, sv c) else s) s).1 = s.1 ∨ (l.foldl (fun s c => if sv c < s.2 then (c, sv c) else s) s).1 ∈ l)
  | [], s, hs => ⟨hs, Int.le_refl _, by simp, .inl rfl⟩
  | c :: l, s, hs => by
    rw [List.foldl_cons]
    by_cases h : sv c < s.2
    · rw [if_pos h]
      obtain ⟨h1, h2, h3, h4⟩ := fold_best sv l (c, sv c) rfl
      refine ⟨h1, by simp only at h2; omega, fun d hd => ?_, .inr ?_⟩
      · rcases List.mem_cons.1 hd with rfl | hd
        · exact h2
        · exact h3 d hd
      · rcases h4 with h4 | h4
        · rw [h4]; exact List.mem_cons_self
        · exact List.mem_cons_of_mem _ h4
    · rw [if_neg h]
      obtain ⟨h1, h2, h3, h4⟩ := fold_best sv l s hs
      refine ⟨h1, h2, fun d hd => ?_, ?_⟩
      · rcases List.mem_cons.1 hd with rfl | hd
        · omega
        · exact h3 d hd
      · rcases h4 with h4 | h4
        · exact .inl h4
        · exact .inr (List.mem_cons_of_mem _ h4)
theorem chClick_spec (r : Rg) (p : Ru) (g : Nat → Int → Int) (shot wt st : Nat) (cl : Int) (hc : -r.clicks ≤ cl ∧ cl ≤ r.clicks) : (chClick r p g shot wt st cl).2 = shootV r p g shot wt st cl (chClick r p g shot wt st cl).1 ∧ (-r.clicks ≤ (chClick r p g shot wt st cl).1 ∧ (chClick r p g shot wt st cl).1 ≤ r.clicks) ∧
    (∀ c, c ∈ clickL r.clicks cl → (chClick r p g shot wt st cl).2 ≤ shootV r p g shot wt st cl c) ∧ (chClick r p g shot wt st cl).2 ≤ shootV r p g shot wt st cl cl := by
  obtain ⟨h1, h2, h3, h4⟩ := fold_best (shootV r p g shot wt st cl) (clickL r.clicks cl) (cl, shootV r p g shot wt st cl cl) rfl
  refine ⟨h1, ?_, h3, h2⟩
  rcases h4 with h4 | h4
  · have e : (chClick r p g shot wt st cl).1 = cl := h4
    omega
  · exact inB_iff.1 (clickL_in _ _ (inB_iff.2 hc) _ h4)
theorem wait_bd (r : Rg) (hr : r.Right) (p : Ru) (hp : p.Right) (h : Nat → Int → Int) (B : Int) (hB0 : 0 ≤ B) (hB : ∀ t c, t < r.drifts.length → -r.clicks ≤ c ∧ c ≤ r.clicks → 0 ≤ h t c ∧ h t c ≤ B) (shot wt st : Nat) (hw : wt ≤ 3) (cl : Int) (h1 : -r.clicks ≤ cl ∧ cl ≤ r.clicks) :
    0 ≤ waitV r p h shot wt st cl ∧ waitV r p h shot wt st cl ≤ 50000000000000 + 60 * B := by
  have hpt := parts_bd r hr shot wt hw
  have a1 := mul_bd0 hp.wait (show 0 ≤ partsV r shot wt ∧ partsV r shot wt ≤ 3583180800 by omega)
  have c1 : 0 ≤ folS r (fun t => h t cl) st ∧ folS r (fun t => h t cl) st ≤ 12 * B * (r.drifts.length : Int) := fol_bd r hr (fun t => h t cl) B (fun t ht => hB t cl ht h1) st r.drifts.length (Nat.le_refl _)
  have c2 : 12 * B * (r.drifts.length : Int) ≤ 12 * B * 5 := Int.mul_le_mul_of_nonneg_left (by have := hr.d2; omega) (by omega)
  unfold waitV
  omega
theorem chV_nonneg {wt : Nat} (r : Rg) (hr : r.Right) (p : Ru) (hp : p.Right) (g h : Nat → Int → Int) (B : Int) (hB0 : 0 ≤ B) (hg : ∀ t c, t < r.drifts.length → -r.clicks ≤ c ∧ c ≤ r.clicks → 0 ≤ g t c ∧ g t c ≤ B) (hh : 0 < wt → ∀ t c, t < r.drifts.length → -r.clicks ≤ c ∧ c ≤ r.clicks → 0 ≤ h t c ∧ h t c ≤ B) (shot st : Nat) (hw : wt ≤ 3) (cl : Int) (hc : -r.clicks ≤ cl ∧ cl ≤ r.clicks) : 0 ≤ (chV r p g h shot wt st cl).2 := by
  obtain ⟨h1, h2, _⟩ := chClick_spec r p g shot wt st cl hc
  have h3 := shoot_bd r hr p hp g B hB0 hg shot wt st hw cl _ hc h2
  unfold chV
  simp only
  split
  · have h4 := wait_bd r hr p hp h B hB0 (hh (by assumption)) shot wt st hw cl hc
    split
    · exact h4.1
    · simp only; omega
  · simp only; omega
theorem chV_le (r : Rg) (p : Ru) (g h : Nat → Int → Int) (shot wt st : Nat) (cl : Int) (hc : -r.clicks ≤ cl ∧ cl ≤ r.clicks) : (chV r p g h shot wt st cl).2 ≤ (chClick r p g shot wt st cl).2 := by
  unfold chV
  simp only
  split
  · split
    · omega
    · exact Int.le_refl _
  · exact Int.le_refl _
theorem valV_bd1 (r : Rg) (hr : r.Right) (p : Ru) (hp : p.Right) (m wt shot st : Nat) (cl : Int) (hm : 5 - shot = m + 1) (hw : (wt : Int) ≤ p.waits) (hs : st < r.drifts.length) (hc : -r.clicks ≤ cl ∧ cl ≤ r.clicks)
    (hg : ∀ t c, t < r.drifts.length → -r.clicks ≤ c ∧ c ≤ r.clicks → 0 ≤ valV r p (shot + 1) wt t c ∧ valV r p (shot + 1) wt t c ≤ 6000 * m * partsV r (shot + 1) wt)
    (hh : 0 < wt → ∀ t c, t < r.drifts.length → -r.clicks ≤ c ∧ c ≤ r.clicks → 0 ≤ valV r p shot (wt - 1) t c ∧ valV r p shot (wt - 1) t c ≤ 6000 * (m + 1 : Nat) * partsV r shot (wt - 1)) : 0 ≤ valV r p shot wt st cl ∧ valV r p shot wt st cl ≤ 6000 * (m + 1 : Nat) * partsV r shot wt := by
  have hw3 : wt ≤ 3 := by have := hp.waits; omega
  have hp1 := parts_bd r hr (shot + 1) wt hw3
  have hp2 := parts_bd r hr shot (wt - 1) (by omega)
  have hp3 := parts_bd r hr shot wt hw3
  have hm5 : (m : Int) ≤ 4 := by omega
  have hb1 : 6000 * (m : Int) * partsV r (shot + 1) wt ≤ 30000 * 3583180800 := (mul_bd0 (show 0 ≤ 6000 * (m : Int) ∧ 6000 * (m : Int) ≤ 30000 by omega) (show 0 ≤ partsV r (shot + 1) wt ∧ _ by exact ⟨by omega, hp1.2⟩)).2
  have hb2 : 6000 * ((m + 1 : Nat) : Int) * partsV r shot (wt - 1) ≤ 30000 * 3583180800 := (mul_bd0 (show 0 ≤ 6000 * ((m + 1 : Nat) : Int) ∧ 6000 * ((m + 1 : Nat) : Int) ≤ 30000 by omega) (show 0 ≤ partsV r shot (wt - 1) ∧ _ by exact ⟨by omega, hp2.2⟩)).2
  rw [valV_eq r p shot wt st cl (by omega) hw hs hc]
  refine ⟨chV_nonneg r hr p hp _ _ (30000 * 3583180800) (by omega) (fun t c ht hc => by have := hg t c ht hc; omega) (fun h0 t c ht hc => by have := hh h0 t c ht hc; omega) shot st hw3 cl hc, ?_⟩
  refine Int.le_trans (chV_le r p _ _ shot wt st cl hc) (Int.le_trans (chClick_spec r p _ shot wt st cl hc).2.2.2 ?_)
  have hd := parts_div r hr shot wt
  have ht := tot7 r hr (4 - shot + wt) (by omega)
  have hms := missS_bd r hr (r.drifts.getD st 0) cl
  have h1 : p.miss * missS r (r.drifts.getD st 0) cl * (partsV r shot wt / r.group.sum) ≤ 6000 * partsV r shot wt := by
    rw [hd]
    unfold partsV
    rw [← Int.mul_assoc]
    exact Int.mul_le_mul_of_nonneg_right (Int.mul_le_mul hp.miss.2 hms.2 hms.1 (by omega)) (by omega)
  unfold shootV
  rw [show max (cl - cl) (cl - cl) = 0 by omega, Int.mul_zero, Int.zero_mul, Int.zero_add]
  have e1 : 6000 * ((m + 1 : Nat) : Int) * partsV r shot wt = 6000 * m * partsV r shot wt + 6000 * partsV r shot wt := by
    rw [Int.natCast_add, Int.mul_add, Int.add_mul]
    simp
  rw [e1]
  split
  · have h2 := (fol_tot r hr (fun t => valV r p (shot + 1) wt t cl) (6000 * m * partsV r (shot + 1) wt) (fun t ht => hg t cl ht hc) st hs).2
    have e2 : r.total * (6000 * m * partsV r (shot + 1) wt) = 6000 * m * partsV r shot wt := by
      rw [parts_shot r shot wt (by assumption), Int.mul_left_comm]
    omega
  · have : 0 ≤ 6000 * (m : Int) * partsV r shot wt := Int.mul_nonneg (by omega) (by omega)
    omega
/-- Values are not below 0, and not above what five misses cost. -/
theorem valV_bd (r : Rg) (hr : r.Right) (p : Ru) (hp : p.Right) : ∀ (m wt shot st : Nat) (cl : Int), 5 - shot = m → (wt : Int) ≤ p.waits → st < r.drifts.length → -r.clicks ≤ cl ∧ cl ≤ r.clicks → 0 ≤ valV r p shot wt st cl ∧ valV r p shot wt st cl ≤ 6000 * m * partsV r shot wt := by
  intro m
  induction m with
  | zero =>
    intro wt shot st cl hm hw hs hc
    rw [valV, if_neg (by omega)]
    simp
  | succ m ih =>
    intro wt
    induction wt with
    | zero =>
      intro shot st cl hm hw hs hc
      exact valV_bd1 r hr p hp m 0 shot st cl hm hw hs hc (fun t c ht hc => ih 0 (shot + 1) t c (by omega) hw ht hc) (fun h => by omega)
    | succ wt ihw =>
      intro shot st cl hm hw hs hc
      exact valV_bd1 r hr p hp m (wt + 1) shot st cl hm hw hs hc (fun t c ht hc => ih (wt + 1) (shot + 1) t c (by omega) hw ht hc) (fun _ t c ht hc => ihw shot t c hm (by omega) ht hc)
abbrev k4 : List (Option IntKind) := [some .i64, some .i64, some .i64, some .i64]
theorem plc_flat : flatB Try.prog 69 k4 = true := by kernel_rfl
theorem plc_key : KeyT Try.prog 69 (keyF k4) eqV := keyT_flat plc_flat
theorem plc_map : Try.prog.underlying 73 = some (.map 69 3) := by kernel_rfl
theorem zero_int : ZeroOf Try.prog 3 (.int .i64 0) := ⟨by kernel_rfl⟩
/-- A situation. -/
abbrev plcV (a b c d : Int) : Value := .agg #[.int .i64 a, .int .i64 b, .int .i64 c, .int .i64 d]
theorem plcV_key (a b c d : Int) : keyF k4 (plcV a b c d) := ⟨[.int .i64 a, .int .i64 b, .int .i64 c, .int .i64 d], rfl, rfl⟩
/-- Values of situations. -/
abbrev Vf := Int → Int → Int → Int → Option Int
def liftF (vf : Vf) : Value → Option Value
  | .agg cs => match cs.toList with
    | [.int _ a, .int _ b, .int _ c, .int _ d] => (vf a b c d).map (Value.int .i64)
    | _ => none
  | _ => none
theorem liftF_get (vf : Vf) (a b c d : Int) : (liftF vf (plcV a b c d)).getD (.int .i64 0) = .int .i64 ((vf a b c d).getD 0) := by
  show ((vf a b c d).map (Value.int .i64)).getD _ = _
  cases vf a b c d <;> rfl
theorem liftF_some (vf : Vf) (a b c d : Int) : (liftF vf (plcV a b c d)).isSome = (vf a b c d).isSome := by
  show ((vf a b c d).map (Value.int .i64)).isSome = _
  cases vf a b c d <;> rfl
/-- A plan in block bp, with its desk in bd and its map in bm. -/
def PlAt (w : World) (bp bd bm : Nat) (r : Rg) (p : Ru) : Prop := ∃ t, Blk w bp [.pointer (some ⟨bd, 0, none⟩), .int .i64 p.miss, .int .i64 p.click, .int .i64 p.wait, .int .i64 p.waits, .map (some bm)] t ∧ DkAt w bd r
theorem PlAt.keep {w w' : World} {bp bd bm : Nat} {r : Rg} {p : Ru} (h : PlAt w bp bd bm r p) (c : Chg [] w w') : PlAt w' bp bd bm r p := by
  obtain ⟨t, h1, h2⟩ := h
  exact ⟨t, h1.keep c, h2.keep c⟩
/-- The error of a range and rules. -/
def rulesV (r : Rg) (p : Ru) : Int := if checkV r ≠ 0 then checkV r else if !(inB p.miss 0 6000) then 3 else if !(inB p.click 0 600) then 3 else if !(inB p.wait 0 600) then 3 else if !(inB p.waits 0 3) then 3 else 0
theorem rules_iff (r : Rg) (p : Ru) : rulesV r p = 0 ↔ checkV r = 0 ∧ p.Right := by
  unfold rulesV
  constructor
  · intro h
    split at h
    · contradiction
    rename_i h0
    split at h
    · cases h
    rename_i h1
    split at h
    · cases h
    rename_i h2
    split at h
    · cases h
    rename_i h3
    split at h
    · cases h
    rename_i h4
    exact ⟨by simpa using h0, inB_iff.1 (by simpa using h1), inB_iff.1 (by simpa using h2), inB_iff.1 (by simpa using h3), inB_iff.1 (by simpa using h4)⟩
  · rintro ⟨h0, h1⟩
    rw [if_neg (by simpa using h0), inB_iff.2 h1.miss, inB_iff.2 h1.click, inB_iff.2 h1.wait, inB_iff.2 h1.waits]
    rfl
set_option maxHeartbeats 1000000 in
theorem chkRules_ca (w : World) (cs : List Value) (r : Rg) (p : Ru) (h : RgC w cs r) (hsm : r.Small) : Ca Try.prog 26 [.agg cs.toArray, .agg #[.int .i64 p.miss, .int .i64 p.click, .int .i64 p.wait, .int .i64 p.waits]] w fun v w' => v = .int .i64 (rulesV r p) ∧ Chg [] w w' := by
  have h0 := h
  obtain ⟨lo, hi, ag, cg, ad, cd, af, cf, an, cn, rfl, hg, hdr, hf, hn⟩ := h
  refine q_of (Sat.nil w M0) Try.func26 rfl (by simp [Try.ntmps26]) ?_
  (refine q_seq (q_region ?_))
  refine ql_box rfl rfl (fun b2 => ?_)
  skip
  refine ql_box rfl rfl (fun b3 => ?_)
  (refine ql_pure tabOk rfl rfl (q_nil (q_seq (q_region ?_))); refine ql_loadABa tabOk rfl rfl rfl ?_)
  refine ql_callv (val := .int .i64 (checkV r)) tabOk rfl rfl rfl rfl (fun w hs => ?_) ?_; exact check_ca w _ r (h0.keep hs.chg0) hsm
  (refine ql_pure tabOk rfl rfl (q_nil (q_seq (q_seq (q_region ?_)))); (iterate 3 refine ql_pure tabOk rfl rfl ?_))
  by_cases hc0 : checkV r = 0
  · rw [decide_eq_true hc0]
    (refine ql_gyes rfl (ql_pure tabOk rfl rfl (ql_gyes rfl ?_)); refine ql_loadBa tabOk rfl rfl rfl ?_; refine ql_gyes rfl ?_)
    refine ql_callv (val := .bool (inB p.miss 0 6000)) tabOk rfl rfl rfl rfl (fun w hs => ?_) ?_; exact in_ca _ _ _ w
    cases h1 : inB p.miss 0 6000 with
    | false =>
      (refine ql_gyes rfl (ql_pure tabOk rfl rfl (ql_gyes rfl (ql_pure tabOk rfl rfl ?_))); (iterate 4 refine ql_gno rfl rfl rfl ?_); refine ql_gyes rfl (ql_pure tabOk rfl rfl (ql_gyes rfl (ql_pure tabOk rfl rfl ?_))); (iterate 4 refine ql_gno rfl rfl rfl ?_); refine ql_gyes rfl (ql_pure tabOk rfl rfl (ql_gyes rfl (ql_pure tabOk rfl rfl ?_))); (iterate 4 refine ql_gno rfl rfl rfl ?_); refine ql_gyes rfl (ql_pure tabOk rfl rfl (ql_pure tabOk rfl rfl (q_nil (q_cond_true rfl (q_region (ql_pure tabOk rfl rfl (q_nil (q_seq (q_region (ql_pure tabOk rfl rfl (ql_pure tabOk rfl rfl ?_))))))))))); refine q_nil (q_ret ?_))
      refine q_fin tabOk rfl (by repeat constructor) fun w hs => ?_
      refine ⟨?_, hs.chg0⟩
      have e : rulesV r p = 3 := by unfold rulesV; rw [hc0, h1]; rfl
      rw [e]; rfl
    | true =>
      (refine ql_gyes rfl (ql_pure tabOk rfl rfl (ql_gyes rfl (ql_pure tabOk rfl rfl (ql_gyes rfl (ql_pure tabOk rfl rfl (ql_gyes rfl ?_)))))); refine ql_loadBa tabOk rfl rfl rfl ?_; refine ql_gyes rfl ?_)
      refine ql_callv (val := .bool (inB p.click 0 600)) tabOk rfl rfl rfl rfl (fun w hs => ?_) ?_; exact in_ca _ _ _ w
      cases h2 : inB p.click 0 600 with
      | false =>
        (refine ql_gyes rfl (ql_pure tabOk rfl rfl (ql_gyes rfl (ql_pure tabOk rfl rfl (ql_gyes rfl (ql_pure tabOk rfl rfl ?_))))); (iterate 4 refine ql_gno rfl rfl rfl ?_); refine ql_gyes rfl (ql_pure tabOk rfl rfl (ql_gyes rfl (ql_pure tabOk rfl rfl ?_))); (iterate 4 refine ql_gno rfl rfl rfl ?_); refine ql_gyes rfl (ql_pure tabOk rfl rfl (ql_pure tabOk rfl rfl (q_nil (q_cond_true rfl (q_region (ql_pure tabOk rfl rfl (q_nil (q_seq (q_region (ql_pure tabOk rfl rfl (ql_pure tabOk rfl rfl ?_))))))))))); refine q_nil (q_ret ?_))
        refine q_fin tabOk rfl (by repeat constructor) fun w hs => ?_
        refine ⟨?_, hs.chg0⟩
        have e : rulesV r p = 3 := by unfold rulesV; rw [hc0, h1, h2]; rfl
        rw [e]; rfl
      | true =>
        (refine ql_gyes rfl (ql_pure tabOk rfl rfl (ql_gyes rfl (ql_pure tabOk rfl rfl (ql_gyes rfl (ql_pure tabOk rfl rfl (ql_gyes rfl (ql_pure tabOk rfl rfl (ql_gyes rfl ?_)))))))); refine ql_loadBa tabOk rfl rfl rfl ?_; refine ql_gyes rfl ?_)
        refine ql_callv (val := .bool (inB p.wait 0 600)) tabOk rfl rfl rfl rfl (fun w hs => ?_) ?_; exact in_ca _ _ _ w
        cases h3 : inB p.wait 0 600 with
        | false =>
          (refine ql_gyes rfl (ql_pure tabOk rfl rfl (ql_gyes rfl (ql_pure tabOk rfl rfl (ql_gyes rfl (ql_pure tabOk rfl rfl ?_))))); (iterate 4 refine ql_gno rfl rfl rfl ?_); refine ql_gyes rfl (ql_pure tabOk rfl rfl (ql_pure tabOk rfl rfl (q_nil (q_cond_true rfl (q_region (ql_pure tabOk rfl rfl (q_nil (q_seq (q_region (ql_pure tabOk rfl rfl (ql_pure tabOk rfl rfl ?_))))))))))); refine q_nil (q_ret ?_))
          refine q_fin tabOk rfl (by repeat constructor) fun w hs => ?_
          refine ⟨?_, hs.chg0⟩
          have e : rulesV r p = 3 := by unfold rulesV; rw [hc0, h1, h2, h3]; rfl
          rw [e]; rfl
        | true =>
          (refine ql_gyes rfl (ql_pure tabOk rfl rfl (ql_gyes rfl (ql_pure tabOk rfl rfl (ql_gyes rfl (ql_pure tabOk rfl rfl (ql_gyes rfl (ql_pure tabOk rfl rfl (ql_gyes rfl ?_)))))))); refine ql_loadBa tabOk rfl rfl rfl ?_; refine ql_gyes rfl ?_)
          refine ql_callv (val := .bool (inB p.waits 0 3)) tabOk rfl rfl rfl rfl (fun w hs => ?_) ?_; exact in_ca _ _ _ w
          cases h4 : inB p.waits 0 3 with
          | false =>
            (refine ql_gyes rfl (ql_pure tabOk rfl rfl (ql_gyes rfl (ql_pure tabOk rfl rfl (ql_pure tabOk rfl rfl (q_nil (q_cond_true rfl (q_region (ql_pure tabOk rfl rfl (q_nil (q_seq (q_region ?_))))))))))); refine ql_pure tabOk rfl rfl (ql_pure tabOk rfl rfl (q_nil (q_ret ?_))))
            refine q_fin tabOk rfl (by repeat constructor) fun w hs => ?_
            refine ⟨?_, hs.chg0⟩
            have e : rulesV r p = 3 := by unfold rulesV; rw [hc0, h1, h2, h3, h4]; rfl
            rw [e]; rfl
          | true =>
            (refine ql_gyes rfl (ql_pure tabOk rfl rfl (ql_gyes rfl (ql_pure tabOk rfl rfl (ql_pure tabOk rfl rfl (q_nil (q_cond_false rfl (q_skip (q_seq (q_region (ql_pure tabOk rfl rfl (ql_pure tabOk rfl rfl ?_))))))))))); refine q_nil (q_ret ?_))
            refine q_fin tabOk rfl (by repeat constructor) fun w hs => ?_
            refine ⟨?_, hs.chg0⟩
            have e : rulesV r p = 0 := by unfold rulesV; rw [hc0, h1, h2, h3, h4]; rfl
            rw [hc0, e]; rfl
  · rw [decide_eq_false hc0]
    ((iterate 5 refine ql_gno rfl rfl rfl ?_); (iterate 4 refine ql_gnone rfl rfl ?_); refine ql_gno rfl rfl rfl (ql_gno rfl rfl rfl ?_); (iterate 4 refine ql_gnone rfl rfl ?_); refine ql_gno rfl rfl rfl (ql_gno rfl rfl rfl ?_); (iterate 4 refine ql_gnone rfl rfl ?_); refine ql_gno rfl rfl rfl (ql_pure tabOk rfl rfl (q_nil (q_cond_false rfl (q_skip (q_seq (q_region (ql_pure tabOk rfl rfl (ql_pure tabOk rfl rfl (q_nil (q_ret ?_)))))))))))
    refine q_fin tabOk rfl (by repeat constructor) fun w hs => ?_
    refine ⟨?_, hs.chg0⟩
    have e : rulesV r p = checkV r := by unfold rulesV; rw [if_pos hc0]
    rw [e]; rfl
set_option maxHeartbeats 1000000 in
theorem parts_ca (w : World) (bp bd bm : Nat) (r : Rg) (p : Ru) (shot wt : Nat) (st cl : Int) (h : PlAt w bp bd bm r p) (hr : r.Right) (hs4 : shot ≤ 4) (hw3 : wt ≤ 3) :
    Ca Try.prog 39 [.pointer (some ⟨bp, 0, none⟩), plcV shot wt st cl] w fun v w' => v = .int .i64 (partsV r shot wt) ∧ Chg [] w w' := by
  obtain ⟨tp, hplb, hdk⟩ := h; have hdk0 := hdk; obtain ⟨cs, bt, hblk, lo, hi, ag, cg, ad, cd, af, cf, an, cn, rfl, hg, hdr, hf, hn⟩ := hdk
  have hgs := hr.gsum
  have htt := hr.total
  refine q_of (Sat.nil w M0) Try.func39 rfl (by simp [Try.ntmps39]) ?_
  (refine q_seq (q_region ?_))
  refine ql_box rfl rfl (fun b3 => ?_)
  (refine ql_pure tabOk rfl rfl (q_nil (q_seq (q_region ?_))); (iterate 3 refine ql_pure tabOk rfl rfl ?_); refine ql_loadP tabOk rfl rfl rfl (by assumption) (by rfl) ?_)
  refine ql_callv (val := .int .i64 r.group.sum) tabOk rfl rfl rfl rfl (fun w hs => ?_) ?_; exact group_ca w bd r (hdk0.keep hs.chg0) hr
  (refine ql_pure tabOk rfl rfl (q_nil (q_seq (q_seq (q_region (ql_pure tabOk rfl rfl ?_))))); refine ql_loadBa tabOk rfl rfl rfl ?_; refine ql_ar tabOk rfl rfl rfl rfl (by omega) (by omega) (ql_pure tabOk rfl rfl ?_); refine ql_loadBa tabOk rfl rfl rfl ?_; refine ql_ar tabOk rfl rfl rfl rfl (by omega) (by omega) (ql_pure tabOk rfl rfl (q_nil (q_block ?_))))
  refine q_loop (σ := Nat) (fun k => k ≤ 4 - shot + wt) (fun k => 4 - shot + wt - k) (fun k => [(0, .pointer (some ⟨bp, 0, none⟩)), (5, .int .i64 (r.group.sum * r.total ^ k)), (16, .int .i64 (4 - (shot : Int) + wt)), (17, .int .i64 k)]) (fun _ => []) 0 (by omega) ⟨rfl, lookI rfl (by simp), rfl, rfl, trivial⟩ (by repeat constructor) ?_
  intro k hk K hK
  have ht := tot7 r hr k (by omega)
  have hb := mul_bd0 (show 0 ≤ r.group.sum ∧ r.group.sum ≤ 100 by omega) (show 0 ≤ r.total ^ k ∧ r.total ^ k ≤ 35831808 by omega)
  have hb2 := mul_bd0 hb (show 0 ≤ r.total ∧ r.total ≤ 12 by omega)
  (refine q_seq (q_region (ql_pure tabOk rfl rfl (q_nil (q_seq ?_)))))
  refine q_if rfl (fun hc => ?_) (fun hc => ?_)
  · have hk : k < 4 - shot + wt := by omega
    (refine q_skip (q_seq (q_block (q_region ?_))); (iterate 4 refine ql_pure tabOk rfl rfl ?_); refine ql_loadP tabOk rfl rfl rfl (by assumption) (by rfl) ?_; (iterate 3 refine ql_pure tabOk rfl rfl ?_); refine ql_loadP tabOk rfl rfl rfl (by assumption) (by rfl) ?_; refine ql_ar tabOk rfl rfl rfl rfl (by omega) (by omega) (ql_pure tabOk rfl rfl (q_nil (q_blk (q_region (ql_ar tabOk rfl rfl rfl rfl (by omega) (by omega) (ql_pure tabOk rfl rfl (q_nil ?_))))))))
    exact hK (k + 1) _ _ (by omega) (by omega) ⟨rfl, lookI rfl (by rw [Int.pow_succ, Int.mul_assoc]), rfl, rfl, trivial⟩ (by repeat constructor)
  · obtain rfl : k = 4 - shot + wt := by omega
    (refine q_exit _ rfl (q_seq (q_region (ql_pure tabOk rfl rfl (ql_pure tabOk rfl rfl (q_nil (q_ret ?_)))))))
    refine q_fin tabOk rfl (by repeat constructor) fun w hs => ?_
    exact ⟨rfl, hs.chg0⟩
/-- The values of situations, 0 where there is none. -/
abbrev gvF (vf : Vf) (shot wt : Nat) (t : Nat) (cl : Int) : Int := (vf shot wt t cl).getD 0
set_option maxHeartbeats 2000000 in
theorem follows_ca (w : World) (bp bd bm : Nat) (r : Rg) (p : Ru) (vf : Vf) (shot wt st : Nat) (s0 cl : Int) (h : PlAt w bp bd bm r p) (hm : MapAt w bm (keyF k4) eqV (liftF vf)) (hr : r.Right) (hst : st < r.drifts.length) (hb : shot < 5 → ∀ t, t < r.drifts.length → 0 ≤ gvF vf shot wt t cl ∧ gvF vf shot wt t cl ≤ 1000000000000000) :
    Ca Try.prog 42 [.pointer (some ⟨bp, 0, none⟩), plcV shot wt s0 cl, .int .i64 st] w fun v w' => v = .int .i64 (if shot < 5 then folS r (fun t => gvF vf shot wt t cl) st else 0) ∧ Chg [] w w' := by
  obtain ⟨tp, hplb, hdk⟩ := h; have hdk0 := hdk; obtain ⟨cs, bt, hblk, lo, hi, ag, cg, ad, cd, af, cf, an, cn, rfl, hg, hdr, hf, hn⟩ := hdk
  have hst2 : st < r.next.length := by rw [hr.next]; exact hst
  have hrl := hr.rows _ (List.getElem_mem hst2)
  have hd5 := hr.d2
  obtain ⟨an', cn', hsl, hsd⟩ := RdII.outI hn
  cases hsl
  obtain ⟨bn, on, rfl⟩ := hsd (by omega)
  obtain ⟨ar, cr, hrow, hcell⟩ := hn.row st hst2
  obtain ⟨ar', cr', hsl2, hsd2⟩ := RdI.outI hrow
  cases hsl2
  obtain ⟨br, orr, rfl⟩ := hsd2 (by omega)
  have hgd : r.next.getD st [] = r.next[st] := by simp [hst2]
  refine q_of (Sat.nil w M0) Try.func42 rfl (by simp [Try.ntmps42]) ?_
  (refine q_seq (q_region ?_))
  refine ql_box rfl rfl (fun b4 => ?_)
  (refine ql_pure tabOk rfl rfl (q_nil (q_seq (q_region (ql_pure tabOk rfl rfl (q_nil (q_seq (q_seq (q_region (ql_pure tabOk rfl rfl ?_))))))))); refine ql_loadBa tabOk rfl rfl rfl ?_; refine ql_pure tabOk rfl rfl (q_nil ?_))
  by_cases h5 : shot < 5
  · have hb := hb h5
    rw [if_pos h5, decide_eq_true (show (shot : Int) < 5 by omega)]
    (refine q_cond_true rfl (q_seq (q_region ?_)); (iterate 3 refine ql_pure tabOk rfl rfl ?_); refine ql_loadP tabOk rfl rfl rfl (by assumption) (by rfl) ?_; (iterate 3 refine ql_pure tabOk rfl rfl ?_); refine ql_loadP tabOk rfl rfl rfl (by assumption) (by rfl) ?_; refine ql_pure tabOk rfl rfl ?_)
    refine ql_index tabOk rfl rfl rfl rfl rfl (by omega) (by omega) ?_
    refine ql_load1 (v := .slice (some ⟨br, orr, none⟩) r.next[st].length cr) tabOk rfl rfl rfl (fun w' hs => hcell w' hs.chg0) ?_
    (refine ql_pure tabOk rfl rfl (ql_pure tabOk rfl rfl (q_nil (q_block ?_))))
    refine q_loop (σ := Nat × Int) (fun s => s.1 ≤ r.drifts.length) (fun s => r.drifts.length - s.1) (fun s => [(0, .pointer (some ⟨bp, 0, none⟩)), (4, .pointer (some ⟨b4, 0, none⟩)), (7, .int .i64 (sumR (fun t => (r.next.getD st []).getD t 0 * gvF vf shot wt t cl) s.1)), (23, .slice (some ⟨br, orr, none⟩) r.next[st].length cr), (24, .int .i64 r.next[st].length), (25, .int .i64 s.1)])
      (fun s => [.pt b4 [.int .i64 shot, .int .i64 wt, .int .i64 s.2, .int .i64 cl] 69]) (0, s0) (by simp) ⟨rfl, rfl, rfl, rfl, rfl, rfl, trivial⟩ (by repeat constructor) ?_
    rintro ⟨k, s⟩ hk K hK
    simp only at hk
    dsimp only
    have hfb := fol_bd r hr (fun t => gvF vf shot wt t cl) 1000000000000000 hb st k hk
    (refine q_seq (q_region (ql_pure tabOk rfl rfl (q_nil (q_seq ?_)))))
    refine q_if rfl (fun hc => ?_) (fun hc => ?_)
    · have hk : k < r.drifts.length := by omega
      have hk2 : k < r.next[st].length := by omega
      have hgk := hb k hk
      have hnk := next_bd r hr st k
      have hm2 := mul_bd0 hnk hgk
      have he : (r.next.getD st []).getD k 0 = r.next[st][k] := by rw [hgd]; simp [hk2]
      have hsu : sumR (fun t => (r.next.getD st []).getD t 0 * gvF vf shot wt t cl) (k + 1) = sumR (fun t => (r.next.getD st []).getD t 0 * gvF vf shot wt t cl) k + r.next[st][k] * gvF vf shot wt k cl := by rw [sumR, he]
      rw [he] at hm2
      (refine q_skip (q_seq (q_block (q_seq (q_region (ql_pure tabOk rfl rfl ?_))))))
      (refine ql_index tabOk rfl rfl rfl rfl rfl (by omega) (by omega) ?_; refine ql_load1 tabOk rfl rfl rfl (fun w hs => RdI.at (RdE.keep hrow hs.chg0) k hk2) ?_)
      (refine ql_pure tabOk rfl rfl (ql_pure tabOk rfl rfl (q_nil (q_seq (q_region (ql_pure tabOk rfl rfl (ql_pure tabOk rfl rfl ?_)))))); refine ql_st2 tabOk rfl rfl rfl rfl (by repeat constructor) ?_; refine q_nil ?_)
      refine q_draw _ [] (Sp.refl _) (by kernel_rfl) (by kernel_rfl) ?_
      ((iterate 5 refine qf_pure tabOk rfl rfl rfl ?_); refine qf_loadP tabOk rfl rfl rfl (by assumption) (by rfl) ?_; refine qf_loadABa tabOk rfl rfl rfl ?_)
      refine qf_lookP (v := .int .i64 (gvF vf shot wt k cl)) plc_key plc_map zero_int rfl rfl rfl hm (plcV_key _ _ _ _) (liftF_get vf _ _ _ _) ?_
      (refine qf_ar tabOk rfl rfl rfl rfl (by omega) (by omega) (qf_ar tabOk rfl rfl rfl rfl (by omega) (by omega) (qf_pure tabOk rfl rfl rfl (qf_nil (q_blk (q_region (ql_ar tabOk rfl rfl rfl rfl (by omega) (by omega) (ql_pure tabOk rfl rfl (q_nil ?_)))))))))
      exact hK (k + 1, (k : Int)) _ _ (by simp only; omega) (by simp only; omega) ⟨rfl, rfl, lookI rfl hsu.symm, rfl, rfl, rfl, trivial⟩ (by repeat constructor)
    · obtain rfl : k = r.drifts.length := by omega
      (refine q_exit _ rfl (q_seq (q_region (ql_pure tabOk rfl rfl (ql_pure tabOk rfl rfl (q_nil (q_ret ?_)))))))
      refine q_fin tabOk rfl (by repeat constructor) fun w hs => ?_
      exact ⟨rfl, hs.chg0⟩
  · rw [if_neg h5, decide_eq_false (show ¬ (shot : Int) < 5 by omega)]
    (refine q_cond_false rfl (q_skip (q_seq (q_region (ql_pure tabOk rfl rfl (ql_pure tabOk rfl rfl (q_nil (q_ret ?_))))))))
    refine q_fin tabOk rfl (by repeat constructor) fun w hs => ?_
    exact ⟨rfl, hs.chg0⟩
/-- Values behind a situation are not too great. -/
def FineV (r : Rg) (vf : Vf) (shot wt : Nat) : Prop := ∀ t c, t < r.drifts.length → -r.clicks ≤ c ∧ c ≤ r.clicks → 0 ≤ gvF vf shot wt t c ∧ gvF vf shot wt t c ≤ 1000000000000000
set_option maxHeartbeats 2000000 in
theorem shoot_ca (w : World) (bp bd bm : Nat) (r : Rg) (p : Ru) (vf : Vf) (shot wt st : Nat) (cl click : Int) (h : PlAt w bp bd bm r p) (hm : MapAt w bm (keyF k4) eqV (liftF vf)) (hr : r.Right) (hp : p.Right) (h4 : shot ≤ 4) (hw3 : wt ≤ 3) (hst : st < r.drifts.length)
    (hcl : -r.clicks ≤ cl ∧ cl ≤ r.clicks) (hck : -r.clicks ≤ click ∧ click ≤ r.clicks) (hb : shot < 4 → FineV r vf (shot + 1) wt) :
    Ca Try.prog 32 [.pointer (some ⟨bp, 0, none⟩), plcV shot wt st cl, .int .i64 click] w fun v w' => v = .int .i64 (shootV r p (gvF vf (shot + 1) wt) shot wt st cl click) ∧ Chg [] w w' := by
  have h0 := h
  obtain ⟨tp, hplb, hdk⟩ := h; have hdk0 := hdk; obtain ⟨cs, bt, hblk, lo, hi, ag, cg, ad, cd, af, cf, an, cn, rfl, hg, hdr, hf, hn⟩ := hdk
  have hC := hr.clicks
  have hd5 := hr.d2
  have hgs := hr.gsum
  have hpt := parts_bd r hr shot wt hw3
  have htt := tot7 r hr (4 - shot + wt) (by omega)
  have hdv := parts_div r hr shot wt
  have hms := missS_bd r hr r.drifts[st] click
  have hdb := hr.drift _ (List.getElem_mem hst)
  have hgd : r.drifts.getD st 0 = r.drifts[st] := by simp [hst]
  have hfar := far_bd hC.2 hcl hck
  have a1 := mul_bd0 hp.click hfar
  have a2 := mul_bd0 a1 (show 0 ≤ partsV r shot wt ∧ partsV r shot wt ≤ 3583180800 by omega)
  have b1 := mul_bd0 hp.miss (show 0 ≤ missS r r.drifts[st] click ∧ missS r r.drifts[st] click ≤ 100 by omega)
  have b2 := mul_bd0 b1 (show 0 ≤ partsV r shot wt / r.group.sum ∧ partsV r shot wt / r.group.sum ≤ 35831808 by omega)
  obtain ⟨ad', cd', hsl, hsd⟩ := RdI.outI hdr
  cases hsl
  obtain ⟨bn, on, rfl⟩ := hsd (by omega)
  have hfol : 0 ≤ (if shot < 4 then folS r (fun t => gvF vf (shot + 1) wt t click) st else 0) ∧ (if shot < 4 then folS r (fun t => gvF vf (shot + 1) wt t click) st else 0) ≤ 60000000000000000 := by
    split
    · have : 0 ≤ folS r (fun t => gvF vf (shot + 1) wt t click) st ∧ folS r (fun t => gvF vf (shot + 1) wt t click) st ≤ 12 * 1000000000000000 * (r.drifts.length : Int) := fol_bd r hr (fun t => gvF vf (shot + 1) wt t click) 1000000000000000 (fun t ht => hb (by assumption) t click ht hck) st r.drifts.length (Nat.le_refl _)
      omega
    · omega
  have hfe : (if shot + 1 < 5 then folS r (fun t => gvF vf (shot + 1) wt t click) st else 0) = (if shot < 4 then folS r (fun t => gvF vf (shot + 1) wt t click) st else 0) := by
    by_cases h : shot < 4
    · rw [if_pos h, if_pos (by omega)]
    · rw [if_neg h, if_neg (by omega)]
  refine q_of (Sat.nil w M0) Try.func32 rfl (by simp [Try.ntmps32]) ?_
  (refine q_seq (q_region ?_))
  refine ql_box rfl rfl (fun b4 => ?_)
  (refine ql_pure tabOk rfl rfl (q_nil (q_seq (q_region (ql_pure tabOk rfl rfl ?_)))); refine ql_loadABa tabOk rfl rfl rfl ?_)
  refine ql_callv (val := .int .i64 (partsV r shot wt)) tabOk rfl rfl rfl rfl (fun w hs => ?_) ?_; exact parts_ca w bp bd bm r p shot wt st cl (h0.keep hs.chg0) hr h4 hw3
  (refine ql_pure tabOk rfl rfl (q_nil (q_seq ?_)))
  refine q_draw _ [] (Sp.refl _) (by kernel_rfl) (by kernel_rfl) ?_
  ((iterate 4 refine qf_pure tabOk rfl rfl rfl ?_); refine qf_loadP tabOk rfl rfl rfl (by assumption) (by rfl) ?_; refine qf_pure tabOk rfl rfl rfl (qf_pure tabOk rfl rfl rfl ?_); refine qf_loadBa tabOk rfl rfl rfl ?_; refine qf_ar tabOk rfl rfl rfl rfl (by omega) (by omega) (qf_pure tabOk rfl rfl rfl ?_); refine qf_loadBa tabOk rfl rfl rfl ?_; refine qf_pure tabOk rfl rfl rfl (qf_ar tabOk rfl rfl rfl rfl (by omega) (by omega) (qf_pure tabOk rfl rfl rfl (qf_ar tabOk rfl rfl rfl rfl (by omega) (by omega) (qf_pure tabOk rfl rfl rfl (qf_ar tabOk rfl rfl rfl rfl (by omega) (by omega) (qf_pure tabOk rfl rfl rfl (qf_nil (q_seq ?_)))))))))
  refine q_draw _ [] (Sp.refl _) (by kernel_rfl) (by kernel_rfl) ?_
  ((iterate 4 refine qf_pure tabOk rfl rfl rfl ?_); refine qf_loadP tabOk rfl rfl rfl (by assumption) (by rfl) ?_; (iterate 3 refine qf_pure tabOk rfl rfl rfl ?_); refine qf_loadP tabOk rfl rfl rfl (by assumption) (by rfl) ?_; (iterate 3 refine qf_pure tabOk rfl rfl rfl ?_); refine qf_loadP tabOk rfl rfl rfl (by assumption) (by rfl) ?_; (iterate 3 refine qf_pure tabOk rfl rfl rfl ?_); refine qf_loadP tabOk rfl rfl rfl (by assumption) (by rfl) ?_; refine qf_pure tabOk rfl rfl rfl ?_; refine qf_loadBa tabOk rfl rfl rfl ?_)
  (refine qf_index tabOk rfl rfl rfl rfl rfl (by omega) (by omega) ?_; refine qf_load1 tabOk rfl rfl rfl (fun w hs => RdI.at (RdE.keep hdr hs.chg0) st hst) ?_)
  (refine qf_pure tabOk rfl rfl rfl ?_)
  refine qf_callv (val := .int .i64 (missS r r.drifts[st] click)) tabOk rfl rfl rfl rfl (fun w hs => ?_) ?_; exact missed_ca w bd r r.drifts[st] click (hdk0.keep hs.chg0) hr (by omega) (by omega)
  (refine qf_ar tabOk rfl rfl rfl rfl (by omega) (by omega) ?_; (iterate 4 refine qf_pure tabOk rfl rfl rfl ?_); refine qf_loadP tabOk rfl rfl rfl (by assumption) (by rfl) ?_)
  refine qf_callv (val := .int .i64 r.group.sum) tabOk rfl rfl rfl rfl (fun w hs => ?_) ?_; exact group_ca w bd r (hdk0.keep hs.chg0) hr
  (refine qf_quoN rfl rfl rfl (by omega) (by omega) (by omega) (qf_ar tabOk rfl rfl rfl rfl (by omega) (by omega) (qf_pure tabOk rfl rfl rfl (qf_nil (q_seq (q_region (ql_pure tabOk rfl rfl (ql_pure tabOk rfl rfl (ql_ar tabOk rfl rfl rfl rfl (by omega) (by omega) (ql_pure tabOk rfl rfl (ql_pure tabOk rfl rfl ?_)))))))))); refine ql_loadBa tabOk rfl rfl rfl ?_; refine ql_ar tabOk rfl rfl rfl rfl (by omega) (by omega) (ql_pure tabOk rfl rfl ?_); refine ql_loadBa tabOk rfl rfl rfl ?_; refine ql_pure tabOk rfl rfl ?_)
  refine ql_mk #[.int .i64 ((shot : Int) + 1), .int .i64 wt, .int .i64 0, .int .i64 click] rfl (by kernel_rfl) rfl ?_
  (refine ql_pure tabOk rfl rfl ?_; refine ql_loadBa tabOk rfl rfl rfl ?_)
  refine ql_callv (val := .int .i64 (if shot < 4 then folS r (fun t => gvF vf (shot + 1) wt t click) st else 0)) tabOk rfl rfl rfl rfl (fun w hs => ?_) ?_; exact by have := follows_ca w bp bd bm r p vf (shot + 1) wt st 0 click (h0.keep hs.chg0) (hm.keep hs.chg0) hr hst (fun h5 t ht => hb (by omega) t click ht hck); rw [hfe] at this; exact this
  (refine ql_ar tabOk rfl rfl rfl rfl (by omega) (by omega) (ql_pure tabOk rfl rfl (q_nil (q_ret ?_))))
  refine q_fin tabOk rfl (by repeat constructor) fun w hs => ?_
  refine ⟨?_, hs.chg0⟩
  unfold shootV
  rw [hgd]
  rfl
set_option maxHeartbeats 2000000 in
theorem waitF_ca (w : World) (bp bd bm : Nat) (r : Rg) (p : Ru) (vf : Vf) (shot wt st : Nat) (cl : Int) (h : PlAt w bp bd bm r p) (hm : MapAt w bm (keyF k4) eqV (liftF vf)) (hr : r.Right) (hp : p.Right) (h4 : shot ≤ 4) (hw0 : 0 < wt) (hw3 : wt ≤ 3) (hst : st < r.drifts.length)
    (hcl : -r.clicks ≤ cl ∧ cl ≤ r.clicks) (hb : FineV r vf shot (wt - 1)) :
    Ca Try.prog 34 [.pointer (some ⟨bp, 0, none⟩), plcV shot wt st cl] w fun v w' => v = .int .i64 (waitV r p (gvF vf shot (wt - 1)) shot wt st cl) ∧ Chg [] w w' := by
  have h0 := h
  obtain ⟨tp, hplb, hdk⟩ := h; have hdk0 := hdk; obtain ⟨cs, bt, hblk, lo, hi, ag, cg, ad, cd, af, cf, an, cn, rfl, hg, hdr, hf, hn⟩ := hdk
  have hd5 := hr.d2
  have hpt := parts_bd r hr shot wt hw3
  have a1 := mul_bd0 hp.wait (show 0 ≤ partsV r shot wt ∧ partsV r shot wt ≤ 3583180800 by omega)
  have hfol := fol_bd r hr (fun t => gvF vf shot (wt - 1) t cl) 1000000000000000 (fun t ht => hb t cl ht hcl) st r.drifts.length (Nat.le_refl _)
  have hfs : folS r (fun t => gvF vf shot (wt - 1) t cl) st = sumR (fun t => (r.next.getD st []).getD t 0 * gvF vf shot (wt - 1) t cl) r.drifts.length := rfl
  rw [← hfs] at hfol
  have hw1 : ((wt - 1 : Nat) : Int) = (wt : Int) - 1 := by omega
  refine q_of (Sat.nil w M0) Try.func34 rfl (by simp [Try.ntmps34]) ?_
  (refine q_seq (q_region ?_))
  refine ql_box rfl rfl (fun b3 => ?_)
  (refine ql_pure tabOk rfl rfl (q_nil (q_seq ?_)))
  refine q_draw _ [] (Sp.refl _) (by kernel_rfl) (by kernel_rfl) ?_
  ((iterate 4 refine qf_pure tabOk rfl rfl rfl ?_); refine qf_loadP tabOk rfl rfl rfl (by assumption) (by rfl) ?_; refine qf_pure tabOk rfl rfl rfl ?_; refine qf_loadABa tabOk rfl rfl rfl ?_)
  refine qf_callv (val := .int .i64 (partsV r shot wt)) tabOk rfl rfl rfl rfl (fun w hs => ?_) ?_; exact parts_ca w bp bd bm r p shot wt st cl (h0.keep hs.chg0) hr h4 hw3
  (refine qf_ar tabOk rfl rfl rfl rfl (by omega) (by omega) (qf_pure tabOk rfl rfl rfl (qf_pure tabOk rfl rfl rfl ?_)); refine qf_loadBa tabOk rfl rfl rfl ?_; refine qf_pure tabOk rfl rfl rfl ?_; refine qf_loadBa tabOk rfl rfl rfl ?_; refine qf_ar tabOk rfl rfl rfl rfl (by omega) (by omega) (qf_pure tabOk rfl rfl rfl ?_); refine qf_loadBa tabOk rfl rfl rfl ?_)
  refine qf_mk #[.int .i64 shot, .int .i64 ((wt : Int) - 1), .int .i64 0, .int .i64 cl] rfl (by kernel_rfl) rfl ?_
  (refine qf_pure tabOk rfl rfl rfl ?_; refine qf_loadBa tabOk rfl rfl rfl ?_)
  refine qf_callv (val := .int .i64 (folS r (fun t => gvF vf shot (wt - 1) t cl) st)) tabOk rfl rfl rfl rfl (fun w hs => ?_) ?_; exact by have := follows_ca w bp bd bm r p vf shot (wt - 1) st 0 cl (h0.keep hs.chg0) (hm.keep hs.chg0) hr hst (fun h5 t ht => hb t cl ht hcl); rw [if_pos (by omega), hw1] at this; exact this
  (refine qf_ar tabOk rfl rfl rfl rfl (by omega) (by omega) (qf_pure tabOk rfl rfl rfl (qf_nil (q_ret ?_))))
  refine q_fin tabOk rfl (by repeat constructor) fun w hs => ?_
  exact ⟨rfl, hs.chg0⟩
set_option maxHeartbeats 4000000 in
theorem choose_ca (w : World) (bp bd bm : Nat) (r : Rg) (p : Ru) (vf : Vf) (shot wt st : Nat) (cl : Int) (h : PlAt w bp bd bm r p) (hm : MapAt w bm (keyF k4) eqV (liftF vf)) (hr : r.Right) (hp : p.Right) (h4 : shot ≤ 4) (hw3 : wt ≤ 3) (hst : st < r.drifts.length)
    (hcl : -r.clicks ≤ cl ∧ cl ≤ r.clicks) (hb : shot < 4 → FineV r vf (shot + 1) wt) (hbw : 0 < wt → FineV r vf shot (wt - 1)) :
    Ca Try.prog 20 [.pointer (some ⟨bp, 0, none⟩), plcV shot wt st cl] w fun v w' =>
      v = .tuple #[.agg #[.bool (chV r p (gvF vf (shot + 1) wt) (gvF vf shot (wt - 1)) shot wt st cl).1.1, .int .i64 (chV r p (gvF vf (shot + 1) wt) (gvF vf shot (wt - 1)) shot wt st cl).1.2], .int .i64 (chV r p (gvF vf (shot + 1) wt) (gvF vf shot (wt - 1)) shot wt st cl).2] ∧ Chg [] w w' := by
  have h0 := h
  have hm0 := hm
  obtain ⟨tp, hplb, hdk⟩ := h; have hdk0 := hdk; obtain ⟨cs, bt, hblk, lo, hi, ag, cg, ad, cd, af, cf, an, cn, rfl, hg, hdr, hf, hn⟩ := hdk
  have hC := hr.clicks
  have hin0 : inB cl (-r.clicks) r.clicks = true := inB_iff.2 hcl
  refine q_ofM (Sat.nil w M0) Try.func20 rfl (by simp [Try.ntmps20]) ?_
  (refine q_seq (q_region ?_))
  refine ql_box rfl rfl (fun b2 => ?_)
  skip
  refine ql_box rfl rfl (fun b3 => ?_)
  skip
  refine ql_alloc zero42 rfl (fun b4 => ?_)
  (refine ql_pure tabOk rfl rfl (q_nil (q_seq ?_)))
  refine q_cut (σ := Nat × Nat) (fun s => [(2, .pointer (some ⟨b2, 0, none⟩)), (3, .pointer (some ⟨b3, 0, none⟩)), (4, .pointer (some ⟨b4, 0, none⟩)), (6, .pointer (some ⟨s.1, 0, none⟩)), (7, .pointer (some ⟨s.2, 0, none⟩))])
    (fun s => [.pt s.2 [.int .i64 (shootV r p (gvF vf (shot + 1) wt) shot wt st cl cl)] 3, .pt s.1 [.bool false, .int .i64 cl] 42, .pt b4 [.bool false, .int .i64 0] 42, .pt b3 [.int .i64 shot, .int .i64 wt, .int .i64 st, .int .i64 cl] 69, .pt b2 [.pointer (some ⟨bp, 0, none⟩)] 62]) ?main (fun K2 hK2 => ?_)
  case main =>
    rintro ⟨b6, b7⟩
    dsimp only
    (refine q_seq (q_seq ?_))
    refine q_draw _ [] (Sp.refl _) (by kernel_rfl) (by kernel_rfl) ?_
    (refine qf_loadBa tabOk rfl rfl rfl ?_; refine qf_pure tabOk rfl rfl rfl (qf_pure tabOk rfl rfl rfl ?_); refine qf_loadP tabOk rfl rfl rfl (by assumption) (by rfl) ?_; refine qf_pure tabOk rfl rfl rfl ?_; refine qf_loadBa tabOk rfl rfl rfl ?_)
    refine qf_call (β := Nat × Nat) tabOk [] _ M0 rfl rfl rfl rfl (Sp.refl _) (fun _ h => h.elim) (fun w' hs => clicks_ca w' bd cl) ?_
    rintro ⟨bx, bn⟩ _ rfl
    (refine qf_nil (q_block ?_))
    refine q_range (fun c => [Value.int .i64 c]) (Int × Int) (clickL r.clicks cl) (fun pre s => s = pre.foldl (chStep r p (gvF vf (shot + 1) wt) shot wt st cl) (cl, shootV r p (gvF vf (shot + 1) wt) shot wt st cl cl)) (fun _ _ => False)
      (fun s => [.pt b7 [.int .i64 s.2] 3, .pt b6 [.bool false, .int .i64 s.1] 42, .pt b3 [.int .i64 shot, .int .i64 wt, .int .i64 st, .int .i64 cl] 69, .pt b2 [.pointer (some ⟨bp, 0, none⟩)] 62]) [.pt bn [.int .i64 cl] 3, .pt bx [.pointer (some ⟨bd, 0, none⟩)] 72, .pt b4 [.bool false, .int .i64 0] 42] (cl, shootV r p (gvF vf (shot + 1) wt) shot wt st cl cl)
      rfl (by kernel_rfl) rfl (fun _ _ => rfl) rfl (by repeat constructor) ?_ ?_ ?_ (fun _ _ _ h => h.elim)
    · intro w1 D hs hD
      exact clicks_it w w1 D bd bx bn cl r hdk0 (fun w' hc => hs.chg0.old hc (fun k hk => (hD k hk).2.resolve_left (fun h => h))) hC hin0 (hs.blk (by repeat constructor)) (hs.blk (by repeat constructor)) (fun h => (hD _ h).1 ⟨.pt bx [.pointer (some ⟨bd, 0, none⟩)] _, (by repeat constructor), rfl⟩) (fun h => (hD _ h).1 ⟨.pt bn [.int .i64 cl] _, (by repeat constructor), rfl⟩)
    · intro pre x post s w1 l rdy bsy K F' hx hI hsat hR hbegin hend hret hexit
      have hxin : -r.clicks ≤ x ∧ x ≤ r.clicks := inB_iff.1 (clickL_in _ _ hin0 x (by rw [hx]; simp))
      (refine q_region (ql_pure tabOk rfl rfl (q_nil ?_)))
      refine hbegin _ _ ?_
      (refine q_block (q_seq (q_region ?_)); refine ql_loadBa tabOk rfl rfl rfl ?_; refine ql_loadABa tabOk rfl rfl rfl ?_; refine ql_pure tabOk rfl rfl ?_)
      refine ql_callv (val := .int .i64 (shootV r p (gvF vf (shot + 1) wt) shot wt st cl x)) tabOk rfl rfl rfl rfl (fun w hs => ?_) ?_; exact shoot_ca w bp bd bm r p vf shot wt st cl x (h0.keep (hR w hs.chg).chg0) (hm0.keep (hR w hs.chg).chg0) hr hp h4 hw3 hst hcl hxin hb
      (refine ql_pure tabOk rfl rfl (q_nil (q_seq (q_region (ql_pure tabOk rfl rfl ?_)))); refine ql_loadBa tabOk rfl rfl rfl ?_; refine ql_pure tabOk rfl rfl (q_nil ?_))
      refine q_if rfl (fun hc => ?_) (fun hc => ?_)
      · (refine q_region (ql_pure tabOk rfl rfl ?_))
        refine ql_mk #[.bool false, .int .i64 x] rfl (by kernel_rfl) rfl ?_
        (refine ql_pure tabOk rfl rfl ?_; refine ql_setA tabOk rfl rfl rfl rfl rfl (by repeat constructor) rfl ?_; refine ql_set tabOk rfl rfl rfl rfl (by repeat constructor) ?_; refine q_nil (q_blk ?_))
        refine hend _ _ (x, shootV r p (gvF vf (shot + 1) wt) shot wt st cl x) ?_ (by repeat constructor)
        rw [List.foldl_append, ← hI]
        simp [chStep, hc]
      · (refine q_skip (q_blk ?_))
        refine hend _ _ s ?_ (by repeat constructor)
        rw [List.foldl_append, ← hI]
        simp [chStep, hc]
    · rintro D s rfl
      (refine q_blk (q_seq (q_seq (q_region (ql_pure tabOk rfl rfl ?_)))); refine ql_loadBa tabOk rfl rfl rfl ?_; refine ql_pure tabOk rfl rfl (q_nil ?_))
      have hcs : (clickL r.clicks cl).foldl (chStep r p (gvF vf (shot + 1) wt) shot wt st cl) (cl, shootV r p (gvF vf (shot + 1) wt) shot wt st cl cl) = chClick r p (gvF vf (shot + 1) wt) shot wt st cl := rfl
      rw [hcs]
      refine q_if rfl (fun hc => ?_) (fun hc => ?_)
      · have hw0 : 0 < wt := by omega
        (refine q_seq (q_region ?_); refine ql_loadBa tabOk rfl rfl rfl ?_; refine ql_loadABa tabOk rfl rfl rfl ?_)
        refine ql_callv (val := .int .i64 (waitV r p (gvF vf shot (wt - 1)) shot wt st cl)) tabOk rfl rfl rfl rfl (fun w hs => ?_) ?_; exact waitF_ca w bp bd bm r p vf shot wt st cl (h0.keep hs.chg0) (hm0.keep hs.chg0) hr hp h4 hw0 hw3 hst hcl (hbw hw0)
        (refine ql_pure tabOk rfl rfl (q_nil (q_seq (q_region (ql_pure tabOk rfl rfl ?_)))); refine ql_loadBa tabOk rfl rfl rfl ?_; refine ql_pure tabOk rfl rfl (q_nil ?_))
        refine q_if rfl (fun hc => ?_) (fun hc => ?_)
        · (refine q_region ?_)
          refine ql_mk #[.bool true, .int .i64 0] rfl (by kernel_rfl) rfl ?_
          (refine ql_pure tabOk rfl rfl ?_; refine ql_setA tabOk rfl rfl rfl rfl rfl (by repeat constructor) rfl ?_; refine ql_set tabOk rfl rfl rfl rfl (by repeat constructor) ?_; refine q_nil (q_seq ?_))
          refine q_draw _ [.pt b4 _ _] (Sp.cons (by repeat constructor) (Sp.refl _)) (by kernel_rfl) (by kernel_rfl) ?_
          (refine qf_loadABa tabOk rfl rfl rfl ?_; refine qf_loadBa tabOk rfl rfl rfl ?_; refine qf_setA tabOk rfl rfl rfl rfl rfl (by repeat constructor) rfl ?_; refine qf_pure tabOk rfl rfl rfl (qf_nil (q_ret ?_)))
          refine q_finMD tabOk (by repeat constructor) rfl (by repeat constructor) fun w hs => ?_
          refine ⟨?_, hs.chg0⟩
          have e : chV r p (gvF vf (shot + 1) wt) (gvF vf shot (wt - 1)) shot wt st cl = ((true, 0), waitV r p (gvF vf shot (wt - 1)) shot wt st cl) := by unfold chV; simp only; rw [if_pos hw0, if_pos hc]
          rw [e]; rfl
        · (refine q_skip (q_seq ?_))
          refine q_draw _ [.pt b4 _ _] (Sp.cons (by repeat constructor) (Sp.refl _)) (by kernel_rfl) (by kernel_rfl) ?_
          (refine qf_loadABa tabOk rfl rfl rfl ?_; refine qf_loadBa tabOk rfl rfl rfl ?_; refine qf_setA tabOk rfl rfl rfl rfl rfl (by repeat constructor) rfl ?_; refine qf_pure tabOk rfl rfl rfl (qf_nil (q_ret ?_)))
          refine q_finMD tabOk (by repeat constructor) rfl (by repeat constructor) fun w hs => ?_
          refine ⟨?_, hs.chg0⟩
          have e : chV r p (gvF vf (shot + 1) wt) (gvF vf shot (wt - 1)) shot wt st cl = ((false, (chClick r p (gvF vf (shot + 1) wt) shot wt st cl).1), (chClick r p (gvF vf (shot + 1) wt) shot wt st cl).2) := by unfold chV; simp only; rw [if_pos hw0, if_neg hc]
          rw [e]; rfl
      · have hw0 : ¬ 0 < wt := by omega
        (refine q_skip (q_seq ?_))
        refine q_draw _ [.pt b4 _ _] (Sp.cons (by repeat constructor) (Sp.refl _)) (by kernel_rfl) (by kernel_rfl) ?_
        (refine qf_loadABa tabOk rfl rfl rfl ?_; refine qf_loadBa tabOk rfl rfl rfl ?_; refine qf_setA tabOk rfl rfl rfl rfl rfl (by repeat constructor) rfl ?_; refine qf_pure tabOk rfl rfl rfl (qf_nil (q_ret ?_)))
        refine q_finMD tabOk (by repeat constructor) rfl (by repeat constructor) fun w hs => ?_
        refine ⟨?_, hs.chg0⟩
        have e : chV r p (gvF vf (shot + 1) wt) (gvF vf shot (wt - 1)) shot wt st cl = ((false, (chClick r p (gvF vf (shot + 1) wt) shot wt st cl).1), (chClick r p (gvF vf (shot + 1) wt) shot wt st cl).2) := by unfold chV; simp only; rw [if_neg hw0]
        rw [e]; rfl
  refine q_drawT (chainT [0, 1, 2, 3, 4, 5, 6] (.alt (chainT [7] (.alt (chainT [8, 9, 10, 11] .nil) (chainT [9, 8, 10, 11] .nil))) (.alt (chainT [8] (.alt (chainT [7, 9, 10, 11] .nil) (chainT [9, 7, 10, 11] .nil))) (chainT [9] (.alt (chainT [7, 8, 10, 11] .nil) (chainT [8, 7, 10, 11] .nil)))))) _ [] (Sp.refl _) (by kernel_rfl) (by kernel_rfl) ?_
  refine qt_seg (by repeat (first | exact PickL.nil | (apply PickL.cons; rfl))) fun K1 hK1 => ?_
  (refine qf_pure tabOk rfl rfl rfl ?_; refine qf_loadBa tabOk rfl rfl rfl ?_)
  refine qf_mk #[.bool false, .int .i64 cl] rfl (by kernel_rfl) rfl ?_
  (refine qf_loadBa tabOk rfl rfl rfl ?_; refine qf_loadABa tabOk rfl rfl rfl ?_; refine qf_pure tabOk rfl rfl rfl ?_; refine qf_loadBa tabOk rfl rfl rfl ?_; refine qf_nil ?_)
  refine hK1 _ _ (qt_alt (qt_seg (by repeat (first | exact PickL.nil | (apply PickL.cons; rfl))) fun K3 hK3 => ?_) (qt_alt (qt_seg (by repeat (first | exact PickL.nil | (apply PickL.cons; rfl))) fun K3 hK3 => ?_) (qt_seg (by repeat (first | exact PickL.nil | (apply PickL.cons; rfl))) fun K3 hK3 => ?_)))
  · refine qf_callv (val := .int .i64 (shootV r p (gvF vf (shot + 1) wt) shot wt st cl cl)) tabOk rfl rfl rfl rfl (fun w hs => ?_) ?_; exact shoot_ca w bp bd bm r p vf shot wt st cl cl (h0.keep hs.chg0) (hm0.keep hs.chg0) hr hp h4 hw3 hst hcl hcl hb
    (refine qf_nil ?_)
    refine hK3 _ _ (qt_alt (qt_seg (by repeat (first | exact PickL.nil | (apply PickL.cons; rfl))) fun K4 hK4 => ?_) (qt_seg (by repeat (first | exact PickL.nil | (apply PickL.cons; rfl))) fun K4 hK4 => ?_))
    · refine qf_alloc zero42 rfl (fun b6 => ?_)
      refine qf_alloc zero3 rfl (fun b7 => ?_)
      (refine qf_setA tabOk rfl rfl rfl rfl rfl (by repeat constructor) rfl ?_; refine qf_set tabOk rfl rfl rfl rfl (by repeat constructor) ?_; refine qf_nil ?_)
      exact hK4 _ _ (qt_nil (hK2 (b6, b7) _ _ ⟨rfl, rfl, rfl, rfl, rfl, trivial⟩ (by repeat constructor)))
    · refine qf_alloc zero3 rfl (fun b7 => ?_)
      refine qf_alloc zero42 rfl (fun b6 => ?_)
      (refine qf_setA tabOk rfl rfl rfl rfl rfl (by repeat constructor) rfl ?_; refine qf_set tabOk rfl rfl rfl rfl (by repeat constructor) ?_; refine qf_nil ?_)
      exact hK4 _ _ (qt_nil (hK2 (b6, b7) _ _ ⟨rfl, rfl, rfl, rfl, rfl, trivial⟩ (by repeat constructor)))
  · refine qf_alloc zero42 rfl (fun b6 => ?_)
    (refine qf_nil ?_)
    refine hK3 _ _ (qt_alt (qt_seg (by repeat (first | exact PickL.nil | (apply PickL.cons; rfl))) fun K4 hK4 => ?_) (qt_seg (by repeat (first | exact PickL.nil | (apply PickL.cons; rfl))) fun K4 hK4 => ?_))
    · refine qf_callv (val := .int .i64 (shootV r p (gvF vf (shot + 1) wt) shot wt st cl cl)) tabOk rfl rfl rfl rfl (fun w hs => ?_) ?_; exact shoot_ca w bp bd bm r p vf shot wt st cl cl (h0.keep hs.chg0) (hm0.keep hs.chg0) hr hp h4 hw3 hst hcl hcl hb
      skip
      refine qf_alloc zero3 rfl (fun b7 => ?_)
      (refine qf_setA tabOk rfl rfl rfl rfl rfl (by repeat constructor) rfl ?_; refine qf_set tabOk rfl rfl rfl rfl (by repeat constructor) ?_; refine qf_nil ?_)
      exact hK4 _ _ (qt_nil (hK2 (b6, b7) _ _ ⟨rfl, rfl, rfl, rfl, rfl, trivial⟩ (by repeat constructor)))
    · refine qf_alloc zero3 rfl (fun b7 => ?_)
      refine qf_callv (val := .int .i64 (shootV r p (gvF vf (shot + 1) wt) shot wt st cl cl)) tabOk rfl rfl rfl rfl (fun w hs => ?_) ?_; exact shoot_ca w bp bd bm r p vf shot wt st cl cl (h0.keep hs.chg0) (hm0.keep hs.chg0) hr hp h4 hw3 hst hcl hcl hb
      (refine qf_setA tabOk rfl rfl rfl rfl rfl (by repeat constructor) rfl ?_; refine qf_set tabOk rfl rfl rfl rfl (by repeat constructor) ?_; refine qf_nil ?_)
      exact hK4 _ _ (qt_nil (hK2 (b6, b7) _ _ ⟨rfl, rfl, rfl, rfl, rfl, trivial⟩ (by repeat constructor)))
  · refine qf_alloc zero3 rfl (fun b7 => ?_)
    (refine qf_nil ?_)
    refine hK3 _ _ (qt_alt (qt_seg (by repeat (first | exact PickL.nil | (apply PickL.cons; rfl))) fun K4 hK4 => ?_) (qt_seg (by repeat (first | exact PickL.nil | (apply PickL.cons; rfl))) fun K4 hK4 => ?_))
    · refine qf_callv (val := .int .i64 (shootV r p (gvF vf (shot + 1) wt) shot wt st cl cl)) tabOk rfl rfl rfl rfl (fun w hs => ?_) ?_; exact shoot_ca w bp bd bm r p vf shot wt st cl cl (h0.keep hs.chg0) (hm0.keep hs.chg0) hr hp h4 hw3 hst hcl hcl hb
      skip
      refine qf_alloc zero42 rfl (fun b6 => ?_)
      (refine qf_setA tabOk rfl rfl rfl rfl rfl (by repeat constructor) rfl ?_; refine qf_set tabOk rfl rfl rfl rfl (by repeat constructor) ?_; refine qf_nil ?_)
      exact hK4 _ _ (qt_nil (hK2 (b6, b7) _ _ ⟨rfl, rfl, rfl, rfl, rfl, trivial⟩ (by repeat constructor)))
    · refine qf_alloc zero42 rfl (fun b6 => ?_)
      refine qf_callv (val := .int .i64 (shootV r p (gvF vf (shot + 1) wt) shot wt st cl cl)) tabOk rfl rfl rfl rfl (fun w hs => ?_) ?_; exact shoot_ca w bp bd bm r p vf shot wt st cl cl (h0.keep hs.chg0) (hm0.keep hs.chg0) hr hp h4 hw3 hst hcl hcl hb
      (refine qf_setA tabOk rfl rfl rfl rfl rfl (by repeat constructor) rfl ?_; refine qf_set tabOk rfl rfl rfl rfl (by repeat constructor) ?_; refine qf_nil ?_)
      exact hK4 _ _ (qt_nil (hK2 (b6, b7) _ _ ⟨rfl, rfl, rfl, rfl, rfl, trivial⟩ (by repeat constructor)))
abbrev Plc := Nat × Nat × Nat × Int
def encP (x : Plc) : List Value := [plcV x.1 x.2.1 x.2.2.1 x.2.2.2]
def pl4 (r : Rg) (sh wt st : Nat) (i : Nat) : List Plc := [(sh, wt, st, -r.clicks + (i : Int))]
def pl3 (r : Rg) (sh wt st : Nat) : List Plc := (List.range (2 * r.clicks + 1).toNat).flatMap (pl4 r sh wt st)
def pl2 (r : Rg) (sh wt : Nat) : List Plc := (List.range r.drifts.length).flatMap (pl3 r sh wt)
def pl1 (r : Rg) (p : Ru) (sh : Nat) : List Plc := (List.range (p.waits + 1).toNat).flatMap (pl2 r sh)
/-- All situations, in their order. -/
def plcL (r : Rg) (p : Ru) : List Plc := (List.range 5).flatMap (pl1 r p)
theorem rangeF_succ {α : Type} (f : Nat → List α) (k : Nat) : (List.range (k + 1)).flatMap f = (List.range k).flatMap f ++ f k := by simp [List.range_succ]
theorem rangeF_split {α : Type} (f : Nat → List α) {k n : Nat} (h : k < n) : ∃ rest, (List.range n).flatMap f = (List.range k).flatMap f ++ (f k ++ rest) := by
  induction n with
  | zero => omega
  | succ n ih =>
    by_cases h2 : k = n
    · subst h2
      exact ⟨[], by rw [rangeF_succ, List.append_nil]⟩
    · obtain ⟨rest, hr⟩ := ih (by omega)
      exact ⟨rest ++ f n, by rw [rangeF_succ, hr]; simp⟩
theorem plcL_split (r : Rg) (p : Ru) {sh wt st i : Nat} (h1 : sh < 5) (h2 : wt < (p.waits + 1).toNat) (h3 : st < r.drifts.length) (h4 : i < (2 * r.clicks + 1).toNat) :
    ∃ post, plcL r p = ((List.range sh).flatMap (pl1 r p) ++ ((List.range wt).flatMap (pl2 r sh) ++ ((List.range st).flatMap (pl3 r sh wt) ++ (List.range i).flatMap (pl4 r sh wt st)))) ++ (sh, wt, st, -r.clicks + (i : Int)) :: post := by
  obtain ⟨a, ha⟩ := rangeF_split (pl1 r p) h1
  obtain ⟨b, hb⟩ := rangeF_split (pl2 r sh) h2
  obtain ⟨c, hc⟩ := rangeF_split (pl3 r sh wt) h3
  obtain ⟨d, hd⟩ := rangeF_split (pl4 r sh wt st) h4
  refine ⟨d ++ (c ++ (b ++ a)), ?_⟩
  unfold plcL
  rw [ha]
  have e1 : pl1 r p sh = (List.range (p.waits + 1).toNat).flatMap (pl2 r sh) := rfl
  have e2 : pl2 r sh wt = (List.range r.drifts.length).flatMap (pl3 r sh wt) := rfl
  have e3 : pl3 r sh wt st = (List.range (2 * r.clicks + 1).toNat).flatMap (pl4 r sh wt st) := rfl
  rw [e1, hb, e2, hc, e3, hd]
  simp [pl4]
/-- What is known of a function that is called for each situation. -/
theorem eachF {α σ : Type} {enc : α → List Value} {xs : List α} {w : World} {fv : Value} {L : σ → List Ck} {I : List α → σ → Prop} {s0 : σ}
    (hcb : ∀ pre x post s w', xs = pre ++ x :: post → I pre s → Sat w (DL (L s0)) (L s) w' → CaF Try.prog fv (enc x) w' (fun _ w'' => ∃ s', I (pre ++ [x]) s' ∧ Sat w' (DL (L s)) (L s') w''))
    {pre : List α} {x : α} {post : List α} {s : σ} (hx : xs = pre ++ x :: post) (hI : I pre s) {R : List Ck} : ∀ w', Sat w (DL (L s0)) ([un (L s)] ++ R) w' →
      CaF Try.prog fv (enc x) w' (fun v w'' => ∃ s', I (pre ++ [x]) s' ∧ Sat w' (DL (L s)) [un (L s')] w'') := fun w' hs => by
  have h1 : Sat w (DL (L s0)) (L s) w' := (Sat.un_iff.1 hs).sp (by
    have key : ∀ (A B : List Ck), Sp (A ++ B) A := by
      intro A B
      induction A with
      | nil => exact .nil
      | cons a A ih => exact .cons .z ih
    exact key _ _)
  exact (hcb pre x post s w' hx hI h1).mono fun v w'' ⟨s', h2, h3⟩ => ⟨s', h2, Sat.un1.2 h3⟩
set_option maxHeartbeats 4000000 in
theorem situations_ca {σ : Type} (w : World) (bp bd bm : Nat) (r : Rg) (p : Ru) (fv : Value) (L : σ → List Ck) (I : List Plc → σ → Prop) (s0 : σ) (tp td : TypeId) (cs : List Value) (hrg : RgC w cs r) (hr : r.Right) (hp : p.Right)
    (hplb : ∀ w', ChgP (DL (L s0)) w w' → Blk w' bp [.pointer (some ⟨bd, 0, none⟩), .int .i64 p.miss, .int .i64 p.click, .int .i64 p.wait, .int .i64 p.waits, .map (some bm)] tp) (hdkb : ∀ w', ChgP (DL (L s0)) w w' → Blk w' bd cs td)
    (hI0 : I [] s0) (hsat : Sat w (DL (L s0)) (L s0) w)
    (hcb : ∀ pre x post s w', plcL r p = pre ++ x :: post → I pre s → Sat w (DL (L s0)) (L s) w' → CaF Try.prog fv (encP x) w' (fun _ w'' => ∃ s', I (pre ++ [x]) s' ∧ Sat w' (DL (L s)) (L s') w'')) :
    Ca Try.prog 30 [.pointer (some ⟨bp, 0, none⟩), fv] w fun _ w' => ∃ s', I (plcL r p) s' ∧ Sat w (DL (L s0)) (L s') w' := by
  obtain ⟨lo, hi, ag, cg, ad, cd, af, cf, an, cn, rfl, hg, hdr, hf, hn⟩ := hrg
  have hC := hr.clicks
  have hD := hr.d2
  have hW := hp.waits
  refine q_of (H := [un (L s0)]) (Sat.un1.2 hsat) Try.func30 rfl (by simp [Try.ntmps30]) ?_
  (refine q_seq (q_region (ql_pure tabOk rfl rfl (q_nil (q_block ?_)))))
  refine q_loop (σ := Nat × σ) (fun q => q.1 ≤ 5 ∧ I ((List.range q.1).flatMap (pl1 r p)) q.2) (fun q => 5 - q.1) (fun q => [(0, .pointer (some ⟨bp, 0, none⟩)), (1, fv), (8, .int .i64 q.1)]) (fun q => [un (L q.2)]) (0, s0) ⟨by omega, hI0⟩ ⟨rfl, rfl, rfl, trivial⟩ (Sp.refl _) ?_
  rintro ⟨sh, s⟩ ⟨hsh, hI⟩ K1 hK1
  simp only at hsh hI
  dsimp only
  (refine q_seq (q_region (ql_pure tabOk rfl rfl (q_nil (q_seq ?_)))))
  refine q_if rfl (fun hc => ?_) (fun hc => ?_)
  · have hsh2 : sh < 5 := by omega
    clear hc
    (refine q_skip (q_seq (q_block (q_seq (q_region (ql_pure tabOk rfl rfl (ql_pure tabOk rfl rfl (q_nil (q_seq (q_region ?_))))))))); (iterate 4 refine ql_pure tabOk rfl rfl ?_); refine ql_loadG tabOk rfl rfl rfl (by assumption) (by rfl) ?_; refine ql_ar tabOk rfl rfl rfl rfl (by omega) (by omega) (ql_pure tabOk rfl rfl (q_nil (q_block ?_))))
    refine q_loop (σ := Nat × σ) (fun q => q.1 ≤ (p.waits + 1).toNat ∧ I ((List.range sh).flatMap (pl1 r p) ++ (List.range q.1).flatMap (pl2 r sh)) q.2) (fun q => (p.waits + 1).toNat - q.1) (fun q => [(0, .pointer (some ⟨bp, 0, none⟩)), (1, fv), (4, .int .i64 sh), (8, .int .i64 sh), (16, .int .i64 (p.waits + 1)), (17, .int .i64 q.1)]) (fun q => [un (L q.2)]) (0, s) ⟨by omega, by simpa using hI⟩ ⟨rfl, rfl, rfl, rfl, rfl, rfl, trivial⟩ (Sp.refl _) ?_
    clear hI
    rintro ⟨wt, s⟩ ⟨hwt, hI⟩ K2 hK2
    simp only at hwt hI
    dsimp only
    (refine q_seq (q_region (ql_pure tabOk rfl rfl (q_nil (q_seq ?_)))))
    refine q_if rfl (fun hc => ?_) (fun hc => ?_)
    · have hwt2 : wt < (p.waits + 1).toNat := by omega
      clear hc
      (refine q_skip (q_seq (q_block (q_seq (q_region (ql_pure tabOk rfl rfl (ql_pure tabOk rfl rfl (q_nil (q_seq (q_region ?_))))))))); (iterate 3 refine ql_pure tabOk rfl rfl ?_); refine ql_loadG tabOk rfl rfl rfl (by assumption) (by rfl) ?_; (iterate 3 refine ql_pure tabOk rfl rfl ?_); refine ql_loadG tabOk rfl rfl rfl (by assumption) (by rfl) ?_; refine ql_pure tabOk rfl rfl (ql_pure tabOk rfl rfl (q_nil (q_block ?_))))
      refine q_loop (σ := Nat × σ) (fun q => q.1 ≤ r.drifts.length ∧ I ((List.range sh).flatMap (pl1 r p) ++ ((List.range wt).flatMap (pl2 r sh) ++ (List.range q.1).flatMap (pl3 r sh wt))) q.2) (fun q => r.drifts.length - q.1) (fun q => [(0, .pointer (some ⟨bp, 0, none⟩)), (1, fv), (4, .int .i64 sh), (5, .int .i64 wt), (8, .int .i64 sh), (16, .int .i64 (p.waits + 1)), (17, .int .i64 wt), (28, .int .i64 r.drifts.length), (29, .int .i64 q.1)]) (fun q => [un (L q.2)]) (0, s) ⟨by omega, by simpa using hI⟩ ⟨rfl, rfl, rfl, rfl, rfl, rfl, rfl, rfl, rfl, trivial⟩ (Sp.refl _) ?_
      clear hI
      rintro ⟨st, s⟩ ⟨hst, hI⟩ K3 hK3
      simp only at hst hI
      dsimp only
      (refine q_seq (q_region (ql_pure tabOk rfl rfl (q_nil (q_seq ?_)))))
      refine q_if rfl (fun hc => ?_) (fun hc => ?_)
      · have hst2 : st < r.drifts.length := by omega
        clear hc
        (refine q_skip (q_seq (q_block (q_seq (q_region (ql_pure tabOk rfl rfl (ql_pure tabOk rfl rfl (q_nil (q_seq (q_region ?_))))))))); (iterate 3 refine ql_pure tabOk rfl rfl ?_); refine ql_loadG tabOk rfl rfl rfl (by assumption) (by rfl) ?_; (iterate 3 refine ql_pure tabOk rfl rfl ?_); refine ql_loadG tabOk rfl rfl rfl (by assumption) (by rfl) ?_; refine ql_neg tabOk rfl rfl (by omega) (by omega) (ql_pure tabOk rfl rfl (q_nil (q_block ?_))))
        refine q_loop (σ := Nat × σ) (fun q => q.1 ≤ (2 * r.clicks + 1).toNat ∧ I ((List.range sh).flatMap (pl1 r p) ++ ((List.range wt).flatMap (pl2 r sh) ++ ((List.range st).flatMap (pl3 r sh wt) ++ (List.range q.1).flatMap (pl4 r sh wt st)))) q.2) (fun q => (2 * r.clicks + 1).toNat - q.1) (fun q => [(0, .pointer (some ⟨bp, 0, none⟩)), (1, fv), (4, .int .i64 sh), (5, .int .i64 wt), (6, .int .i64 st), (7, .int .i64 (-r.clicks + (q.1 : Int))), (8, .int .i64 sh), (16, .int .i64 (p.waits + 1)), (17, .int .i64 wt), (28, .int .i64 r.drifts.length), (29, .int .i64 st)]) (fun q => [un (L q.2)]) (0, s) ⟨by omega, by simpa using hI⟩ ⟨rfl, rfl, rfl, rfl, rfl, lookI rfl (by simp), rfl, rfl, rfl, rfl, rfl, trivial⟩ (Sp.refl _) ?_
        clear hI
        rintro ⟨i, s⟩ ⟨hi, hI⟩ K4 hK4
        simp only at hi hI
        dsimp only
        (refine q_seq (q_seq (q_region ?_)); (iterate 4 refine ql_pure tabOk rfl rfl ?_); refine ql_loadG tabOk rfl rfl rfl (by assumption) (by rfl) ?_; (iterate 3 refine ql_pure tabOk rfl rfl ?_); refine ql_loadG tabOk rfl rfl rfl (by assumption) (by rfl) ?_; refine ql_pure tabOk rfl rfl (q_nil ?_))
        refine q_if rfl (fun hc => ?_) (fun hc => ?_)
        · have hi2 : i < (2 * r.clicks + 1).toNat := by omega
          clear hc
          obtain ⟨post, hpost⟩ := plcL_split r p hsh2 hwt2 hst2 hi2
          (refine q_skip (q_seq (q_block (q_region ?_))); (iterate 5 refine ql_pure tabOk rfl rfl ?_))
          refine ql_mk #[.int .i64 sh, .int .i64 wt, .int .i64 st, .int .i64 (-r.clicks + (i : Int))] rfl (by kernel_rfl) rfl ?_
          skip
          refine ql_callF [un (L s)] [] (DL (L s)) rfl rfl rfl (Sp.refl _) (fun b hb => ⟨_, .head _, hb⟩) (eachF hcb hpost hI) ?_
          rintro s2 v2 hI2
          (refine q_nil (q_blk (q_region (ql_pure tabOk rfl rfl (ql_ar tabOk rfl rfl rfl rfl (by omega) (by omega) (ql_pure tabOk rfl rfl (q_nil ?_)))))))
          exact hK4 (i + 1, s2) _ _ ⟨by simp only; omega, by rw [rangeF_succ]; simpa [pl4] using hI2⟩ (by simp only; omega) ⟨rfl, rfl, rfl, rfl, rfl, lookI rfl (by simp only; omega), rfl, rfl, rfl, rfl, rfl, trivial⟩ (Sp.refl _)
        · obtain rfl : i = (2 * r.clicks + 1).toNat := by omega
          (refine q_exit _ rfl (q_blk (q_region (ql_ar tabOk rfl rfl rfl rfl (by omega) (by omega) (ql_pure tabOk rfl rfl (q_nil ?_))))))
          exact hK3 (st + 1, s) _ _ ⟨by simp only; omega, by rw [rangeF_succ]; simpa [pl3] using hI⟩ (by simp only; omega) ⟨rfl, rfl, rfl, rfl, rfl, rfl, rfl, rfl, rfl, trivial⟩ (Sp.refl _)
      · obtain rfl : st = r.drifts.length := by omega
        (refine q_exit _ rfl (q_blk (q_region (ql_ar tabOk rfl rfl rfl rfl (by omega) (by omega) (ql_pure tabOk rfl rfl (q_nil ?_))))))
        exact hK2 (wt + 1, s) _ _ ⟨by simp only; omega, by rw [rangeF_succ]; simpa [pl2] using hI⟩ (by simp only; omega) ⟨rfl, rfl, rfl, rfl, rfl, rfl, trivial⟩ (Sp.refl _)
    · obtain rfl : wt = (p.waits + 1).toNat := by omega
      (refine q_exit _ rfl (q_blk (q_region (ql_ar tabOk rfl rfl rfl rfl (by omega) (by omega) (ql_pure tabOk rfl rfl (q_nil ?_))))))
      exact hK1 (sh + 1, s) _ _ ⟨by simp only; omega, by rw [rangeF_succ]; simpa [pl1] using hI⟩ (by simp only; omega) ⟨rfl, rfl, rfl, trivial⟩ (Sp.refl _)
  · obtain rfl : sh = 5 := by omega
    (refine q_exit _ rfl ?_)
    refine q_end tabOk rfl (by repeat constructor) fun w hs => ?_
    exact ⟨s, hI, Sat.un1.1 hs⟩
theorem sumR_congr (f g : Nat → Int) : ∀ n, (∀ i, i < n → f i = g i) → sumR f n = sumR g n
  | 0, _ => rfl
  | n + 1, h => by rw [sumR, sumR, sumR_congr f g n (fun i hi => h i (by omega)), h n (by omega)]
theorem shootV_congr (r : Rg) (p : Ru) (g g' : Nat → Int → Int) (shot wt st : Nat) (cl click : Int) (h : shot < 4 → ∀ t, t < r.drifts.length → g t click = g' t click) : shootV r p g shot wt st cl click = shootV r p g' shot wt st cl click := by
  unfold shootV
  congr 1
  split
  · unfold folS
    exact sumR_congr _ _ _ (fun t ht => by show _ * g t click = _ * g' t click; rw [h (by assumption) t ht])
  · rfl
theorem foldl_congr {α β : Type} (f f' : α → β → α) : ∀ (l : List β) (a : α), (∀ a, ∀ b ∈ l, f a b = f' a b) → l.foldl f a = l.foldl f' a
  | [], _, _ => rfl
  | b :: l, a, h => by
    rw [List.foldl_cons, List.foldl_cons, h a b List.mem_cons_self]
    exact foldl_congr f f' l _ (fun a b hb => h a b (List.mem_cons_of_mem _ hb))
theorem chClick_congr (r : Rg) (p : Ru) (g g' : Nat → Int → Int) (shot wt st : Nat) (cl : Int) (hc : -r.clicks ≤ cl ∧ cl ≤ r.clicks) (h : shot < 4 → ∀ t c, t < r.drifts.length → -r.clicks ≤ c ∧ c ≤ r.clicks → g t c = g' t c) : chClick r p g shot wt st cl = chClick r p g' shot wt st cl := by
  unfold chClick
  rw [shootV_congr r p g g' shot wt st cl cl (fun h4 t ht => h h4 t cl ht hc)]
  refine foldl_congr _ _ _ _ (fun a c hcl => ?_)
  have hcr := inB_iff.1 (clickL_in _ _ (inB_iff.2 hc) c hcl)
  unfold chStep
  rw [shootV_congr r p g g' shot wt st cl c (fun h4 t ht => h h4 t c ht hcr)]
theorem waitV_congr (r : Rg) (p : Ru) (h h' : Nat → Int → Int) (shot wt st : Nat) (cl : Int) (he : ∀ t, t < r.drifts.length → h t cl = h' t cl) : waitV r p h shot wt st cl = waitV r p h' shot wt st cl := by
  unfold waitV
  congr 1
  exact sumR_congr _ _ _ (fun t ht => by show _ * h t cl = _ * h' t cl; rw [he t ht])
theorem chV_congr (r : Rg) (p : Ru) (g g' h h' : Nat → Int → Int) (shot wt st : Nat) (cl : Int) (hc : -r.clicks ≤ cl ∧ cl ≤ r.clicks) (hg : shot < 4 → ∀ t c, t < r.drifts.length → -r.clicks ≤ c ∧ c ≤ r.clicks → g t c = g' t c) (hh : 0 < wt → ∀ t, t < r.drifts.length → h t cl = h' t cl) :
    chV r p g h shot wt st cl = chV r p g' h' shot wt st cl := by
  unfold chV
  simp only [chClick_congr r p g g' shot wt st cl hc hg]
  split
  · rename_i hw
    rw [waitV_congr r p h h' shot wt st cl (hh hw)]
  · rfl
/-- Some values, each the right one. -/
def GoodV (r : Rg) (p : Ru) (vf : Vf) : Prop := ∀ a b c d v, vf a b c d = some v → ∃ sh wt st : Nat, a = sh ∧ b = wt ∧ c = st ∧ sh < 5 ∧ (wt : Int) ≤ p.waits ∧ st < r.drifts.length ∧ (-r.clicks ≤ d ∧ d ≤ r.clicks) ∧ v = valV r p sh wt st d
theorem GoodV.at {r : Rg} {p : Ru} {vf : Vf} (h : GoodV r p vf) {sh wt st : Nat} {d : Int} (hs : (vf sh wt st d).isSome = true) : vf sh wt st d = some (valV r p sh wt st d) := by
  cases hv : vf sh wt st d with
  | none => rw [hv] at hs; cases hs
  | some v =>
    obtain ⟨sh', wt', st', h1, h2, h3, _, _, _, _, h4⟩ := h _ _ _ _ _ hv
    obtain rfl : sh = sh' := by omega
    obtain rfl : wt = wt' := by omega
    obtain rfl : st = st' := by omega
    rw [h4]
def LeV (vf vf' : Vf) : Prop := ∀ a b c d v, vf a b c d = some v → vf' a b c d = some v
theorem LeV.refl (vf : Vf) : LeV vf vf := fun _ _ _ _ _ h => h
theorem LeV.trans {a b c : Vf} (h : LeV a b) (g : LeV b c) : LeV a c := fun _ _ _ _ _ hv => g _ _ _ _ _ (h _ _ _ _ _ hv)
theorem LeV.some {vf vf' : Vf} (h : LeV vf vf') {a b c d : Int} (hs : (vf a b c d).isSome = true) : (vf' a b c d).isSome = true := by
  cases hv : vf a b c d with
  | none => rw [hv] at hs; cases hs
  | some v => rw [h _ _ _ _ _ hv]; rfl
def updF (vf : Vf) (a b c d v : Int) : Vf := fun a' b' c' d' => if a' = a ∧ b' = b ∧ c' = c ∧ d' = d then some v else vf a' b' c' d'
theorem updF_self (vf : Vf) (a b c d v : Int) : updF vf a b c d v a b c d = some v := by simp [updF]
theorem updF_lift (vf : Vf) (a b c d v : Int) : ∀ k, keyF k4 k → (if eqV k (plcV a b c d) = true then some (Value.int .i64 v) else liftF vf k) = liftF (updF vf a b c d v) k := by
  rintro _ ⟨xs, rfl, hx⟩
  obtain ⟨v1, l1, rfl, h1, hv1⟩ := fitV_cons hx
  obtain ⟨v2, l2, rfl, h2, hv2⟩ := fitV_cons h1
  obtain ⟨v3, l3, rfl, h3, hv3⟩ := fitV_cons h2
  obtain ⟨v4, l4, rfl, h4, hv4⟩ := fitV_cons h3
  have hl4 : l4 = [] := by cases l4 <;> simp [fitV] at h4 ⊢
  subst hl4
  have gi : ∀ {v : Value}, ((∃ q a, (some IntKind.i64 : Option IntKind) = some q ∧ v = .int q a) ∨ (∃ b, (some IntKind.i64 : Option IntKind) = none ∧ v = .bool b)) → ∃ a, v = .int .i64 a := by
    rintro v (⟨q, a, hq, rfl⟩ | ⟨b, hq, _⟩)
    · cases hq; exact ⟨a, rfl⟩
    · cases hq
  obtain ⟨x1, rfl⟩ := gi hv1
  obtain ⟨x2, rfl⟩ := gi hv2
  obtain ⟨x3, rfl⟩ := gi hv3
  obtain ⟨x4, rfl⟩ := gi hv4
  show (if (decide (x1 = a) && (decide (x2 = b) && (decide (x3 = c) && (decide (x4 = d) && true)))) = true then some (Value.int .i64 v) else (vf x1 x2 x3 x4).map (Value.int .i64)) = ((updF vf a b c d v) x1 x2 x3 x4).map (Value.int .i64)
  unfold updF
  by_cases h : x1 = a ∧ x2 = b ∧ x3 = c ∧ x4 = d
  · rw [if_pos h]
    obtain ⟨rfl, rfl, rfl, rfl⟩ := h
    simp
  · rw [if_neg h, if_neg (by simpa using h)]
theorem updF_good {r : Rg} {p : Ru} {vf : Vf} (h : GoodV r p vf) {sh wt st : Nat} {d : Int} (h5 : sh < 5) (hw : (wt : Int) ≤ p.waits) (hs : st < r.drifts.length) (hd : -r.clicks ≤ d ∧ d ≤ r.clicks) : GoodV r p (updF vf sh wt st d (valV r p sh wt st d)) := by
  intro a b c e v hv
  unfold updF at hv
  split at hv
  · rename_i hq
    obtain ⟨rfl, rfl, rfl, rfl⟩ := hq
    cases hv
    exact ⟨sh, wt, st, rfl, rfl, rfl, h5, hw, hs, hd, rfl⟩
  · exact h _ _ _ _ _ hv
theorem updF_le {r : Rg} {p : Ru} {vf : Vf} (h : GoodV r p vf) {sh wt st : Nat} {d : Int} : LeV vf (updF vf sh wt st d (valV r p sh wt st d)) := by
  intro a b c e v hv
  unfold updF
  split
  · rename_i hq
    obtain ⟨rfl, rfl, rfl, rfl⟩ := hq
    rw [← hv, h.at (by rw [hv]; rfl)]
  · exact hv
theorem val_fine (r : Rg) (hr : r.Right) (p : Ru) (hp : p.Right) (sh wt st : Nat) (cl : Int) (hw : (wt : Int) ≤ p.waits) (hs : st < r.drifts.length) (hc : -r.clicks ≤ cl ∧ cl ≤ r.clicks) : 0 ≤ valV r p sh wt st cl ∧ valV r p sh wt st cl ≤ 1000000000000000 := by
  have h1 := valV_bd r hr p hp (5 - sh) wt sh st cl rfl hw hs hc
  have hw3 : wt ≤ 3 := by have := hp.waits; omega
  have h2 := parts_bd r hr sh wt hw3
  have h3 := (mul_bd0 (show 0 ≤ 6000 * ((5 - sh : Nat) : Int) ∧ 6000 * ((5 - sh : Nat) : Int) ≤ 30000 by omega) (show 0 ≤ partsV r sh wt ∧ partsV r sh wt ≤ 3583180800 by omega)).2
  omega
theorem good_fine2 {r : Rg} (hr : r.Right) {p : Ru} (hp : p.Right) {vf : Vf} (h : GoodV r p vf) {sh wt : Nat} (hw : (wt : Int) ≤ p.waits) : FineV r vf sh wt := by
  intro t c ht hc
  cases hv : vf sh wt t c with
  | none =>
    have : gvF vf sh wt t c = 0 := by unfold gvF; rw [hv]; rfl
    rw [this]; omega
  | some v =>
    have : gvF vf sh wt t c = valV r p sh wt t c := by unfold gvF; rw [h.at (by rw [hv]; rfl)]; rfl
    rw [this]
    exact val_fine r hr p hp sh wt t c hw ht hc
end Go.Proofs.Ytgmmmkmekbiboab
