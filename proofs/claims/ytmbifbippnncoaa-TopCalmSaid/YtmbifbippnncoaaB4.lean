/- The engine, part B4: what a function hands back. -/
import Derived.Test.YtmbifbippnncoaaB3
namespace Go.Eng
open Go Go.RowKit

section
variable {P : Program} {T : Tab}
variable {ro : Cx} {n : Nat} {F : Fin} {w0 : World} {M : Nat → Prop} {k : List It} {ops : Array Oper} {rest : List Oper} {e : Env} {H Hq : List Ck}

/-- What the results hold. -/
inductive RVs (T : Tab) (e : Env) (H : List Ck) : List ResultVar → List Value → Prop where
  | nil : RVs T e H [] []
  | tmp {t : Nat} {v : Value} {rs : List ResultVar} {vs : List Value} : look e t = some v → RVs T e H rs vs → RVs T e H (.tmp t :: rs) (v :: vs)
  | cellA {t ty m b : Nat} {us : List Value} {bt : TypeId} {rs : List ResultVar} {vs : List Value} : look e t = some (.pointer (some ⟨b, 0, none⟩)) → find1 T.agg ty = some m → Ck.pt b us bt ∈ H → us.length = m → RVs T e H rs vs → RVs T e H (.cell t ty :: rs) (.agg us.toArray :: vs)
  | cell1 {t ty b : Nat} {v : Value} {bt : TypeId} {rs : List ResultVar} {vs : List Value} : look e t = some (.pointer (some ⟨b, 0, none⟩)) → has T.one ty = true → Ck.pt b [v] bt ∈ H → RVs T e H rs vs → RVs T e H (.cell t ty :: rs) (v :: vs)

def retV : List Value → Value
  | [v] => v
  | vs => .tuple vs.toArray

theorem mapM_run {α : Type} {f : α → Sem Value} {x : α} {xs : List α} {v : Value} {vs : List Value} {w : World} (h1 : (f x).run P w = .ok v w) (h2 : (xs.mapM f).run P w = .ok vs w) : ((x :: xs).mapM f).run P w = .ok (v :: vs) w := by
  rw [List.mapM_cons]
  simp only [Sem.run_bind, h1, Result.andThen_ok, h2]
  rfl

/-- One result. -/
def resOne (tmps : Array Value) : ResultVar → Sem Value
  | .tmp t => pure (tmps.getD t undef)
  | .cell a t => do loadVar t (← asAddr (tmps.getD a undef))

theorem rvs_run (hT : T.Ok P) {rs : List ResultVar} {vs : List Value} (h : RVs T e H rs vs) {a : Act} (hf : Fits n e a) {w : World} (hs : Sat w0 M H w) :
    (rs.mapM (resOne a.tmps)).run P w = .ok vs w := by
  induction h with
  | nil => rfl
  | tmp hl _ ih =>
    have h1 := hf.at_ _ _ hl
    exact mapM_run (by simp only [resOne, h1]; rfl) ih
  | @cellA t ty m b us bt rs vs hl ht hm hlen _ ih =>
    have h1 := hf.at_ _ _ hl
    have h2 := run_loadAB (P := P) (w := w) hT ht (hs.mem hm) hlen
    exact mapM_run (by simp only [resOne, h1]; simp [asAddr, h2]) ih
  | @cell1 t ty b v bt rs vs hl ht hm _ ih =>
    have h1 := hf.at_ _ _ hl
    have h2 : (loadVar ty ⟨b, 0, none⟩).run P w = .ok v w := by
      obtain ⟨r1, _⟩ := one_run hT ht w
      have hc := Blk.cell (hs.mem hm) 0
      simp [loadVar, r1, load, Sem.run, hc]
    exact mapM_run (by simp only [resOne, h1]; simp [asAddr, h2]) ih

theorem results_run (hT : T.Ok P) {fn : Func} {rs : List ResultVar} {vs : List Value} (hres : fn.results = rs.toArray) (h : RVs T e H rs vs) {a : Act} (hf : Fits n e a) {w : World} (hs : Sat w0 M H w) :
    (results fn a.tmps).run P w = .ok (retV vs) w := by
  have h1 := rvs_run hT h hf hs
  have e1 : results fn a.tmps = (do
      let vs ← fn.results.mapM (resOne a.tmps)
      pure (if h : vs.size = 1 then vs[0] else .tuple vs)) := by
    unfold results
    congr 1
  rw [e1, hres, List.mapM_toArray]
  have h2 : (List.toArray <$> rs.mapM (resOne a.tmps)).run P w = .ok vs.toArray w := by
    rw [map_eq_pure_bind]
    simp only [Sem.run_bind, h1, Result.andThen_ok]
    rfl
  simp only [Sem.run_bind, h2]
  rcases vs with _ | ⟨v, _ | ⟨u, vs⟩⟩ <;> simp [retV, Result.andThen]

theorem q_fin (hT : T.Ok P) {r : Option Nat} {fn : Func} {R : Value → World → Prop} {rs : List ResultVar} {vs : List Value} (hres : fn.results = rs.toArray) (h : RVs T e H rs vs) (hR : ∀ w, Sat w0 M H w → R (retV vs) w) : Q P ⟨r, []⟩ n (fun _ => fin P fn R .ret) w0 M [] e H :=
  .mk fun w hs => y_fin (fun a hf => results_run hT hres h hf hs) (hR w hs)
theorem q_end (hT : T.Ok P) {r : Option Nat} {fn : Func} {R : Value → World → Prop} {rs : List ResultVar} {vs : List Value} (hres : fn.results = rs.toArray) (h : RVs T e H rs vs) (hR : ∀ w, Sat w0 M H w → R (retV vs) w) : Q P ⟨r, []⟩ n (fin P fn R) w0 M [] e H :=
  .mk fun w hs _ hf hd => ⟨hd, retV vs, results_run hT hres h hf hs, _, rfl, hR w hs⟩
/-- .. of an activation that may bear a mark. -/
theorem q_finM (hT : T.Ok P) {fn : Func} {R : Value → World → Prop} {rs : List ResultVar} {vs : List Value} (hres : fn.results = rs.toArray) (h : RVs T e H rs vs) (hR : ∀ w, Sat w0 M H w → R (retV vs) w) : Q P ⟨none, []⟩ n (fun _ => finM P fn R .ret) w0 M [] e H :=
  q_finM0 (fun _ _ hf hs => results_run hT hres h hf hs) hR
theorem q_finMD (hT : T.Ok P) {D : Nat} {fn : Func} {R : Value → World → Prop} {rs : List ResultVar} {vs : List Value} {H' : List Ck} (hH : Rm H (dfr D) H') (hres : fn.results = rs.toArray) (h : RVs T e H' rs vs) (hR : ∀ w, Sat w0 M H' w → R (retV vs) w) : Q P ⟨none, [mark D]⟩ n (fun _ => finM P fn R .ret) w0 M [] e H :=
  q_finM1 hH (fun _ _ hf hs => results_run hT hres h hf hs) hR
theorem q_endM (hT : T.Ok P) {fn : Func} {R : Value → World → Prop} {rs : List ResultVar} {vs : List Value} (hres : fn.results = rs.toArray) (h : RVs T e H rs vs) (hR : ∀ w, Sat w0 M H w → R (retV vs) w) : Q P ⟨none, []⟩ n (finM P fn R) w0 M [] e H :=
  .mk fun w hs a hf hd => (q_finM hT hres h hR).h w hs a hf hd
theorem q_endMD (hT : T.Ok P) {D : Nat} {fn : Func} {R : Value → World → Prop} {rs : List ResultVar} {vs : List Value} {H' : List Ck} (hH : Rm H (dfr D) H') (hres : fn.results = rs.toArray) (h : RVs T e H' rs vs) (hR : ∀ w, Sat w0 M H' w → R (retV vs) w) : Q P ⟨none, [mark D]⟩ n (finM P fn R) w0 M [] e H :=
  .mk fun w hs a hf hd => (q_finMD hT hH hres h hR).h w hs a hf hd

theorem wpFlB_false {C1 C2 : World → Prop} {K : Act → World → Prop} : ∀ (l : List Oper) (bs : List Bool), (∀ x ∈ bs, x = false) → ∀ (a : Act) (w : World), wpFlL P ops C2 K l a w → wpFlB P ops C1 C2 K bs l a w
  | [], _, _, _, _, h => by simpa [wpFlL, wpFlB] using h
  | o :: l, bs, hb, a, w, h => by
    have h0 : bs.headD false = false := by
      cases bs with
      | nil => rfl
      | cons x bs => exact hb x List.mem_cons_self
    have h1 : ∀ x ∈ bs.tail, x = false := fun x hx => hb x (List.mem_of_mem_tail hx)
    simp only [wpFlL] at h
    simp only [wpFlB, h0, cond_false]
    by_cases hw : Region.wanted o (yielded ops a.tmps) = true
    · simp only [hw, if_true] at h ⊢
      by_cases he : eff o.op = true
      · simp only [he, if_true] at h ⊢
        exact h.mono fun v w' ⟨g1, g2⟩ => ⟨g1, wpFlB_false l _ h1 _ _ g2⟩
      · simp only [he] at h ⊢
        obtain ⟨v, hv, g2⟩ := h
        exact ⟨v, hv, wpFlB_false l _ h1 _ _ g2⟩
    · simp only [hw] at h ⊢
      exact wpFlB_false l _ h1 _ _ h

theorem Chg.old {w w1 w' : World} {D : Nat → Prop} (h : Chg [] w w1) (g : ChgP D w1 w') (hD : ∀ b, D b → w.heap.size ≤ b) : Chg [] w w' := (h.P0.upP g (fun k hk => .inr (hD k hk))).none

theorem Sat.un1 {w : World} {L : List Ck} : Sat w0 M [un L] w ↔ Sat w0 M L w := by
  have h := Sat.un_iff (w0 := w0) (M := M) (w := w) (L := L) (R := [])
  rwa [List.append_nil] at h

/-- What is known of the body, at a call of yield. -/
theorem yieldF {α σ : Type} {enc : α → List Value} {xs : List α} {w : World} {fv : Value} {L : σ → List Ck} {I : List α → σ → Prop} {E : σ → Prop} {s0 : σ}
    (hcb : ∀ pre x post s w', xs = pre ++ x :: post → I pre s → Sat w (DL (L s0)) (L s) w' → CaF P fv (enc x) w' (fun v w'' => ∃ s', ((v = .bool true ∧ I (pre ++ [x]) s') ∨ (v = .bool false ∧ E s')) ∧ Sat w' (DL (L s)) (L s') w''))
    {pre : List α} {x : α} {post : List α} {s : σ} (hx : xs = pre ++ x :: post) (hI : I pre s) {R : List Ck} : ∀ w', Sat w (DL (L s0)) ([un (L s)] ++ R) w' →
      CaF P fv (enc x) w' (fun v w'' => ∃ s', ((v = .bool true ∧ I (pre ++ [x]) s') ∨ (v = .bool false ∧ E s')) ∧ Sat w' (DL (L s)) [un (L s')] w'') := fun w' hs => by
  have h1 : Sat w (DL (L s0)) (L s) w' := (Sat.un_iff.1 hs).sp (by
    have := Sp.refl (L s)
    have key : ∀ (A B : List Ck), Sp (A ++ B) A := by
      intro A B
      induction A with
      | nil => exact .nil
      | cons a A ih => exact .cons .z ih
    exact key _ _)
  exact (hcb pre x post s w' hx hI h1).mono fun v w'' ⟨s', h2, h3⟩ => ⟨s', h2, Sat.un1.2 h3⟩

/-- A region that draws, whose first c operations stand ahead of all that changes Hm. -/
theorem q_drawS {id : Nat} {l : List Oper} (c : Nat) (Hq2 Hm : List Ck) (hH : Sp H (Hm ++ Hq2)) (hm : P.follows .mixedOrders = true) (hB : flB l.toArray = true)
    (hbs : flagB l.toArray (List.replicate c true ++ List.replicate (l.length - c) false) = true)
    (h : ∀ K1 : Act → World → Prop, (∀ e' H' Hm', Sp H' (Hm' ++ Hq2) → QF P ro n F w0 M k l.toArray Hq2 (l.drop c) e' Hm' → Q P ro n F w0 M (.k K1 :: k) e' H') → QF P ro n F w0 M (.k K1 :: k) l.toArray H (l.take c) e []) :
    Q P ro n F w0 M (.code (.region id l.toArray true) :: k) e H := .mk fun w hs a hf hd => by
  have hs1 : Sat w0 M H { w with drawn := w.drawn + 1 } := hs.keep (Chg.drew (N := []) w)
  have h12 : ∀ w, Sat w0 M H w → Sat w0 M Hq2 w := fun w hw => (hw.sp hH).right
  let bs := List.replicate c true ++ List.replicate (l.length - c) false
  refine wpIn_region_fl2 hm (flB_spec hB) (K := fun a w => S P ro.ro F k .normal a w) (Cq := flagC (Sat w0 M H) (Sat w0 M Hq2) bs) (Ce := flagC (Sat w0 M H) (Sat w0 M Hq2) bs)
    (fun i j oi oj => flagB_spec hbs h12 i j oi oj) (fun i => ?_) (fun _ _ h => h) ?_
  · unfold flagC
    cases bs.getD i false
    · exact h12 _ hs1
    · exact hs1
  · have h2 := wpFlB_eq (P := P) (ops := l.toArray) (C1 := Sat w0 M H) (C2 := Sat w0 M Hq2) (bs := bs) (K := fun a w => S P ro.ro F k .normal a w) l 0 (by simp)
    rw [show List.range l.toArray.size = List.range' 0 l.length from by simp [List.range_eq_range'], h2]
    refine yb_seg (P := P) (ro := ro) (n := n) (F := F) (k := k) (C1 := Sat w0 M H) (C2 := Sat w0 M Hq2) (bs := bs) (l := l) true c (by simp [bs]) (by simp [bs]) (fun K1 hK1 => ?_) a hf hd
    have h3 := h K1 (fun e' H' Hm' hsp hq => .mk fun w' hw' a' hf' hd' => ?_)
    · exact h3 _ (by simpa using hs1)
    · refine hK1 e' w' (fun a2 hf2 hd2 => ?_) a' hf' hd'
      have h4 : bs.drop c = List.replicate (l.length - c) false := by simp [bs]
      rw [h4]
      exact wpFlB_false _ _ (by simp) a2 w' (hq w' (hw'.sp hsp) a2 hf2 hd2)
end
end Go.Eng
