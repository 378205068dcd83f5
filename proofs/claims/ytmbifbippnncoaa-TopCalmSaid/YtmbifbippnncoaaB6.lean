/- The engine, part B6: other pieces for the same memory. -/
import Derived.Test.YtmbifbippnncoaaB5
namespace Go.Eng
open Go Go.RowKit

section
variable {P : Program} {T : Tab}
variable {ro : Cx} {n n' : Nat} {F : Fin} {w0 : World} {M : Nat → Prop} {k : List It} {ops : Array Oper} {rest : List Oper} {e : Env} {H H' Hq L R : List Ck}

theorem q_conv (hc : ∀ w, Sat w0 M H w → Sat w0 M H' w) (h : Q P ro n F w0 M k e H') : Q P ro n F w0 M k e H := .mk fun w hs => h.h w (hc w hs)
theorem ql_conv (hc : ∀ w, Sat w0 M H w → Sat w0 M H' w) (h : QL P ro n F w0 M k ops rest e H') : QL P ro n F w0 M k ops rest e H := .mk fun w hs => h.h w (hc w hs)

theorem q_fact {p : Prop} (hp : ∀ w, Sat w0 M H w → p) (h : p → Q P ro n F w0 M k e H) : Q P ro n F w0 M k e H := .mk fun w hs => (h (hp w hs)).h w hs
theorem ql_fact {p : Prop} (hp : ∀ w, Sat w0 M H w → p) (h : p → QL P ro n F w0 M k ops rest e H) : QL P ro n F w0 M k ops rest e H := .mk fun w hs => (h (hp w hs)).h w hs
theorem Sat.own_one {w : World} {v : Value} {t sz m : Nat} {xs : List Value} (h : Sat w0 M H w) (hm : Ck.ow v t sz m xs ∈ H) : oneV v = true := by
  have hp : w.ownsRow 0 t sz v m xs := h.all _ hm
  rcases hp.2 with ⟨rfl, _⟩ | ⟨g, cap, cur, rfl, _⟩ <;> rfl
theorem Blk.rd {w : World} {b m : Nat} {cs : List Value} {t : TypeId} (h : Blk w b cs t) (hl : cs.length = m) (c : Nat) : Rd w b (b + 1) (.slice (some ⟨b, 0, none⟩) m c) 1 m cs :=
  ⟨by omega, .inr ⟨b, 0, c, rfl, fun _ => ⟨Nat.le_refl _, Nat.lt_succ_self _, h.lt⟩, fun j _ => by rw [Blk.cell h]; simp⟩⟩
theorem Blk.rdP {w : World} {b m : Nat} {xs sp : List Value} {t : TypeId} (h : Blk w b (xs ++ sp) t) (hl : xs.length = m) (c : Nat) : Rd w b (b + 1) (.slice (some ⟨b, 0, none⟩) m c) 1 m xs :=
  ⟨by omega, .inr ⟨b, 0, c, rfl, fun _ => ⟨Nat.le_refl _, Nat.lt_succ_self _, h.lt⟩, fun j hj => by rw [Blk.cell h, Nat.zero_add, List.getElem?_append_left hj]⟩⟩
theorem cellsOf_one : ∀ (es : List Value), (∀ e ∈ es, oneV e = true) → cellsOf es = es
  | [], _ => rfl
  | e :: es, h => by
    have h1 := cellsOf_one es (fun x hx => h x (List.mem_cons_of_mem _ hx))
    have h2 := h e List.mem_cons_self
    have h3 : e.cells.toList = [e] := by cases e <;> first | rfl | simp [oneV] at h2
    simp only [cellsOf, List.flatMap_cons] at h1 ⊢
    rw [h1, h3]
    rfl
/-- Elements of one cell each. -/
theorem RdE.one {w : World} {lo hi : Nat} {v : Value} {es : List Value} (h : Rd w lo hi v 1 es.length es) (h1 : ∀ e ∈ es, oneV e = true) : RdE w lo hi v 1 es :=
  ⟨by rw [cellsOf_one es h1]; exact h, fun e he => by have := h1 e he; cases e <;> first | rfl | simp [oneV] at this⟩

theorem Sat.ownil {w : World} (h : Sat w0 M H w) (t sz : Nat) : Sat w0 M (.ow (.slice none 0 0) t sz 0 [] :: H) w :=
  h.add (Chg.refl _ _) (own_nil _ _ _ _) (fun b hb => by simp [Ck.D, Value.ownBlock] at hb)

theorem Sat.pt_ow {w : World} {b : Nat} {cs : List Value} {t sz m : Nat} (hl : cs.length = m * sz) (hm : m ≤ 1000000) (h : Sat w0 M (.pt b cs t :: R) w) : Sat w0 M (.ow (.slice (some ⟨b, 0, none⟩) m m) t sz m cs :: R) w := by
  have hb : Blk w b cs t := h.blk List.mem_cons_self
  refine h.rep .z (Chg.refl [] w) (by simp) ⟨hl, .inr ⟨b, m, cs.toArray, rfl, Nat.zero_le _, hb, Nat.le_refl _, by simp only [maxLen]; omega, by simpa using hl, ?_⟩⟩ (fun x hx => ?_)
  · rw [← hl]; simp
  · have hx' : x = b := by simpa [Ck.D, Value.ownBlock, eq_comm] using hx
    subst hx'
    exact ⟨.inl rfl, hb.lt⟩

theorem Sat.ow_pt {w : World} {v : Value} {t sz m : Nat} {xs : List Value} (hm : 0 < m) (h : Sat w0 M (.ow v t sz m xs :: R) w) : ∃ g cap spare, v = .slice (some ⟨g, 0, none⟩) m cap ∧ Sat w0 M (.pt g (xs ++ spare) t :: R) w := by
  have hp : w.ownsRow 0 t sz v m xs := h.all _ List.mem_cons_self
  have hbd := h.bd _ List.mem_cons_self
  obtain ⟨hl, h2 | ⟨g, cap, cur, rfl, _, hg, hmc, _, hcs, htake⟩⟩ := hp
  · omega
  · refine ⟨g, cap, cur.toList.drop (m * sz), rfl, h.rep .z (Chg.refl [] w) (by simp) ?_ (fun x hx => ?_)⟩
    · show w.heap[g]? = _
      rw [hg, ← htake, List.take_append_drop]
    · have hx' : x = g := hx
      subst hx'
      exact ⟨.inl rfl, (Array.getElem?_eq_some_iff.1 hg).1⟩

/-- A slice of our own that is not empty is a block, with something behind. -/
theorem q_ow {v : Value} {t sz m : Nat} {xs : List Value} (hm : 0 < m) (h : ∀ g cap spare, v = .slice (some ⟨g, 0, none⟩) m cap → Q P ro n F w0 M k e (.pt g (xs ++ spare) t :: R)) : Q P ro n F w0 M k e (.ow v t sz m xs :: R) := .mk fun w hs => by
  obtain ⟨g, cap, spare, hv, hs'⟩ := hs.ow_pt hm
  exact (h g cap spare hv).h w hs'

theorem Sat.un_perm {w : World} {L L' : List Ck} (hp : L.Perm L') (h : Sat w0 M (un L :: R) w) : Sat w0 M (un L' :: R) w :=
  Sat.un_iff.2 ((Sat.un_iff.1 h).perm (hp.append_right R))
theorem Sat.un_in {w : World} {c : Ck} (h : Sat w0 M (c :: un L :: R) w) : Sat w0 M (un (c :: L) :: R) w := by
  have h1 : Sat w0 M (un L :: c :: R) w := h.perm (.swap _ _ _)
  refine Sat.un_iff.2 ((Sat.un_iff.1 h1).perm ?_)
  exact List.perm_middle
theorem Sat.un_out {w : World} {c : Ck} (h : Sat w0 M (un (c :: L) :: R) w) : Sat w0 M (c :: un L :: R) w := by
  have h1 : Sat w0 M (L ++ c :: R) w := (Sat.un_iff.1 h).perm List.perm_middle.symm
  exact (Sat.un_iff.2 h1).perm (.swap _ _ _)
theorem Sat.un_nil {w : World} (h : Sat w0 M R w) : Sat w0 M (un [] :: R) w := Sat.un_iff.2 h
theorem Sat.un_mem {w : World} {c : Ck} (h : Sat w0 M H w) (hu : un L ∈ H) (hc : c ∈ L) : c.p w := by
  obtain ⟨h1, _, _⟩ := (h.all (un L) hu : (un L).p w)
  exact h1 c hc
end
end Go.Eng
