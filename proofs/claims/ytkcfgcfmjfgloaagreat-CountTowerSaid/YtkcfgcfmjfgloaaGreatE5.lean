/- Tables of calls as oracles of the evaluator; words and laws for functions printed out of the code. -/
import Derived.Test.YtkcfgcfmjfgloaaGreatE4
namespace Go.Ev
open Go

mutual
/-- No pointer in it. -/
def flat : AV → Bool
  | .ptr _ _ | .sl _ _ _ _ | .mp _ => false
  | .fn _ a b => flatL a && flatL b
  | .agg l | .tup l => flatL l
  | _ => true
def flatL : List AV → Bool
  | [] => true
  | x :: l => flat x && flatL l
end
mutual
theorem CRel.flat {φ ψ : Phi} : ∀ (x : AV) (v : Value), flat x = true → CRel φ x v → CRel ψ x v
  | .bool _, _, _, e | .int _ _, _, _, e | .nilp, _, _, e | .nils, _, _, e | .nilm, _, _, e | .nilfn, _, _, e => by simpa only [CRel] using e
  | .str _, _, _, e => by simpa only [CRel] using e
  | .ptr _ _, _, h, _ => by simp [Ev.flat] at h
  | .sl _ _ _ _, _, h, _ => by simp [Ev.flat] at h
  | .mp _, _, h, _ => by simp [Ev.flat] at h
  | .fn f a b, v, h, e => by
    simp only [Ev.flat, Bool.and_eq_true] at h
    simp only [CRel] at e ⊢; obtain ⟨x, y, hv, ha, hb⟩ := e; exact ⟨x, y, hv, CRelL.flat _ _ h.1 ha, CRelL.flat _ _ h.2 hb⟩
  | .agg l, v, h, e => by
    simp only [Ev.flat] at h
    simp only [CRel] at e ⊢; obtain ⟨x, hv, ha⟩ := e; exact ⟨x, hv, CRelL.flat _ _ h ha⟩
  | .tup l, v, h, e => by
    simp only [Ev.flat] at h
    simp only [CRel] at e ⊢; obtain ⟨x, hv, ha⟩ := e; exact ⟨x, hv, CRelL.flat _ _ h ha⟩
theorem CRelL.flat {φ ψ : Phi} : ∀ (l : List AV) (vs : List Value), flatL l = true → CRelL φ l vs → CRelL ψ l vs
  | [], _, _, e => by simpa only [CRelL] using e
  | x :: xs, vs, h, e => by
    simp only [flatL, Bool.and_eq_true] at h
    simp only [CRelL] at e ⊢
    obtain ⟨v, ws, hv, h1, h2⟩ := e
    exact ⟨v, ws, hv, CRel.flat _ _ h.1 h1, CRelL.flat _ _ h.2 h2⟩
end

def H00 : AH := ⟨0, .e⟩
def phi0 : Phi := fun _ => none
theorem rel00 (w : World) : Rel phi0 H00 w := ⟨fun b p h => (by cases h), fun b o h => (by cases h), fun b o p h => (by cases h), fun b b' o o' p p' h => (by cases h)⟩

theorem Ext.empty {φ' : Phi} {H' : AH} {w w' : World} (hx : Ext phi0 H00 w φ' H' w') {φ : Phi} {H : AH} (hR : Rel φ H w) : Ext φ H w φ H w' := by
  have same : ∀ c, c < w.heap.size → w'.heap[c]? = w.heap[c]? := fun c hc => hx.frame c hc fun b o p hb => by cases hb
  refine ⟨⟨hR.dom, hR.live, fun b o p hb hp => ?_, hR.inj⟩, φ.le_refl, fun _ _ => rfl, Nat.le_refl _, hx.size, fun c hc _ => same c hc, fun b o p h1 h2 => .inr ⟨b, o, p, h1, h2, rfl⟩, fun _ _ _ => rfl, hx.os, hx.tape, hx.output⟩
  obtain ⟨x, hx1, hr⟩ := hR.obj b o p hb hp
  exact ⟨x, by rw [same p.c (hR.lt hb hp)]; exact hx1, hr⟩

/-- A call without pointers, proved on the empty heap, holds on every heap and leaves it as it is. -/
theorem CallSound.anyHeap {P : Program} {f : FuncId} {args : List AV} {v : AV} {H' : AH} (h : CallSound P f args H00 v H') (ha : flatL args = true) (hv : flat v = true) (H : AH) : CallSound P f args H v H := by
  intro φ w args' hR hargs
  refine Calls.mono (h phi0 w args' (rel00 w) (CRelL.flat _ _ ha hargs)) fun e w' he => ?_
  obtain ⟨u, φ', rfl, hc, hx⟩ := he
  exact ⟨u, φ, rfl, CRel.flat _ _ hv hc, hx.empty hR⟩

/-- The table of such calls. -/
structure MemoE where
  f : FuncId
  args : List AV
  v : AV
noncomputable def memoOf (t : List MemoE) : Rec := fun f args H =>
  (t.find? fun e => Nat.beq e.f f && sameL (beqA 8) e.args args).map fun e => (e.v, H)
structure MemoE.Holds (P : Program) (e : MemoE) : Prop where
  enter : ∃ fn, P.funcs[e.f]? = some fn ∧ fn.body.isNone = false ∧ (fn.name == "runtime.NumGoroutine") = false
  call : ∀ H, CallSound P e.f e.args H e.v H
theorem memo_ok {P : Program} {t : List MemoE} (h : ∀ e ∈ t, e.Holds P) : RecOk P (memoOf t) := by
  have key : ∀ f args H r, memoOf t f args H = some r → ∃ e ∈ t, e.f = f ∧ e.args = args ∧ r = (e.v, H) := by
    intro f args H r hr
    simp only [memoOf, Option.map_eq_some_iff] at hr
    obtain ⟨e, he, rfl⟩ := hr
    have h1 := List.find?_some he
    simp only [Bool.and_eq_true] at h1
    exact ⟨e, List.mem_of_find?_eq_some he, eq_of_beq' h1.1, sameL_eq (beqA_eq 8) _ _ h1.2, rfl⟩
  refine ⟨fun f args H r hr => ?_, fun f args H v H' hr => ?_⟩
  · obtain ⟨e, he, rfl, _⟩ := key f args H r hr
    exact (h e he).enter
  · obtain ⟨e, he, rfl, rfl, e2⟩ := key f args H _ hr
    cases e2
    exact (h e he).call _
end Go.Ev

/- The frame rule: a call proved on a part of the heap. -/
namespace Go.Ev
open Go

theorem Ext.part {φ φ' : Phi} {Hp Hq H H2 : AH} {w w' : World} (hx : Ext φ Hp w φ' Hq w') (hR : Rel φ H w) (hsub : ∀ b o, Hp.get b = some o → H.get b = some o) (hn : Hp.next = H.next) (hn2 : H2.next = Hq.next)
    (h1 : ∀ b, b < Hp.next → Hp.get b = none → H2.get b = H.get b) (h2 : ∀ b o, b < Hp.next → Hp.get b = some o → H2.get b = Hq.get b) (h3 : ∀ b o, Hp.next ≤ b → H2.get b = some o → Hq.get b = some o) : Ext φ H w φ' H2 w' := by
  have look : ∀ b o, H2.get b = some o → Hq.get b = some o ∨ (b < Hp.next ∧ Hp.get b = none ∧ H.get b = some o) := by
    intro b o hb
    rcases Nat.lt_or_ge b Hp.next with hlt | hge
    · cases hp : Hp.get b with
      | none => exact .inr ⟨hlt, rfl, by rw [← h1 b hlt hp]; exact hb⟩
      | some o' => exact .inl (by rw [← h2 b o' hlt hp]; exact hb)
    · exact .inl (h3 b o hge hb)
  have apart : ∀ b o p, Hp.get b = none → H.get b = some o → φ b = some p → ∀ b0 o0 p0, Hp.get b0 = some o0 → φ b0 = some p0 → p0.c ≠ p.c := by
    intro b o p hnone hb hp b0 o0 p0 h4 h5 e
    have := hR.inj b0 b o0 o p0 p (hsub b0 o0 h4) hb h5 hp e
    subst this
    rw [hnone] at h4; cases h4
  refine ⟨⟨fun b p hb => by rw [hn2]; exact hx.rel.dom b p hb, fun b o hb => ?_, fun b o p hb hp => ?_, fun b b' o o' p p' g1 g2 g3 g4 e => ?_⟩, hx.le, fun b hb => hx.old b (by omega), by rw [hn2, ← hn]; exact hx.next, hx.size, fun c hc hno => ?_, fun b o p hb hp => ?_, fun b hb hnone => ?_, hx.os, hx.tape, hx.output⟩
  · rcases look b o hb with h | ⟨hlt, _, _⟩
    · rw [hn2]; exact hx.rel.live b o h
    · have := hx.next; omega
  · rcases look b o hb with h | ⟨hlt, hnone, h⟩
    · exact hx.rel.obj b o p h hp
    · rw [hx.old b hlt] at hp
      obtain ⟨x, hx1, hr⟩ := hR.obj b o p h hp
      exact ⟨x, by rw [hx.frame p.c (hR.lt h hp) (apart b o p hnone h hp)]; exact hx1, hr.mono hx.le⟩
  · have cross : ∀ b b' o o' p p', Hq.get b = some o → φ' b = some p → b' < Hp.next → Hp.get b' = none → H.get b' = some o' → φ' b' = some p' → p.c = p'.c → False := by
      intro b b' o o' p p' a1 a2 a3 a4 a5 a6 e
      rw [hx.old b' a3] at a6
      rcases hx.image b o p a1 a2 with hnew | ⟨b0, o0, p0, c1, c2, c3⟩
      · have := hR.lt a5 a6
        omega
      · exact apart b' o' p' a4 a5 a6 b0 o0 p0 c1 c2 (c3.trans e)
    rcases look b o g1 with k1 | ⟨l1, n1, k1⟩ <;> rcases look b' o' g2 with k2 | ⟨l2, n2, k2⟩
    · exact hx.rel.inj b b' o o' p p' k1 k2 g3 g4 e
    · exact (cross b b' o o' p p' k1 g3 l2 n2 k2 g4 e).elim
    · exact (cross b' b o' o p' p k2 g4 l1 n1 k1 g3 e.symm).elim
    · rw [hx.old b l1] at g3; rw [hx.old b' l2] at g4
      exact hR.inj b b' o o' p p' k1 k2 g3 g4 e
  · exact hx.frame c hc fun b o p hb hp => hno b o p (hsub b o hb) hp
  · rcases look b o hb with h | ⟨hlt, hnone, h⟩
    · rcases hx.image b o p h hp with h4 | ⟨b0, o0, p0, c1, c2, c3⟩
      · exact .inl h4
      · exact .inr ⟨b0, o0, p0, hsub b0 o0 c1, c2, c3⟩
    · rw [hx.old b hlt] at hp
      exact .inr ⟨b, o, p, h, hp, rfl⟩
  · rw [← hn] at hb
    cases hp : Hp.get b with
    | none => exact h1 b hb hp
    | some o =>
      rw [h2 b o hb hp, hx.virt b hb hnone, hp]
      exact (hsub b o hp).symm

theorem Rel.part {φ : Phi} {Hp H : AH} {w : World} (hR : Rel φ H w) (hsub : ∀ b o, Hp.get b = some o → H.get b = some o) (hn : Hp.next = H.next) : Rel φ Hp w :=
  ⟨fun b p hb => by rw [hn]; exact hR.dom b p hb, fun b o hb => by rw [hn]; exact hR.live b o (hsub b o hb), fun b o p hb hp => hR.obj b o p (hsub b o hb) hp,
    fun b b' o o' p p' h1 h2 h3 h4 e => hR.inj b b' o o' p p' (hsub _ _ h1) (hsub _ _ h2) h3 h4 e⟩
theorem CallSound.part {P : Program} {f : FuncId} {args : List AV} {v : AV} {Hp Hq H H2 : AH} (h : CallSound P f args Hp v Hq) (hsub : ∀ b o, Hp.get b = some o → H.get b = some o) (hn : Hp.next = H.next) (hn2 : H2.next = Hq.next)
    (h1 : ∀ b, b < Hp.next → Hp.get b = none → H2.get b = H.get b) (h2 : ∀ b o, b < Hp.next → Hp.get b = some o → H2.get b = Hq.get b) (h3 : ∀ b o, Hp.next ≤ b → H2.get b = some o → Hq.get b = some o) : CallSound P f args H v H2 := by
  intro φ w args' hR hargs
  refine Calls.mono (h φ w args' (hR.part hsub hn) hargs) fun e w' he => ?_
  obtain ⟨u, φ', rfl, hc, hx⟩ := he
  exact ⟨u, φ', rfl, hc, hx.part hR hsub hn hn2 h1 h2 h3⟩
end Go.Ev

/- Calls proved once on a part of the heap, as a table. -/
namespace Go.Ev
open Go

/-- A call: on a heap that holds 'pre' and has n blocks; its value; then n' blocks, with these changes. -/
structure Ch where
  f : FuncId
  args : List AV
  n : Nat
  pre : List (Nat × AObj)
  v : AV
  n' : Nat
  ch : List (Nat × Option AObj)

section
noncomputable def putsT (l : List (Nat × Option AObj)) (t : T AObj) : T AObj := List.rec (motive := fun _ => T AObj → T AObj) (fun t => t) (fun p _ ih t => ih (t.put p.2 p.1)) l t
theorem putsT_cons (p : Nat × Option AObj) (l : List (Nat × Option AObj)) (t : T AObj) : putsT (p :: l) t = putsT l (t.put p.2 p.1) := rfl
theorem putsT_get_no : ∀ (l : List (Nat × Option AObj)) (t : T AObj) (b : Nat), (∀ p ∈ l, p.1 ≠ b) → (putsT l t).get b = t.get b
  | [], _, _, _ => rfl
  | p :: l, t, b, h => by
    rw [putsT_cons, putsT_get_no l _ b fun q hq => h q (by simp [hq]), T.get_put, if_neg (fun e => h p (by simp) e.symm)]
theorem putsT_get_in : ∀ (l : List (Nat × Option AObj)) (t t' : T AObj) (b : Nat), (∃ p ∈ l, p.1 = b) → (putsT l t).get b = (putsT l t').get b
  | [], _, _, _, ⟨p, hp, _⟩ => by cases hp
  | p :: l, t, t', b, h => by
    rw [putsT_cons, putsT_cons]
    by_cases hl : ∃ q ∈ l, q.1 = b
    · exact putsT_get_in l _ _ b hl
    · have hno : ∀ q ∈ l, q.1 ≠ b := fun q hq e => hl ⟨q, hq, e⟩
      rw [putsT_get_no l _ b hno, putsT_get_no l _ b hno, T.get_put, T.get_put]
      obtain ⟨q, hq, e⟩ := h
      rcases List.mem_cons.1 hq with rfl | hq
      · rw [if_pos e.symm, if_pos e.symm]
      · exact absurd e (hno q hq)
end

noncomputable def Ch.preH (e : Ch) : AH := ⟨e.n, putsT (e.pre.map fun p => (p.1, some p.2)) .e⟩
noncomputable def Ch.post (e : Ch) (H : AH) : AH := onH (fun _ t => ⟨e.n', putsT e.ch t⟩) H
theorem Ch.post_get (e : Ch) (H : AH) (b : Nat) : (e.post H).get b = (putsT e.ch H.t).get b := rfl
theorem Ch.post_next (e : Ch) (H : AH) : (e.post H).next = e.n' := rfl

/-- What an entry has to keep. -/
structure Ch.Holds (P : Program) (e : Ch) : Prop where
  enter : ∃ fn, P.funcs[e.f]? = some fn ∧ fn.body.isNone = false ∧ (fn.name == "runtime.NumGoroutine") = false
  call : ∃ Hq, CallSound P e.f e.args e.preH e.v Hq ∧ Hq.next = e.n' ∧ (∀ p ∈ e.pre, (e.post e.preH).get p.1 = Hq.get p.1) ∧ (∀ p ∈ e.ch, e.n ≤ p.1 → (e.post e.preH).get p.1 = Hq.get p.1) ∧ (∀ p ∈ e.ch, p.1 < e.n → ∃ q ∈ e.pre, q.1 = p.1)

theorem Ch.pre_get (e : Ch) (b : Nat) : (∃ p ∈ e.pre, p.1 = b) ∨ e.preH.get b = none := by
  by_cases h : ∃ p ∈ e.pre, p.1 = b
  · exact .inl h
  · refine .inr ?_
    show (putsT _ _).get b = none
    rw [putsT_get_no]
    · rfl
    · intro p hp he
      obtain ⟨q, hq, rfl⟩ := List.mem_map.1 hp
      exact h ⟨q, hq, he⟩

theorem Ch.sound {P : Program} {e : Ch} (h : e.Holds P) {H : AH} (hn : e.n = H.next) (hsub : ∀ b o, e.preH.get b = some o → H.get b = some o) : CallSound P e.f e.args H e.v (e.post H) := by
  obtain ⟨Hq, hc, hq, hpre, hnew, hch⟩ := h.call
  intro φ w args' hR hargs
  refine Calls.mono (hc φ w args' (hR.part hsub hn) hargs) fun en w' he => ?_
  obtain ⟨u, φ', rfl, hcr, hx⟩ := he
  refine ⟨u, φ', rfl, hcr, hx.part hR hsub hn (by rw [Ch.post_next, hq]) ?_ ?_ ?_⟩
  · intro b hb hnone
    rw [Ch.post_get]
    by_cases hin : ∃ p ∈ e.ch, p.1 = b
    · exfalso
      obtain ⟨p, hp, rfl⟩ := hin
      obtain ⟨q, hqm, hqe⟩ := hch p hp hb
      -- q is in pre: the part holds something there
      have : ∀ (l : List (Nat × AObj)) (t : T AObj), (∃ q ∈ l, q.1 = p.1) → ((putsT (l.map fun p => (p.1, some p.2)) t).get p.1).isSome = true := by
        intro l
        induction l with
        | nil => rintro t ⟨q, hq, _⟩; cases hq
        | cons x l ih =>
          intro t ⟨q, hq, he⟩
          rw [List.map_cons, putsT_cons]
          by_cases hl : ∃ q ∈ l, q.1 = p.1
          · exact ih _ hl
          · rw [putsT_get_no]
            · rcases List.mem_cons.1 hq with rfl | hq
              · rw [T.get_put, if_pos he.symm]; rfl
              · exact absurd ⟨q, hq, he⟩ hl
            · intro y hy hye
              obtain ⟨z, hz, rfl⟩ := List.mem_map.1 hy
              exact hl ⟨z, hz, hye⟩
      have h2 := this e.pre .e ⟨q, hqm, hqe⟩
      have h3 : e.preH.get p.1 = none := hnone
      change (e.preH.get p.1).isSome = true at h2
      rw [h3] at h2; cases h2
    · exact putsT_get_no _ _ _ fun p hp he => hin ⟨p, hp, he⟩
  · intro b o hb hpo
    rcases e.pre_get b with ⟨p, hp, rfl⟩ | h0
    · rw [← hpre p hp, Ch.post_get, Ch.post_get]
      by_cases hin : ∃ q ∈ e.ch, q.1 = p.1
      · exact putsT_get_in _ _ _ _ hin
      · have hno : ∀ q ∈ e.ch, q.1 ≠ p.1 := fun q hq he => hin ⟨q, hq, he⟩
        rw [putsT_get_no _ _ _ hno, putsT_get_no _ _ _ hno]
        exact (hsub _ _ hpo).trans hpo.symm
    · rw [h0] at hpo; cases hpo
  · intro b o hb hbo
    rw [Ch.post_get] at hbo
    by_cases hin : ∃ p ∈ e.ch, p.1 = b
    · obtain ⟨p, hp, rfl⟩ := hin
      rw [← hnew p hp hb, Ch.post_get, ← hbo]
      exact putsT_get_in _ _ _ _ ⟨p, hp, rfl⟩
    · rw [putsT_get_no _ _ _ fun p hp he => hin ⟨p, hp, he⟩] at hbo
      have hl := hR.live b o hbo
      have : e.preH.next = e.n := rfl
      omega
end Go.Ev

/- The tables as oracles; the checks that the kernel evaluates. -/
namespace Go.Ev
open Go

noncomputable section
def entEq (a b : AV × AV × Nat) : Bool := bt (beqA 20 a.1 b.1) (bt (beqA 20 a.2.1 b.2.1) (Nat.beq a.2.2 b.2.2) false) false
def entsEq (x : List (AV × AV × Nat)) : List (AV × AV × Nat) → Bool :=
  List.rec (motive := fun _ => List (AV × AV × Nat) → Bool) (fun y => List.rec true (fun _ _ _ => false) y)
    (fun a _ ih y => List.rec false (fun b y _ => bt (entEq a b) (ih y) false) y) x
def objEq (a b : AObj) : Bool :=
  match a with
  | .cells l => match b with | .cells m => sameL (beqA 20) l m | _ => false
  | .map es c => match b with | .map fs d => bt (Nat.beq c d) (entsEq es fs) false | _ => false
  | .iter m s l t => match b with | .iter m' s' l' t' => bt (Nat.beq m m') (bt (Nat.beq s s') (bt (Nat.beq t t') (eqL l l') false) false) false | _ => false
def objEqO (a b : Option AObj) : Bool := oc a (oc b true fun _ => false) fun x => oc b false fun y => objEq x y
end

theorem entEq_eq {a b : AV × AV × Nat} (h : entEq a b = true) : a = b := by
  obtain ⟨h1, h2⟩ := bt_true' h
  obtain ⟨h3, h4⟩ := bt_true' h2
  obtain ⟨a1, a2, a3⟩ := a
  obtain ⟨b1, b2, b3⟩ := b
  have e1 := beqA_eq 20 _ _ h1
  have e2 := beqA_eq 20 _ _ h3
  have e3 := eq_of_beq' h4
  simp only at e1 e2 e3
  rw [e1, e2, e3]
theorem entsEq_eq : ∀ (x y : List (AV × AV × Nat)), entsEq x y = true → x = y
  | [], [], _ => rfl
  | [], _ :: _, h => by cases h
  | _ :: _, [], h => by cases h
  | a :: x, b :: y, h => by
    obtain ⟨h1, h2⟩ := bt_true' (show bt (entEq a b) (entsEq x y) false = true from h)
    rw [entEq_eq h1, entsEq_eq x y h2]
theorem objEq_eq {a b : AObj} (h : objEq a b = true) : a = b := by
  cases a <;> cases b <;> simp only [objEq, Bool.false_eq_true] at h
  · rw [sameL_eq (beqA_eq 20) _ _ h]
  · obtain ⟨h1, h2⟩ := bt_true' h
    rw [eq_of_beq' h1, entsEq_eq _ _ h2]
  · obtain ⟨h1, h2⟩ := bt_true' h
    obtain ⟨h3, h4⟩ := bt_true' h2
    obtain ⟨h5, h6⟩ := bt_true' h4
    rw [eqL_eq] at h6
    rw [eq_of_beq' h1, eq_of_beq' h3, eq_of_beq' h5, beq_iff_eq.1 h6]
theorem objEqO_eq {a b : Option AObj} (h : objEqO a b = true) : a = b := by
  cases a <;> cases b
  · rfl
  · cases h
  · cases h
  · rw [objEq_eq h]

theorem allL_mem {α : Type} {f : α → Bool} {l : List α} (h : allL f l = true) : ∀ x ∈ l, f x = true := allL_eq h

noncomputable section
/-- Does an entry fit? -/
def fits (e : Ch) (f : FuncId) (args : List AV) (H : AH) : Bool :=
  bt (Nat.beq e.f f) (bt (Nat.beq e.n (onH (fun n _ => n) H)) (bt (sameL (beqA 20) e.args args) (allL (fun p => objEqO (H.get p.1) (some p.2)) e.pre) false) false) false
def chOrc (t : List Ch) (next : Rec) : Rec :=
  List.rec (motive := fun _ => Rec) next (fun e _ ih f args H => bt (fits e f args H) (some (e.v, e.post H)) (ih f args H)) t
/-- The kernel's check of an entry. -/
def ck (P : Program) (orc : Rec) (fuel : Nat) (e : Ch) : Bool :=
  oc (ev P loopFuel orc fuel e.f e.args e.preH) false fun r => un r fun v Hq =>
    bt (beqA 20 e.v v) (bt (Nat.beq (onH (fun n _ => n) Hq) e.n') (bt (allL (fun p => objEqO ((e.post e.preH).get p.1) (Hq.get p.1)) e.pre)
      (allL (fun p => bt (Nat.blt p.1 e.n) (allL (fun q => bt (Nat.beq q.1 p.1) false true) e.pre |> fun b => bt b false true) (objEqO ((e.post e.preH).get p.1) (Hq.get p.1))) e.ch) false) false) false
end

theorem pre_sub {e : Ch} {H : AH} (h : ∀ p ∈ e.pre, H.get p.1 = some p.2) : ∀ b o, e.preH.get b = some o → H.get b = some o := by
  intro b o hb
  have key : ∀ (l : List (Nat × AObj)) (t : T AObj), (∀ p ∈ l, H.get p.1 = some p.2) → (putsT (l.map fun p => (p.1, some p.2)) t).get b = some o → t.get b = some o ∨ H.get b = some o := by
    intro l
    induction l with
    | nil => intro t _ h; exact .inl h
    | cons x l ih =>
      intro t hl hget
      rw [List.map_cons, putsT_cons] at hget
      rcases ih _ (fun p hp => hl p (by simp [hp])) hget with h1 | h1
      · rw [T.get_put] at h1
        split at h1
        · rename_i hbx; subst hbx
          cases h1
          exact .inr (hl x (by simp))
        · exact .inl h1
      · exact .inr h1
  rcases key e.pre .e h hb with h1 | h1
  · cases h1
  · exact h1

theorem chOrc_ok {P : Program} {next : Rec} (hn : RecOk P next) : ∀ {t : List Ch}, (∀ e ∈ t, e.Holds P) → RecOk P (chOrc t next)
  | [], _ => hn
  | e :: t, h => by
    have ih := chOrc_ok hn (t := t) fun x hx => h x (by simp [hx])
    have key : ∀ f args H r, chOrc (e :: t) next f args H = some r → (fits e f args H = true ∧ r = (e.v, e.post H)) ∨ chOrc t next f args H = some r := by
      intro f args H r hr
      rcases bt_eq2 (show bt (fits e f args H) (some (e.v, e.post H)) (chOrc t next f args H) = some r from hr) with ⟨h1, h2⟩ | ⟨_, h2⟩
      · cases h2; exact .inl ⟨h1, rfl⟩
      · exact .inr h2
    have fit : ∀ f args H, fits e f args H = true → e.f = f ∧ e.n = H.next ∧ e.args = args ∧ ∀ p ∈ e.pre, H.get p.1 = some p.2 := by
      intro f args H hf
      obtain ⟨h1, h2⟩ := bt_true' hf
      obtain ⟨h3, h4⟩ := bt_true' h2
      obtain ⟨h5, h6⟩ := bt_true' h4
      exact ⟨eq_of_beq' h1, eq_of_beq' h3, sameL_eq (beqA_eq 20) _ _ h5, fun p hp => objEqO_eq (allL_mem h6 p hp)⟩
    refine ⟨fun f args H r hr => ?_, fun f args H v H' hr => ?_⟩
    · rcases key f args H r hr with ⟨h1, _⟩ | h1
      · obtain ⟨rfl, _⟩ := fit f args H h1
        exact (h e (by simp)).enter
      · exact ih.enter f args H r h1
    · rcases key f args H _ hr with ⟨h1, h2⟩ | h1
      · obtain ⟨rfl, h3, rfl, h4⟩ := fit f args H h1
        cases h2
        exact Ch.sound (h e (by simp)) h3 (pre_sub h4)
      · exact ih.call f args H v H' h1

theorem ck_sound {P : Program} {orc : Rec} (hr : RecOk P orc) (hmix : P.follows .mixedOrders = true) {fuel : Nat} {e : Ch} (h : ck P orc fuel e = true) : e.Holds P := by
  obtain ⟨r, hev, h1⟩ := oc_some_true h
  obtain ⟨v, Hq⟩ := r
  obtain ⟨h2, h3⟩ := bt_true' (show bt (beqA 20 e.v v) _ false = true from h1)
  obtain ⟨h4, h5⟩ := bt_true' h3
  obtain ⟨h6, h7⟩ := bt_true' h5
  have hv := beqA_eq 20 _ _ h2
  subst hv
  have hok := ev_sound (lf := loopFuel) hmix hr fuel
  refine ⟨hok.enter _ _ _ _ hev, Hq, hok.call _ _ _ _ _ hev, eq_of_beq' h4, fun p hp => objEqO_eq (allL_mem h6 p hp), fun p hp hle => ?_, fun p hp hlt => ?_⟩
  · have h8 := allL_mem h7 p hp
    have hb : Nat.blt p.1 e.n = false := by rw [blt_eq]; simp; exact hle
    rw [hb] at h8
    exact objEqO_eq h8
  · have h8 := allL_mem h7 p hp
    have hb : Nat.blt p.1 e.n = true := by rw [blt_eq]; simpa using hlt
    rw [hb] at h8
    have h9 : bt (allL (fun q : Nat × AObj => bt (Nat.beq q.1 p.1) false true) e.pre) false true = true := h8
    rcases Classical.em (∃ q ∈ e.pre, q.1 = p.1) with h | h
    · exact h
    · exfalso
      have : allL (fun q : Nat × AObj => bt (Nat.beq q.1 p.1) false true) e.pre = true := by
        have all : ∀ (l : List (Nat × AObj)), (∀ q ∈ l, q.1 ≠ p.1) → allL (fun q : Nat × AObj => bt (Nat.beq q.1 p.1) false true) l = true := by
          intro l
          induction l with
          | nil => intro _; rfl
          | cons x l ih =>
            intro hx
            show (Bool.rec false (allL _ l) (bt (Nat.beq x.1 p.1) false true) : Bool) = true
            rw [beq_no (hx x (by simp))]
            exact ih fun q hq => hx q (by simp [hq])
        exact all e.pre fun q hq he => h ⟨q, hq, he⟩
      rw [this] at h9; cases h9
end Go.Ev

/- The tables as one oracle, looked up by the function's number; the checks that the kernel evaluates. -/
namespace Go.Ev
open Go

noncomputable section
def selC (f : Nat) (t : List Ch) : List Ch := List.rec (motive := fun _ => List Ch) [] (fun e _ ih => bt (Nat.beq e.f f) (e :: ih) ih) t
def selM (f : Nat) (t : List MemoE) : List MemoE := List.rec (motive := fun _ => List MemoE) [] (fun e _ ih => bt (Nat.beq e.f f) (e :: ih) ih) t
def memoGo (args : List AV) (H : AH) (next : Ans) (t : List MemoE) : Ans :=
  List.rec (motive := fun _ => Ans) next (fun e _ ih => bt (sameL (beqA 20) e.args args) (some (e.v, H)) ih) t
def chGo (f : FuncId) (args : List AV) (H : AH) (next : Ans) (t : List Ch) : Ans :=
  List.rec (motive := fun _ => Ans) next (fun e _ ih => bt (fits e f args H) (some (e.v, e.post H)) ih) t
/-- The memos, the entries, then what stands behind. -/
def tabOrc (ms : List MemoE) (cs : List Ch) (next : Rec) : Rec := fun f args H => memoGo args H (chGo f args H (next f args H) (selC f cs)) (selM f ms)
/-- The kernel's check of a memo. -/
def ckM (P : Program) (orc : Rec) (fuel : Nat) (e : MemoE) : Bool :=
  oc (ev P loopFuel orc fuel e.f e.args H00) false fun r => un r fun v _ => bt (flatL e.args) (bt (flat e.v) (beqA 20 e.v v) false) false
def noRec : Rec := fun _ _ _ => none
end

theorem selC_mem {f : Nat} : ∀ {t : List Ch} {e : Ch}, e ∈ selC f t → e ∈ t ∧ e.f = f
  | [], _, h => by cases h
  | x :: t, e, h => by
    have h' : e ∈ bt (Nat.beq x.f f) (x :: selC f t) (selC f t) := h
    cases hx : Nat.beq x.f f with
    | true =>
      rw [hx] at h'
      rcases List.mem_cons.1 (show e ∈ x :: selC f t from h') with rfl | h1
      · exact ⟨by simp, eq_of_beq' hx⟩
      · have := selC_mem h1; exact ⟨by simp [this.1], this.2⟩
    | false =>
      rw [hx] at h'
      have := selC_mem (show e ∈ selC f t from h'); exact ⟨by simp [this.1], this.2⟩
theorem selM_mem {f : Nat} : ∀ {t : List MemoE} {e : MemoE}, e ∈ selM f t → e ∈ t ∧ e.f = f
  | [], _, h => by cases h
  | x :: t, e, h => by
    have h' : e ∈ bt (Nat.beq x.f f) (x :: selM f t) (selM f t) := h
    cases hx : Nat.beq x.f f with
    | true =>
      rw [hx] at h'
      rcases List.mem_cons.1 (show e ∈ x :: selM f t from h') with rfl | h1
      · exact ⟨by simp, eq_of_beq' hx⟩
      · have := selM_mem h1; exact ⟨by simp [this.1], this.2⟩
    | false =>
      rw [hx] at h'
      have := selM_mem (show e ∈ selM f t from h'); exact ⟨by simp [this.1], this.2⟩
theorem memoGo_eq {args : List AV} {H : AH} {next : Ans} : ∀ {t : List MemoE} {r : AV × AH}, memoGo args H next t = some r → (∃ e ∈ t, e.args = args ∧ r = (e.v, H)) ∨ next = some r
  | [], _, h => .inr h
  | e :: t, r, h => by
    rcases bt_eq2 (show bt (sameL (beqA 20) e.args args) (some (e.v, H)) (memoGo args H next t) = some r from h) with ⟨h1, h2⟩ | ⟨_, h2⟩
    · cases h2; exact .inl ⟨e, by simp, sameL_eq (beqA_eq 20) _ _ h1, rfl⟩
    · rcases memoGo_eq h2 with ⟨x, hx, h3⟩ | h3
      · exact .inl ⟨x, by simp [hx], h3⟩
      · exact .inr h3
theorem fits_eq {e : Ch} {f : FuncId} {args : List AV} {H : AH} (hf : fits e f args H = true) : e.f = f ∧ e.n = H.next ∧ e.args = args ∧ ∀ p ∈ e.pre, H.get p.1 = some p.2 := by
  obtain ⟨h1, h2⟩ := bt_true' hf
  obtain ⟨h3, h4⟩ := bt_true' h2
  obtain ⟨h5, h6⟩ := bt_true' h4
  exact ⟨eq_of_beq' h1, eq_of_beq' h3, sameL_eq (beqA_eq 20) _ _ h5, fun p hp => objEqO_eq (allL_mem h6 p hp)⟩
theorem chGo_eq {f : FuncId} {args : List AV} {H : AH} {next : Ans} : ∀ {t : List Ch} {r : AV × AH}, chGo f args H next t = some r → (∃ e ∈ t, fits e f args H = true ∧ r = (e.v, e.post H)) ∨ next = some r
  | [], _, h => .inr h
  | e :: t, r, h => by
    rcases bt_eq2 (show bt (fits e f args H) (some (e.v, e.post H)) (chGo f args H next t) = some r from h) with ⟨h1, h2⟩ | ⟨_, h2⟩
    · cases h2; exact .inl ⟨e, by simp, h1, rfl⟩
    · rcases chGo_eq h2 with ⟨x, hx, h3⟩ | h3
      · exact .inl ⟨x, by simp [hx], h3⟩
      · exact .inr h3

theorem tabOrc_ok {P : Program} {ms : List MemoE} {cs : List Ch} {next : Rec} (hm : ∀ e ∈ ms, e.Holds P) (hc : ∀ e ∈ cs, e.Holds P) (hn : RecOk P next) : RecOk P (tabOrc ms cs next) := by
  have key : ∀ f args H r, tabOrc ms cs next f args H = some r → (∃ e ∈ ms, e.f = f ∧ e.args = args ∧ r = (e.v, H)) ∨ (∃ e ∈ cs, fits e f args H = true ∧ r = (e.v, e.post H)) ∨ next f args H = some r := by
    intro f args H r h
    rcases memoGo_eq (show memoGo args H _ (selM f ms) = some r from h) with ⟨e, he, h1, h2⟩ | h1
    · obtain ⟨h3, h4⟩ := selM_mem he
      exact .inl ⟨e, h3, h4, h1, h2⟩
    · rcases chGo_eq h1 with ⟨e, he, h2, h3⟩ | h2
      · exact .inr (.inl ⟨e, (selC_mem he).1, h2, h3⟩)
      · exact .inr (.inr h2)
  refine ⟨fun f args H r hr => ?_, fun f args H v H' hr => ?_⟩
  · rcases key f args H r hr with ⟨e, he, rfl, _⟩ | ⟨e, he, h1, _⟩ | h1
    · exact (hm e he).enter
    · obtain ⟨rfl, _⟩ := fits_eq h1
      exact (hc e he).enter
    · exact hn.enter f args H r h1
  · rcases key f args H _ hr with ⟨e, he, rfl, rfl, h1⟩ | ⟨e, he, h1, h2⟩ | h1
    · cases h1; exact (hm e he).call _
    · obtain ⟨rfl, h3, rfl, h4⟩ := fits_eq h1
      cases h2
      exact Ch.sound (hc e he) h3 (pre_sub h4)
    · exact hn.call f args H v H' h1

theorem ckM_sound {P : Program} {orc : Rec} (hr : RecOk P orc) (hmix : P.follows .mixedOrders = true) {fuel : Nat} {e : MemoE} (h : ckM P orc fuel e = true) : e.Holds P := by
  obtain ⟨r, hev, h1⟩ := oc_some_true h
  obtain ⟨v, Hq⟩ := r
  obtain ⟨h2, h3⟩ := bt_true' (show bt (flatL e.args) (bt (flat e.v) (beqA 20 e.v v) false) false = true from h1)
  obtain ⟨h4, h5⟩ := bt_true' h3
  have hv := beqA_eq 20 _ _ h5
  subst hv
  have hok := ev_sound (lf := loopFuel) hmix hr fuel
  exact ⟨hok.enter _ _ _ _ hev, fun H => (hok.call _ _ _ _ _ hev).anyHeap h2 h4 H⟩

theorem all_nil {α : Type} {p : α → Prop} : ∀ e ∈ ([] : List α), p e := by intro e h; cases h
theorem all_cons {α : Type} {p : α → Prop} {x : α} {l : List α} (h : p x) (hl : ∀ e ∈ l, p e) : ∀ e ∈ x :: l, p e := by
  intro e he
  rcases List.mem_cons.1 he with rfl | he
  · exact h
  · exact hl e he

@[reducible] def i (n : Nat) : AV := .int .i64 (.ofNat n)
@[reducible] def u (n : Nat) : AV := .int .u32 (.ofNat n)
@[reducible] def tt : AV := .bool true
@[reducible] def ff : AV := .bool false
@[reducible] def nl : AV := .nils
@[reducible] def sx (b o n c : Nat) : AV := .sl b o n (.ex c)
@[reducible] def sl (b o n c : Nat) : AV := .sl b o n (.lo c)
end Go.Ev

/- Words of the twins. -/
namespace Go.Ev
open Go
def Code.sa : Code → Code | .seq a _ => a | _ => .skip
def Code.sb : Code → Code | .seq _ b => b | _ => .skip
def Code.ct : Code → Code | .cond _ a _ => a | _ => .skip
def Code.ce : Code → Code | .cond _ _ b => b | _ => .skip
def Code.bb : Code → Code | .block _ a => a | _ => .skip
def Code.lb : Code → Code | .loop a => a | _ => .skip
noncomputable section
def E0 : Nat → Env → AH → Ans := fun _ _ _ => none
/-- A condition. -/
def ifA (x : AV) (a b : Ans) : Ans := onBool (fun t => bt t a b) x
def callF (rec : Rec) (f : FuncId) (l : List AV) (H : AH) (k : AV → AH → Ans) : Ans := ob (rec f l H) fun r => un r k
def callV (rec : Rec) (x : AV) (l : List AV) (H : AH) (k : AV → AH → Ans) : Ans := onFn (fun g first cap => ob (rec g (appL first (appL l cap)) H) fun r => un r k) x
def rdA (c : (AV → AH → Ans) → Ans) : Option AV := ob (c fun v H => some (v, H)) fun r => un r fun v _ => some v
def pendR (i : Nat) (rd : AH → Option AV) (H : AH) (P : List Pend) (k : List Pend → Ans) : Ans := ob (ob (rd H) fun w => some (⟨i, rd, w⟩ :: P)) k
def pendG (i : Nat) (want : Bool) (g : AV) (rd : AH → Option AV) (H : AH) (P : List Pend) (k : List Pend → Ans) : Ans :=
  ob (oc (onGuard none (fun b => bt (bt want b (bt b false true)) (some rd) none) g) (some P) fun rd => ob (rd H) fun w => some (⟨i, rd, w⟩ :: P)) k
def pendC (anc : Nat) (H : AH) (P : List Pend) (k : List Pend → Ans) : Ans := ob (bt (pendOk anc H P) (some P) none) k
end
end Go.Ev

/- Laws of the operations, as a twin uses them. -/
namespace Go.Ev
open Go

theorem wrap_u32 (n : Int) : IntKind.u32.wrap n = n % 4294967296 := by simp [IntKind.wrap, IntKind.bits, IntKind.signed]
theorem wrap_u64 (n : Int) : IntKind.u64.wrap n = n % 18446744073709551616 := by simp [IntKind.wrap, IntKind.bits, IntKind.signed]
theorem wrap_u8 (n : Int) : IntKind.u8.wrap n = n % 256 := by simp [IntKind.wrap, IntKind.bits, IntKind.signed]
theorem wrap_i64 {n : Int} (h0 : -9223372036854775808 ≤ n) (h1 : n ≤ 9223372036854775807) : IntKind.i64.wrap n = n := by
  simp only [IntKind.wrap, IntKind.bits, IntKind.signed]
  simp
  split <;> omega

section
variable {β : Type}
theorem lenSA_nil (k : AV → Option β) : lenSA .nils k = k (.int .i64 0) := rfl
theorem lenSA_sl (b o n : Nat) (c : ACap) (k : AV → Option β) : lenSA (.sl b o n c) k = k (.int .i64 n) := rfl
theorem binI_of {f : BF} {j : IntKind} {x y : Int} {v : AV} (h : f j x y = some v) (k : AV → Option β) : binI f (.int j x) (.int j y) k = k v := by
  show bt (kindEq j j) (ob (f j x y) k) none = k v
  have : kindEq j j = true := by cases j <;> rfl
  rw [this, h]; rfl
theorem binH_of {f : BF} {j j' : IntKind} {x y : Int} {v : AV} (h : f j x y = some v) (k : AV → Option β) : binH f (.int j x) (.int j' y) k = k v := by
  show ob (f j x y) k = k v
  rw [h]; rfl
theorem add_k (j : IntKind) (x y : Int) (k : AV → Option β) : binI fAdd (.int j x) (.int j y) k = k (.int j (j.wrap (x + y))) := binI_of (by simp [fAdd, wrapA_eq, addI_eq]) k
theorem sub_k (j : IntKind) (x y : Int) (k : AV → Option β) : binI fSub (.int j x) (.int j y) k = k (.int j (j.wrap (x - y))) := binI_of (by simp [fSub, wrapA_eq, subI_eq]) k
theorem mul_k (j : IntKind) (x y : Int) (k : AV → Option β) : binI fMul (.int j x) (.int j y) k = k (.int j (j.wrap (x * y))) := binI_of (by simp [fMul, wrapA_eq, mulI_eq]) k
theorem bt_not' (b : Bool) : bt b false true = !b := by cases b <;> rfl
theorem lss_k (j : IntKind) (x y : Int) (k : AV → Option β) : binI fLss (.int j x) (.int j y) k = k (.bool (decide (x < y))) := binI_of (by simp [fLss, ltA_eq]) k
theorem gtr_k (j : IntKind) (x y : Int) (k : AV → Option β) : binI fGtr (.int j x) (.int j y) k = k (.bool (decide (y < x))) := binI_of (by simp [fGtr, ltA_eq]) k
theorem leq_k (j : IntKind) (x y : Int) (k : AV → Option β) : binI fLeq (.int j x) (.int j y) k = k (.bool (decide (x ≤ y))) := binI_of (by simp [fLeq, ltA_eq, bt_not', Int.not_lt, ← decide_not]) k
theorem geq_k (j : IntKind) (x y : Int) (k : AV → Option β) : binI fGeq (.int j x) (.int j y) k = k (.bool (decide (y ≤ x))) := binI_of (by simp [fGeq, ltA_eq, bt_not', Int.not_lt, ← decide_not]) k
theorem eql_k (j : IntKind) (x y : Int) (k : AV → Option β) : binI fEql (.int j x) (.int j y) k = k (.bool (x == y)) := binI_of (by simp [fEql, eqA_eq]) k
theorem neq_k (j : IntKind) (x y : Int) (k : AV → Option β) : binI fNeq (.int j x) (.int j y) k = k (.bool (x != y)) := binI_of (by simp [fNeq, eqA_eq, bt_not', bne]) k
theorem quo_k (j : IntKind) (x y : Int) (hy : y ≠ 0) (k : AV → Option β) : binI fQuo (.int j x) (.int j y) k = k (.int j (j.wrap (x.tdiv y))) :=
  binI_of (by have : (y == 0) = false := by simpa using hy
              simp only [fQuo, eqA_eq, this, wrapA_eq, quoI_eq]; rfl) k
theorem rem_k (j : IntKind) (x y : Int) (hy : y ≠ 0) (k : AV → Option β) : binI fRem (.int j x) (.int j y) k = k (.int j (x.tmod y)) :=
  binI_of (by have : (y == 0) = false := by simpa using hy
              simp only [fRem, eqA_eq, this, remI_eq]; rfl) k
theorem cv_k (j j' : IntKind) (x : Int) (k : AV → Option β) : cvA j (.int j' x) k = k (.int j (j.wrap x)) := by
  show k (.int j (wrapA j x)) = _
  rw [wrapA_eq]
theorem pick_true (a b : AV) (k : AV → Option β) : pickA (.bool true) a b k = k a := rfl
theorem pick_false (a b : AV) (k : AV → Option β) : pickA (.bool false) a b k = k b := rfl
theorem not_k (b : Bool) (k : AV → Option β) : notA (.bool b) k = k (.bool (!b)) := by cases b <;> rfl
theorem ext0 (x : AV) (l : List AV) (k : AV → Option β) : extA 0 (.tup (x :: l)) k = k x := rfl
theorem ext1 (x y : AV) (l : List AV) (k : AV → Option β) : extA 1 (.tup (x :: y :: l)) k = k y := rfl
theorem ext2 (x y z : AV) (l : List AV) (k : AV → Option β) : extA 2 (.tup (x :: y :: z :: l)) k = k z := rfl
end

theorem ifA_true (a b : Ans) : ifA (.bool true) a b = a := rfl
theorem ifA_false (a b : Ans) : ifA (.bool false) a b = b := rfl
theorem gd_tt (H : AH) (c : (AV → AH → Ans) → Ans) (k : AV → AH → Ans) : gd true (.bool true) H c k = c k := rfl
theorem gd_tf (H : AH) (c : (AV → AH → Ans) → Ans) (k : AV → AH → Ans) : gd true (.bool false) H c k = k undef H := rfl
theorem gd_ft (H : AH) (c : (AV → AH → Ans) → Ans) (k : AV → AH → Ans) : gd false (.bool true) H c k = k undef H := rfl
theorem gd_ff (H : AH) (c : (AV → AH → Ans) → Ans) (k : AV → AH → Ans) : gd false (.bool false) H c k = c k := rfl
theorem gd_un (w : Bool) (H : AH) (c : (AV → AH → Ans) → Ans) (k : AV → AH → Ans) : gd w undef H c k = k undef H := rfl
theorem callF_of {rec : Rec} {f : FuncId} {l : List AV} {H H' : AH} {v : AV} (h : rec f l H = some (v, H')) (k : AV → AH → Ans) : callF rec f l H k = k v H' := by
  show ob (rec f l H) _ = _
  rw [h]; rfl
theorem pendR_of {i : Nat} {rd : AH → Option AV} {H : AH} {P : List Pend} {w : AV} (h : rd H = some w) (k : List Pend → Ans) : pendR i rd H P k = k (⟨i, rd, w⟩ :: P) := by
  show ob (ob (rd H) _) k = _
  rw [h]; rfl

/-! ### Slices of 32-bit limbs -/
abbrev U (n : Nat) : AV := .int .u32 (n : Int)
def Lim (H : AH) (v : AV) (l : List Nat) : Prop :=
  (v = .nils ∧ l = []) ∨ ∃ b off c vs, v = .sl b off l.length c ∧ H.get b = some (.cells vs) ∧ ∀ i n, l[i]? = some n → nth vs (off + i) = some (U n)
theorem Lim.len {β : Type} {H : AH} {v : AV} {l : List Nat} (h : Lim H v l) (k : AV → Option β) : lenSA v k = k (.int .i64 l.length) := by
  rcases h with ⟨rfl, rfl⟩ | ⟨b, off, c, vs, rfl, _, _⟩ <;> rfl
theorem blt_true {a b : Nat} (h : a < b) : Nat.blt a b = true := by rw [blt_eq]; exact decide_eq_true h
theorem Lim.at {H : AH} {v : AV} {l : List Nat} (h : Lim H v l) {i n : Nat} (hi : l[i]? = some n) :
    ∃ p, (∀ {β : Type} (k : AV → Option β), ixsA 1 v (.int .i64 (i : Int)) k = k p) ∧ ∀ {β : Type} (k : AV → Option β), ldA H p k = k (U n) := by
  rcases h with ⟨rfl, rfl⟩ | ⟨b, off, c, vs, rfl, hb, hv⟩
  · simp at hi
  · have hlt : i < l.length := (List.getElem?_eq_some_iff.1 hi).1
    refine ⟨.ptr b (off + i * 1), fun k => ?_, fun k => ?_⟩
    · show bt (Nat.blt i l.length) (k (.ptr b (Nat.add off (Nat.mul i 1)))) none = _
      rw [blt_true hlt]; rfl
    · show onCells (fun vs => ob (nth vs (off + i * 1)) k) (H.get b) = _
      rw [hb]
      show ob (nth vs (off + i * 1)) k = _
      rw [Nat.mul_one, hv i n hi]; rfl
theorem Lim.mono {H H' : AH} {v : AV} {l : List Nat} (h : Lim H v l) (hg : ∀ b o, H.get b = some o → H'.get b = some o) : Lim H' v l := by
  rcases h with h | ⟨b, off, c, vs, hv, hb, hx⟩
  · exact .inl h
  · exact .inr ⟨b, off, c, vs, hv, hg _ _ hb, hx⟩

section
variable {β : Type}
theorem ixs_sl {s b off len : Nat} {c : ACap} {i : Nat} (h : i < len) (k : AV → Option β) : ixsA s (.sl b off len c) (.int .i64 (i : Int)) k = k (.ptr b (off + i * s)) := by
  show bt (Nat.blt i len) (k (.ptr b (Nat.add off (Nat.mul i s)))) none = _
  rw [blt_true h]; rfl
theorem ld_get {H : AH} {b p : Nat} {vs : List AV} {x : AV} (hb : H.get b = some (.cells vs)) (hx : nth vs p = some x) (k : AV → Option β) : ldA H (.ptr b p) k = k x := by
  show onCells (fun vs => ob (nth vs p) k) (H.get b) = _
  rw [hb]
  show ob (nth vs p) k = _
  rw [hx]; rfl
theorem splice_one {α : Type} (x : α) : ∀ (l : List α) (k : Nat), k < l.length → splice l k [x] = some (l.set k x)
  | [], k, h => by simp at h
  | y :: l, 0, _ => by
    rw [splice_cons, if_pos rfl]
    cases l <;> rfl
  | y :: l, k + 1, h => by
    rw [splice_cons, if_neg (by omega), Nat.add_sub_cancel, splice_one x l k (by simpa using h)]; rfl
theorem st_one {H : AH} {b p : Nat} {vs : List AV} {x : AV} (hb : H.get b = some (.cells vs)) (hp : p < vs.length) (hx : oneCell x = true) (k : AH → Option β) :
    stA 1 H (.ptr b p) [x] k = k (H.put b (.cells (vs.set p x))) := by
  show onCells (fun vs => bt (Nat.beq (lenL [x]) 1) (bt (allL oneCell [x]) (ob (splice vs p [x]) fun vs' => k (H.put b (.cells vs'))) none) none) (H.get b) = _
  rw [hb]
  show bt (Nat.beq (lenL [x]) 1) (bt (allL oneCell [x]) (ob (splice vs p [x]) fun vs' => k (H.put b (.cells vs'))) none) none = _
  have e1 : allL oneCell [x] = true := by show (Bool.rec false true (oneCell x) : Bool) = true; rw [hx]
  rw [splice_one x vs p hp, e1]; rfl
end
theorem repeat_one (z : AV) : ∀ n, repeatA [z] n = List.replicate n z
  | 0 => rfl
  | n + 1 => by
    show appL [z] (repeatA [z] n) = _
    rw [repeat_one z n]; rfl
theorem mks_one {β : Type} {z : AV} {H : AH} {l c : Nat} (h : l ≤ c) (hc : c ≤ 1048576) (k : AV → AH → Option β) : mksA [z] H (.int .i64 (l : Int)) (.int .i64 (c : Int)) k = k (.sl H.next 0 l (.ex c)) (H.ext (.cells (List.replicate c z))) := by
  show bt (Nat.ble l c) (bt (Nat.ble c 1048576) (H.new (.cells (repeatA [z] c)) fun b H' => k (.sl b 0 l (.ex c)) H') none) none = _
  have e1 : Nat.ble l c = true := Nat.ble_eq_true_of_le h
  have e2 : Nat.ble c 1048576 = true := Nat.ble_eq_true_of_le hc
  rw [e1, e2, repeat_one]; rfl
theorem shr_k (j j' : IntKind) (m n : Nat) (hn : n ≤ 64) {β : Type} (k : AV → Option β) : binH fShr (.int j (m : Int)) (.int j' (n : Int)) k = k (.int j ((m / 2 ^ (min n j.bits) : Nat) : Int)) :=
  binH_of (by
    show bt (Nat.ble n 64) (some (AV.int j (.ofNat (Nat.div m (Nat.pow 2 (min n j.bits)))))) none = _
    rw [Nat.ble_eq_true_of_le hn]; rfl) k
theorem slA_ex (n b off len m h : Nat) (hh : h ≤ m) {β : Type} (k : AV → Option β) : slA n (.sl b off len (.ex m)) none (some (.int .i64 (h : Int))) k = k (.sl b (slOff m 0 off n) h (.ex m)) := by
  show ob (boundA m (some (.int .i64 (h : Int))) len) (fun h => ob (boundA h none 0) fun l => bt (Nat.ble h m) (k (.sl b (slOff m l off n) (Nat.sub h l) (.ex (Nat.sub m l)))) none) = _
  have e : boundA m (some (.int .i64 (h : Int))) len = some h := by
    show bt (Nat.ble h m) (some h) none = some h
    rw [Nat.ble_eq_true_of_le hh]; rfl
  rw [e]
  show bt (Nat.ble h m) (k (.sl b (slOff m 0 off n) (Nat.sub h 0) (.ex (Nat.sub m 0)))) none = _
  rw [Nat.ble_eq_true_of_le hh]; rfl
end Go.Ev

