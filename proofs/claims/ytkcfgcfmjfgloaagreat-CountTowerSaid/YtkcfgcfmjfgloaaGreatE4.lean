/- Regions, code and calls: the evaluator is sound. -/
import Derived.Test.YtkcfgcfmjfgloaaGreatE3
import Derived.LoopN
namespace Go.Ev
open Go

section trace
variable {P : Program} {rec : Rec} {N : Nat} {ops : Array Oper}

theorem kindA_le (P : Program) (op : Op) : kindA P op = 0 ∨ kindA P op = 1 ∨ kindA P op = 2 := by
  unfold kindA
  split
  · simp
  · simp
  · simp
  · simp
  · simp
  · simp
  · simp
  · simp
  · split
    · split
      · split <;> simp
      · simp
    · simp
    · simp
    · simp
    · simp
  · simp

theorem ldA_det {β γ : Type} {H : AH} {x : AV} {k : AV → Option β} {k' : AV → Option γ} {r : β} {r' : γ} (h : ldA H x k = some r) (h' : ldA H x k' = some r') : ∃ v, k v = some r ∧ k' v = some r' := by
  obtain ⟨b, off, rfl, h1⟩ := onPtr_eq h
  obtain ⟨b', off', e, h1'⟩ := onPtr_eq h'
  cases e
  obtain ⟨vs, g, h2⟩ := onCells_eq h1
  obtain ⟨vs', g', h2'⟩ := onCells_eq h1'
  rw [g] at g'; cases g'
  obtain ⟨v, g1, h3⟩ := ob_eq h2
  obtain ⟨v', g1', h3'⟩ := ob_eq h2'
  rw [g1] at g1'; cases g1'
  exact ⟨v, h3, h3'⟩
theorem ldsA_det {β γ : Type} {n : Nat} {H : AH} {x : AV} {k : AV → Option β} {k' : AV → Option γ} {r : β} {r' : γ} (h : ldsA n H x k = some r) (h' : ldsA n H x k' = some r') : ∃ v, k v = some r ∧ k' v = some r' := by
  obtain ⟨b, off, rfl, h1⟩ := onPtr_eq h
  obtain ⟨b', off', e, h1'⟩ := onPtr_eq h'
  cases e
  obtain ⟨vs, g, h2⟩ := onCells_eq h1
  obtain ⟨vs', g', h2'⟩ := onCells_eq h1'
  rw [g] at g'; cases g'
  obtain ⟨v, g1, h3⟩ := ob_eq h2
  obtain ⟨v', g1', h3'⟩ := ob_eq h2'
  rw [g1] at g1'; cases g1'
  exact ⟨_, h3, h3'⟩
theorem lenMA_det {β γ : Type} {H : AH} {x : AV} {k : AV → Option β} {k' : AV → Option γ} {r : β} {r' : γ} (h : lenMA H x k = some r) (h' : lenMA H x k' = some r') : ∃ v, k v = some r ∧ k' v = some r' := by
  rcases onMap_eq h with ⟨rfl, h1⟩ | ⟨m, rfl, h1⟩
  · exact ⟨_, h1, h'⟩
  · rcases onMap_eq h' with ⟨e, _⟩ | ⟨m', e, h1'⟩
    · cases e
    · cases e
      obtain ⟨es, c, g, h2⟩ := onEntries_eq h1
      obtain ⟨es', c', g', h2'⟩ := onEntries_eq h1'
      rw [g] at g'; cases g'
      exact ⟨_, h2, h2'⟩
theorem lookA_det {β γ : Type} {ok : KF} {eq : EF} {z : AV} {two : Bool} {H : AH} {x key : AV} {k : AV → Option β} {k' : AV → Option γ} {r : β} {r' : γ} (h : lookA ok eq z two H x key k = some r) (h' : lookA ok eq z two H x key k' = some r') :
    ∃ v, k v = some r ∧ k' v = some r' := by
  obtain ⟨_, h1⟩ := bt_eq h
  obtain ⟨_, h1'⟩ := bt_eq h'
  obtain ⟨q, g, h2⟩ := ob_eq h1
  obtain ⟨q', g', h2'⟩ := ob_eq h1'
  rw [g] at g'; cases g'
  cases q with
  | none => exact ⟨_, h2, h2'⟩
  | some p => exact ⟨_, h2, h2'⟩
theorem entryA_det {β γ : Type} {H : AH} {x : AV} {k : AV → Option β} {k' : AV → Option γ} {r : β} {r' : γ} (h : entryA H x k = some r) (h' : entryA H x k' = some r') : ∃ v, k v = some r ∧ k' v = some r' := by
  obtain ⟨b, off, rfl, h1⟩ := onPtr_eq h
  obtain ⟨b', off', e, h1'⟩ := onPtr_eq h'
  cases e
  obtain ⟨_, h2⟩ := bt_eq h1
  obtain ⟨_, h2'⟩ := bt_eq h1'
  obtain ⟨m, since, seen, stepped, g, h3⟩ := onIter_eq h2
  obtain ⟨m', since', seen', stepped', g', h3'⟩ := onIter_eq h2'
  rw [g] at g'; cases g'
  obtain ⟨es, c, g1, h4⟩ := onEntries_eq h3
  obtain ⟨es', c', g1', h4'⟩ := onEntries_eq h3'
  rw [g1] at g1'; cases g1'
  split at h4
  · obtain ⟨_, h5⟩ := bt_eq h4
    obtain ⟨_, h6⟩ := bt_eq h5
    obtain ⟨_, h5'⟩ := bt_eq h4'
    obtain ⟨_, h6'⟩ := bt_eq h5'
    exact ⟨_, h6, h6'⟩
  · cases h4

theorem read_det {o : Oper} {c : C} (h1 : kindA P o.op = 1) (hc : cOp P N o.op = some c) {rec rec' : Rec} {env : Env} {H : AH} {k k' : AV → AH → Ans} {r r' : AV × AH} (h : c rec env H k = some r) (h' : c rec' env H k' = some r') :
    ∃ v, k v H = some r ∧ k' v H = some r' := by
  cases ho : o.op <;> rw [ho] at h1 hc <;> first | (simp [kindA] at h1; done) | skip
  case load t x =>
    simp only [cOp] at hc
    split at hc
    · obtain ⟨X, _, rfl⟩ := c1_eq hc; exact ldA_det h h'
    · obtain ⟨X, _, rfl⟩ := c1_eq hc; exact ldsA_det h h'
    · cases hc
  case lookup t x key two =>
    simp only [cOp] at hc
    split at hc
    · split at hc
      · obtain ⟨X, K, _, _, rfl⟩ := c2_eq hc; exact lookA_det h h'
      · cases hc
    · cases hc
  case entry x =>
    simp only [cOp] at hc
    obtain ⟨X, _, rfl⟩ := c1_eq hc; exact entryA_det h h'
  case call cl =>
    simp only [cOp, cCall] at hc
    simp only [kindA] at h1
    cases hcal : cl.callee with
    | value f => simp [hcal] at h1
    | invoke x m => simp [hcal] at h1
    | builtin b =>
      simp only [hcal] at h1 hc
      cases b <;> first | (simp at h1; done) | skip
      case len =>
        simp only [cBuiltin] at hc
        split at hc
        · rename_i t ts x hts has
          rw [hts] at h1
          simp only at h1
          split at h1
          · rename_i mk me ht
            rw [ht] at hc
            simp only at hc
            obtain ⟨X, _, rfl⟩ := c1_eq hc
            exact lenMA_det h h'
          · cases h1
        · cases hc

/-- An operation of the trace. -/
structure En where
  j : J
  o : Oper
  env : Env
  H : AH
  v : AV
  H' : AH
  pend : List Pend
  pend' : List Pend
  nb : Option (Nat × AObj)

def Link (P : Program) (N : Nat) (x : En) (p : Pend) : Prop := p.i = x.j.i ∧ p.v = x.v ∧ ∀ H2 v2, p.rd H2 = some v2 → Read P N x.o x.env H2 v2

inductive NonEff (P : Program) (N : Nat) (ops : Array Oper) (x : En) : Prop
  | skip (b : x.nb = none) (e : x.H' = x.H) (h : Unwanted N ops x.o x.env) (v : x.v = undef)
  | pure (b : x.nb = none) (e : x.H' = x.H) (h : Wanted N ops x.o x.env) (hp : Pure P N x.o x.env x.v)
  | new (ob : AObj) (b : x.nb = some (x.H.next, ob)) (e : x.H' = x.H.ext ob) (h : Wanted N ops x.o x.env) (hn : NewB P N x.o x.env x.v x.H.next ob)
  | read (b : x.nb = none) (e : x.H' = x.H) (h : Wanted N ops x.o x.env) (hr : Read P N x.o x.env x.H x.v) (hl : ∃ p ∈ x.pend', Link P N x p)

structure Ok (P : Program) (rec : Rec) (N : Nat) (ops : Array Oper) (x : En) : Prop where
  op : ops[x.j.i]? = some x.o
  ci : cI P N ops x.o = some x.j.it
  sem : (x.j.it.kind ≠ 2 ∧ NonEff P N ops x ∧ ∀ p ∈ x.pend, p ∈ x.pend') ∨ (x.j.it.kind = 2 ∧ Stepped P rec N ops x.o x.env x.H x.v x.H' ∧ pendOk x.j.anc x.H' x.pend = true ∧ x.pend' = x.pend)

/-- A trace: from a frame, a heap and pending reads to others. -/
def TC (P : Program) (rec : Rec) (N : Nat) (ops : Array Oper) : Env → AH → List Pend → List En → Env → AH → List Pend → Prop
  | env, H, pend, [], ef, Hf, pf => ef = env ∧ Hf = H ∧ pf = pend
  | env, H, pend, x :: T, ef, Hf, pf => (Ok P rec N ops x ∧ x.env = env ∧ x.H = H ∧ x.pend = pend) ∧ TC P rec N ops (putD x.o.dst x.v x.env) x.H' x.pend' T ef Hf pf

theorem cI_forms {o : Oper} {i : I} (h : cI P N ops o = some i) : ∃ c, cOp P N o.op = some c ∧
    ((o.guard = none ∧ i = ⟨kindA P o.op, stepP (putD o.dst) c, readP c⟩) ∨
     ∃ j want d, o.guard = some (j, want) ∧ (ops[j]?).bind (·.dst) = some d ∧ d < N ∧ i = ⟨kindA P o.op, stepG (slot d) want (putD o.dst) c, readG (slot d) want c⟩) := by
  unfold cI at h
  split at h
  · split at h
    · rename_i hg
      simp only [Option.map_eq_some_iff] at h
      obtain ⟨c, hc, rfl⟩ := h
      exact ⟨c, hc, .inl ⟨hg, rfl⟩⟩
    · rename_i j want hg
      split at h
      · rename_i d hd
        split at h
        · rename_i hlt
          simp only [Option.map_eq_some_iff] at h
          obtain ⟨c, hc, rfl⟩ := h
          exact ⟨c, hc, .inr ⟨j, want, d, hg, hd, lt_of_blt hlt, rfl⟩⟩
        · cases h
      · cases h
  · cases h

theorem enters_none : Enters P (fun _ _ _ => none) := fun f args H r h => by cases h
theorem readP_read {o : Oper} {c : C} (hc : cOp P N o.op = some c) (h1 : kindA P o.op = 1) {env : Env} {rd : AH → Option AV} (hr : readP c env = some rd) {H : AH} {v : AV} (hv : rd H = some v) :
    Read P N o env H v ∧ ∃ H', c (fun _ _ _ => none) env H (fun v H => some (v, H)) = some (v, H') := by
  cases hr
  obtain ⟨q, hq, h2⟩ := ob_eq hv
  obtain ⟨v', H'⟩ := q
  cases h2
  obtain ⟨v2, H2, e, hd⟩ := op_sound enters_none hc hq
  cases e
  refine ⟨?_, H', hq⟩
  cases hd with
  | pure k _ _ => rw [h1] at k; cases k
  | new k _ _ _ => rw [h1] at k; cases k
  | read _ _ h => exact h
  | eff k _ => rw [h1] at k; cases k

theorem drawA_cons (j : J) (l : List J) (pend : List Pend) (rec : Rec) (env : Env) (H : AH) (k : Env → AH → Ans) :
    drawA (j :: l) pend rec env H k = j.it.step rec env H fun env' H' => ob (pendA j pend env H H') fun pend' => drawA l pend' rec env' H' k := rfl

/-- One operation of a region that draws. -/
theorem draw_step (henter : Enters P rec) {j : J} {o : Oper} (ho : ops[j.i]? = some o) (hci : cI P N ops o = some j.it) {l : List J} {pend : List Pend} {env : Env} {H : AH} {k : Env → AH → Ans} {r : AV × AH}
    (h : drawA (j :: l) pend rec env H k = some r) : ∃ x : En, x.j = j ∧ x.env = env ∧ x.H = H ∧ x.pend = pend ∧ Ok P rec N ops x ∧ drawA l x.pend' rec (putD x.o.dst x.v x.env) x.H' k = some r := by
  rw [drawA_cons] at h
  obtain ⟨hk, _⟩ := cI_kind hci
  obtain ⟨v, H', h1, hs⟩ := cI_step henter hci h
  obtain ⟨pend', hp, h2⟩ := ob_eq h1
  rcases kindA_le P o.op with k0 | k1 | k2
  · have e0 : Nat.beq j.it.kind 0 = true := beq_yes (hk.trans k0)
    have hp' : pend' = pend := by rw [pendA, e0, bt_true] at hp; cases hp; rfl
    subst hp'
    have kn : j.it.kind ≠ 2 := by rw [hk, k0]; decide
    cases hs with
    | skip hu => exact ⟨⟨j, o, env, H, undef, H, pend', pend', none⟩, rfl, rfl, rfl, rfl, ⟨ho, hci, .inl ⟨kn, .skip rfl rfl hu rfl, fun p hp => hp⟩⟩, h2⟩
    | run hw hd =>
      cases hd with
      | pure _ e hpu => subst e; exact ⟨⟨j, o, env, H', v, H', pend', pend', none⟩, rfl, rfl, rfl, rfl, ⟨ho, hci, .inl ⟨kn, .pure rfl rfl hw hpu, fun p hp => hp⟩⟩, h2⟩
      | new _ ob e hn => subst e; exact ⟨⟨j, o, env, H, v, H.ext ob, pend', pend', some (H.next, ob)⟩, rfl, rfl, rfl, rfl, ⟨ho, hci, .inl ⟨kn, .new ob rfl rfl hw hn, fun p hp => hp⟩⟩, h2⟩
      | read k' _ _ => rw [k0] at k'; cases k'
      | eff k' _ => rw [k0] at k'; cases k'
  · have e0 : Nat.beq j.it.kind 0 = false := beq_no (by rw [hk, k1]; decide)
    have e1 : Nat.beq j.it.kind 1 = true := beq_yes (hk.trans k1)
    have kn : j.it.kind ≠ 2 := by rw [hk, k1]; decide
    rw [pendA, e0, e1, bt_false, bt_true] at hp
    obtain ⟨c, hc, hform⟩ := cI_forms hci
    -- what is read, if it is wanted
    have main : ∀ rd, j.it.read env = some rd → readP c env = some rd → Wanted N ops o env → c rec env H (fun v H' => ob (pendA j pend env H H') fun pend' => drawA l pend' rec (putD o.dst v env) H' k) = some r →
        ∃ x : En, x.j = j ∧ x.env = env ∧ x.H = H ∧ x.pend = pend ∧ Ok P rec N ops x ∧ drawA l x.pend' rec (putD x.o.dst x.v x.env) x.H' k = some r := by
      intro rd hrd hrdP hw hrun
      rw [hrd] at hp
      obtain ⟨v', hv', hp'⟩ := ob_eq (show (ob (rd H) fun v => some (⟨j.i, rd, v⟩ :: pend)) = some pend' from hp)
      cases hp'
      obtain ⟨hread, H2, hdet⟩ := readP_read hc k1 hrdP hv'
      obtain ⟨v2, h3, h4⟩ := read_det k1 hc hrun hdet
      cases h4
      obtain ⟨pend2, hp2, h5⟩ := ob_eq h3
      have hp3 : pendA j pend env H H = some (⟨j.i, rd, v'⟩ :: pend) := by
        rw [pendA, e0, e1, bt_false, bt_true, hrd]
        show (ob (rd H) fun v => some (⟨j.i, rd, v⟩ :: pend)) = _
        rw [hv']; rfl
      rw [hp3] at hp2; cases hp2
      refine ⟨⟨j, o, env, H, v', H, pend, ⟨j.i, rd, v'⟩ :: pend, none⟩, rfl, rfl, rfl, rfl, ⟨ho, hci, .inl ⟨kn, .read rfl rfl hw hread ⟨_, List.mem_cons_self, rfl, rfl, ?_⟩, fun p hp => List.mem_cons_of_mem _ hp⟩⟩, h5⟩
      intro H3 v3 h6
      exact (readP_read hc k1 hrdP h6).1
    rcases hform with ⟨hg, e⟩ | ⟨jj, want, d, hg, hd, hlt, e⟩
    · refine main _ (by rw [e]; rfl) rfl (fun _ _ e' => by rw [hg] at e'; cases e') ?_
      rw [e] at h
      exact h
    · rw [e] at h
      rcases onGuard_eq h with ⟨b, hb, h3⟩ | ⟨lt, hl, h3⟩
      · rcases bt_eq2 h3 with ⟨h4, h5⟩ | ⟨h4, h5⟩
        · have hbw : b = want := by cases want <;> cases b <;> first | rfl | cases h4
          subst hbw
          refine main (fun H => ob (c (fun _ _ _ => none) env H fun v H => some (v, H)) fun r => un r fun v _ => some v) ?_ rfl (fun j' want' e' => ?_) h5
          · rw [e]
            show onGuard none (fun b' => bt (bt b b' (bt b' false true)) (readP c env) none) (slotG d env) = _
            rw [show slotG d env = .bool b from hb]
            show bt (bt b b (bt b false true)) (readP c env) none = _
            rw [h4]; rfl
          · rw [hg] at e'; cases e'; exact ⟨d, hd, hlt, hb⟩
        · have hbw : b = !want := by cases want <;> cases b <;> first | rfl | cases h4
          have hno : j.it.read env = none := by
            rw [e]
            show onGuard none (fun b' => bt (bt want b' (bt b' false true)) (readP c env) none) (slotG d env) = _
            rw [show slotG d env = .bool b from hb]
            show bt (bt want b (bt b false true)) (readP c env) none = _
            rw [h4]; rfl
          rw [hno] at hp; cases hp
          obtain ⟨pend2, hp2, h6⟩ := ob_eq h5
          have hp3 : pendA j pend env H H = some pend := by rw [pendA, e0, e1, bt_false, bt_true, hno]; rfl
          rw [hp3] at hp2; cases hp2
          exact ⟨⟨j, o, env, H, undef, H, pend, pend, none⟩, rfl, rfl, rfl, rfl, ⟨ho, hci, .inl ⟨kn, .skip rfl rfl ⟨jj, want, d, hg, hd, hlt, .inl (by rw [← hbw]; exact hb)⟩ rfl, fun p hp => hp⟩⟩, h6⟩
      · have hno : j.it.read env = none := by
          rw [e]
          show onGuard none (fun b' => bt (bt want b' (bt b' false true)) (readP c env) none) (slotG d env) = _
          rw [show slotG d env = .tup lt from hl]; rfl
        obtain ⟨pend2, hp2, h6⟩ := ob_eq h3
        have hp3 : pendA j pend env H H = some pend := by rw [pendA, e0, e1, bt_false, bt_true, hno]; rfl
        rw [hp3] at hp2; cases hp2
        exact ⟨⟨j, o, env, H, undef, H, pend, pend, none⟩, rfl, rfl, rfl, rfl, ⟨ho, hci, .inl ⟨kn, .skip rfl rfl ⟨jj, want, d, hg, hd, hlt, .inr ⟨lt, hl⟩⟩ rfl, fun p hp => hp⟩⟩, h6⟩
  · have e0 : Nat.beq j.it.kind 0 = false := beq_no (by rw [hk, k2]; decide)
    have e1 : Nat.beq j.it.kind 1 = false := beq_no (by rw [hk, k2]; decide)
    rw [pendA, e0, e1, bt_false, bt_false] at hp
    obtain ⟨hp1, hp2⟩ := bt_eq hp
    cases hp2
    exact ⟨⟨j, o, env, H, v, H', pend, pend, none⟩, rfl, rfl, rfl, rfl, ⟨ho, hci, .inr ⟨hk.trans k2, hs, hp1, rfl⟩⟩, h2⟩

theorem trace_exists (henter : Enters P rec) : ∀ (js : List J) (pend : List Pend) (env : Env) (H : AH) {k : Env → AH → Ans} {r : AV × AH}, (∀ j ∈ js, ∃ o, ops[j.i]? = some o ∧ cI P N ops o = some j.it) → drawA js pend rec env H k = some r →
    ∃ T ef Hf pf, T.map (·.j) = js ∧ TC P rec N ops env H pend T ef Hf pf ∧ k ef Hf = some r
  | [], pend, env, H, k, r, _, h => ⟨[], env, H, pend, rfl, ⟨rfl, rfl, rfl⟩, h⟩
  | j :: js, pend, env, H, k, r, hop, h => by
    obtain ⟨o, ho, hci⟩ := hop j (by simp)
    obtain ⟨x, h1, h2, h3, h4, h5, h6⟩ := draw_step henter ho hci h
    obtain ⟨T, ef, Hf, pf, h7, h8, h9⟩ := trace_exists henter js _ _ _ (fun j' hj' => hop j' (by simp [hj'])) h6
    exact ⟨x :: T, ef, Hf, pf, by simp [h1, h7], ⟨⟨h5, h2, h3, h4⟩, h8⟩, h9⟩
end trace
end Go.Ev

/- Regions that draw their order: every order does what the evaluator's order does. -/
namespace Go.Ev
open Go

theorem sameL_eq {f : AV → AV → Bool} (hf : ∀ x y, f x y = true → x = y) : ∀ (a b : List AV), sameL f a b = true → a = b
  | [], [], _ => rfl
  | [], _ :: _, h => by cases h
  | _ :: _, [], h => by cases h
  | x :: a, y :: b, h => by
    have h' : (Bool.rec false (sameL f a b) (f x y) : Bool) = true := h
    cases hb : f x y with
    | false => rw [hb] at h'; cases h'
    | true => rw [hb] at h'; rw [hf x y hb, sameL_eq hf a b h']
theorem beqA_eq : ∀ (f : Nat) (x y : AV), beqA f x y = true → x = y
  | 0, _, _, h => by cases h
  | f + 1, x, y, h => by
    have h' : beqStep (beqA f) x y = true := h
    have eqL' : ∀ a b : List Nat, eqL a b = true → a = b := fun a b h => by rw [eqL_eq] at h; exact beq_iff_eq.1 h
    cases x <;> cases y <;> simp only [beqStep, Bool.and_eq_true, Bool.false_eq_true] at h' <;> try (first | rfl | exact h'.elim)
    case bool.bool a b => rw [beq_iff_eq.1 h']
    case int.int j a k b =>
      have h1 := kindEq_eq h'.1
      have h2 := h'.2
      rw [eqA_eq] at h2
      rw [h1, beq_iff_eq.1 h2]
    case str.str a b => rw [eqL' _ _ h']
    case ptr.ptr b o c p => rw [eq_of_beq' h'.1, eq_of_beq' h'.2]
    case sl.sl b o n c b' o' n' c' =>
      obtain ⟨⟨⟨h1, h2⟩, h3⟩, h4⟩ := h'
      rw [eq_of_beq' h1, eq_of_beq' h2, eq_of_beq' h3]
      cases c <;> cases c' <;> simp only [Bool.false_eq_true] at h4
      · rw [eq_of_beq' h4]
      · rw [eq_of_beq' h4]
    case mp.mp a b => rw [eq_of_beq' h']
    case fn.fn f1 a b g a' b' =>
      obtain ⟨⟨h1, h2⟩, h3⟩ := h'
      rw [eq_of_beq' h1, sameL_eq (beqA_eq f) _ _ h2, sameL_eq (beqA_eq f) _ _ h3]
    case agg.agg a b => rw [sameL_eq (beqA_eq f) _ _ h']
    case tup.tup a b => rw [sameL_eq (beqA_eq f) _ _ h']

theorem pendOk_spec {anc : Nat} {H : AH} : ∀ {pend : List Pend}, pendOk anc H pend = true → ∀ p ∈ pend, bit anc p.i = false → p.rd H = some p.v
  | [], _, p, hp, _ => by cases hp
  | q :: l, h, p, hp, hb => by
    have h' : bt (bit anc q.i) (pendOk anc H l) (oc (q.rd H) false fun v => bt (beqA 8 q.v v) (pendOk anc H l) false) = true := h
    rcases List.mem_cons.1 hp with rfl | hp
    · rw [hb, bt_false] at h'
      obtain ⟨v, hv, h2⟩ := oc_some_true h'
      obtain ⟨h3, _⟩ := bt_true' h2
      rw [hv, beqA_eq 8 _ _ h3]
    · have hl : pendOk anc H l = true := by
        cases hq : bit anc q.i with
        | true => rw [hq, bt_true] at h'; exact h'
        | false =>
          rw [hq, bt_false] at h'
          obtain ⟨v, hv, h2⟩ := oc_some_true h'
          exact (bt_true' h2).2
      exact pendOk_spec hl p hp hb

/-! ### Blocks that are not there yet -/

theorem Rel.virtual {φ : Phi} {H : AH} {w : World} (h : Rel φ H w) (o : AObj) : Rel φ (H.ext o) w := by
  have hf := h.fresh
  have look : ∀ b q p, (H.ext o).get b = some q → φ b = some p → H.get b = some q := by
    intro b q p hb hp
    rw [AH.get_ext] at hb
    split at hb
    · rename_i e; subst e; rw [hf] at hp; cases hp
    · exact hb
  refine ⟨fun b p hp => ?_, fun b q hb => ?_, fun b q p hb hp => h.obj b q p (look b q p hb hp) hp, fun b b' q q' p p' h1 h2 h3 h4 e => h.inj b b' q q' p p' (look _ _ _ h1 h3) (look _ _ _ h2 h4) h3 h4 e⟩
  · have := h.dom b p hp; simp; omega
  · rw [AH.get_ext] at hb
    split at hb
    · simp; omega
    · have := h.live b q hb; simp; omega
theorem Ext.virtual {φ0 φ : Phi} {H0 H : AH} {w0 w : World} (h : Ext φ0 H0 w0 φ H w) (o : AObj) : Ext φ0 H0 w0 φ (H.ext o) w := by
  refine ⟨h.rel.virtual o, h.le, h.old, Nat.le_succ_of_le h.next, h.size, h.frame, fun b q p hb hp => ?_, fun b hb hn => ?_, h.os, h.tape, h.output⟩
  · rw [AH.get_ext] at hb
    split at hb
    · rename_i e; subst e; rw [h.rel.fresh] at hp; cases hp
    · exact h.image b q p hb hp
  · rw [AH.get_ext, if_neg (by have := h.next; omega)]
    exact h.virt b hb hn
theorem Ext.realize {φ0 φ : Phi} {H0 H : AH} {w0 w : World} (h : Ext φ0 H0 w0 φ H w) {b n : Nat} {ob : AObj} {x : Obj} (hb : φ b = none) (hn : H0.next ≤ b) (hg : H.get b = some ob)
    (ho : ORel (φ.add b ⟨w.heap.size, 0, n⟩) 0 n ob x) : Ext φ0 H0 w0 (φ.add b ⟨w.heap.size, 0, n⟩) H (w.alloc x) := by
  have hle : φ.le (φ.add b ⟨w.heap.size, 0, n⟩) := Phi.le_add _ hb
  have hR := h.rel
  have big : ∀ q p, H.get q = some p → ∀ r, φ q = some r → r.c < w.heap.size := fun q p h1 r h2 => hR.lt h1 h2
  refine ⟨⟨fun q p hq => ?_, hR.live, fun q o p hq hp => ?_, fun q q' o o' p p' h1 h2 h3 h4 e => ?_⟩, h.le.trans hle, fun q hq => ?_, h.next, by have := h.size; simp; omega, fun c hc hno => ?_, fun q o p hq hp => ?_, h.virt, h.os, h.tape, h.output⟩
  · by_cases e : q = b
    · subst e; exact hR.live _ _ hg
    · rw [Phi.add_ne φ _ e] at hq; exact hR.dom q p hq
  · by_cases e : q = b
    · subst e
      rw [Phi.add_same] at hp; cases hp
      rw [hg] at hq; cases hq
      exact ⟨x, heap_alloc_new w x, ho⟩
    · rw [Phi.add_ne φ _ e] at hp
      obtain ⟨y, hy, hr⟩ := hR.obj q o p hq hp
      exact ⟨y, by rw [heap_alloc_old w x p.c (Array.getElem?_eq_some_iff.1 hy).1]; exact hy, hr.mono hle⟩
  · by_cases e1 : q = b <;> by_cases e2 : q' = b
    · rw [e1, e2]
    · subst e1
      rw [Phi.add_same] at h3; cases h3
      rw [Phi.add_ne φ _ e2] at h4
      have := big _ _ h2 _ h4
      have e' : w.heap.size = p'.c := e
      omega
    · subst e2
      rw [Phi.add_same] at h4; cases h4
      rw [Phi.add_ne φ _ e1] at h3
      have := big _ _ h1 _ h3
      have e' : p.c = w.heap.size := e
      omega
    · rw [Phi.add_ne φ _ e1] at h3; rw [Phi.add_ne φ _ e2] at h4
      exact hR.inj q q' o o' p p' h1 h2 h3 h4 e
  · rw [Phi.add_ne φ _ (by omega)]; exact h.old q hq
  · rw [heap_alloc_old w x c (Nat.lt_of_lt_of_le hc h.size)]; exact h.frame c hc hno
  · by_cases e : q = b
    · subst e; rw [Phi.add_same] at hp; cases hp; exact .inl h.size
    · rw [Phi.add_ne φ _ e] at hp; exact h.image q o p hq hp

/-! ### Traces -/
section draw
variable {P : Program} {rec : Rec} {N : Nat} {ops : Array Oper}

theorem TC.split : ∀ {A B : List En} {env : Env} {H : AH} {pend : List Pend} {ef : Env} {Hf : AH} {pf : List Pend}, TC P rec N ops env H pend (A ++ B) ef Hf pf ↔ ∃ e1 H1 p1, TC P rec N ops env H pend A e1 H1 p1 ∧ TC P rec N ops e1 H1 p1 B ef Hf pf
  | [], B, env, H, pend, ef, Hf, pf => ⟨fun h => ⟨env, H, pend, ⟨rfl, rfl, rfl⟩, h⟩, fun ⟨_, _, _, ⟨h1, h2, h3⟩, h⟩ => by subst h1 h2 h3; exact h⟩
  | x :: A, B, env, H, pend, ef, Hf, pf => by
    constructor
    · rintro ⟨h1, h2⟩
      obtain ⟨e1, H1, p1, h3, h4⟩ := TC.split.1 h2
      exact ⟨e1, H1, p1, ⟨h1, h3⟩, h4⟩
    · rintro ⟨e1, H1, p1, ⟨h1, h3⟩, h4⟩
      exact ⟨h1, TC.split.2 ⟨e1, H1, p1, h3, h4⟩⟩
theorem TC.ok : ∀ {T : List En} {env : Env} {H : AH} {pend : List Pend} {ef : Env} {Hf : AH} {pf : List Pend}, TC P rec N ops env H pend T ef Hf pf → ∀ x ∈ T, Ok P rec N ops x
  | [], _, _, _, _, _, _, _, x, hx => by cases hx
  | y :: T, _, _, _, _, _, _, h, x, hx => by
    rcases List.mem_cons.1 hx with rfl | hx
    · exact h.1.1
    · exact TC.ok h.2 x hx
theorem slot_putD {dst : Option Nat} (hN : N ≤ 256) (hd : okDst N dst = true) {t : Nat} (ht : t < 256) (v : AV) (env : Env) : slotG t (putD dst v env) = if dst = some t then v else slotG t env := by
  cases dst with
  | none => simp [putD, pNone]
  | some d =>
    have hd : d < N := lt_of_blt hd
    rw [putD_some, slot_put ht (by omega)]
    by_cases e : t = d
    · subst e; simp
    · simp [e, Ne.symm e]
theorem Ok.dst {x : En} (h : Ok P rec N ops x) : okDst N x.o.dst = true := (cI_kind h.ci).2
theorem TC.slot (hN : N ≤ 256) {t : Nat} (ht : t < 256) : ∀ {T : List En} {env : Env} {H : AH} {pend : List Pend} {ef : Env} {Hf : AH} {pf : List Pend}, TC P rec N ops env H pend T ef Hf pf → (∀ x ∈ T, x.o.dst ≠ some t) → slotG t ef = slotG t env
  | [], _, _, _, _, _, _, h, _ => by rw [h.1]
  | x :: T, env, _, _, _, _, _, h, hno => by
    rw [TC.slot hN ht h.2 fun y hy => hno y (by simp [hy]), slot_putD hN h.1.1.dst ht, if_neg (hno x (by simp)), h.1.2.1]

/-- What is still to be done of an operation without effect. -/
inductive Todo (P : Program) (N : Nat) (ops : Array Oper) (q : En) (φ : Phi) (H : AH) (pend : List Pend) (n0 : Nat) : Prop
  | skip (b : q.nb = none) (h : Unwanted N ops q.o q.env) (v : q.v = undef)
  | pure (b : q.nb = none) (h : Wanted N ops q.o q.env) (hp : Pure P N q.o q.env q.v)
  | new (b : Nat) (ob : AObj) (e : q.nb = some (b, ob)) (h : Wanted N ops q.o q.env) (hn : NewB P N q.o q.env q.v b ob) (hφ : φ b = none) (hg : H.get b = some ob) (hb : n0 ≤ b)
  | read (b : q.nb = none) (h : Wanted N ops q.o q.env) (H1 : AH) (hr : Read P N q.o q.env H1 q.v) (hs : ∀ b o, H1.get b = some o → H.get b = some o) (hl : ∃ p ∈ pend, Link P N q p)

abbrev On (l : Array Bool) (i : Nat) : Prop := l.getD i false = true
theorem on_set {l : Array Bool} {i j : Nat} (hi : i < l.size) : On (l.setIfInBounds i true) j ↔ On l j ∨ j = i := by
  unfold On
  by_cases e : i = j
  · subst e; simp [hi]
  · simp [Array.getElem?_setIfInBounds_ne e, Ne.symm e]

structure Inv (P : Program) (rec : Rec) (N : Nat) (ops : Array Oper) (T : List En) (env0 : Env) (φ0 : Phi) (H0 : AH) (w0 : World) (eF : Env) (HF : AH)
    (l : Array Bool) (A B : List En) (ef : Env) (Hf : AH) (pf : List Pend) (φ : Phi) (cur : Nat → AV) (a : Act) (w : World) : Prop where
  size : l.size = ops.size
  split : T = A ++ B
  chain : TC P rec N ops env0 H0 [] A ef Hf pf
  rest : ∃ pF, TC P rec N ops ef Hf pf B eF HF pF
  sub : ∀ i, On l i → ∃ q ∈ A, q.j.i = i
  down : ∀ q ∈ A, On l q.j.i → ∀ h, bit q.j.anc h = true → On l h
  defers : a.defers = []
  tmps : a.tmps.size = N
  val : ∀ t, t < N → CRel φ (cur t) (a.eval (.tmp t))
  curQ : ∀ A1 q A2, A = A1 ++ q :: A2 → ¬ On l q.j.i → ∀ t ∈ namesA ops q.o, t < N → (∀ p ∈ A1, p.o.dst = some t → On l p.j.i) → cur t = slotG t q.env
  curF : ∀ t, t < N → (∀ p ∈ A, p.o.dst = some t → On l p.j.i) → cur t = slotG t ef
  todo : ∀ q ∈ A, ¬ On l q.j.i → Todo P N ops q φ Hf pf H0.next
  dist : ∀ q ∈ A, ∀ q' ∈ A, ¬ On l q.j.i → ¬ On l q'.j.i → q.j.i ≠ q'.j.i → ∀ b ob b' ob', q.nb = some (b, ob) → q'.nb = some (b', ob') → b ≠ b'
  ext : Ext φ0 H0 w0 φ Hf w

def Head (B : List En) : Prop := ∀ x B', B = x :: B' → x.j.it.kind = 2

theorem Todo.mono {q : En} {φ : Phi} {H H' : AH} {pend pend' : List Pend} {n0 : Nat} (h : Todo P N ops q φ H pend n0) (hH : ∀ b o, H.get b = some o → H'.get b = some o) (hp : ∀ p ∈ pend, p ∈ pend') : Todo P N ops q φ H' pend' n0 := by
  cases h with
  | skip b h v => exact .skip b h v
  | pure b h hp => exact .pure b h hp
  | new b ob e h hn hφ hg hb => exact .new b ob e h hn hφ (hH b ob hg) hb
  | read b h H1 hr hs hl => exact .read b h H1 hr (fun b o e => hH b o (hs b o e)) (let ⟨p, hp1, hp2⟩ := hl; ⟨p, hp p hp1, hp2⟩)

section inv
variable {js : List J} {T : List En} {env0 : Env} {φ0 : Phi} {H0 : AH} {w0 : World} {eF : Env} {HF : AH}

theorem ord_T (plan : Plan P N ops js) (hT : T.map (·.j) = js) {A : List En} {q : En} {B : List En} (e : T = A ++ q :: B) :
    (∀ p ∈ A, p.j.i ≠ q.j.i) ∧ (∀ h, bit q.j.anc h = true → ∃ p ∈ A, p.j.i = h) ∧ (∀ p ∈ A, p.j.it.kind = 2 → bit q.j.anc p.j.i = true) := by
  have e2 : js = A.map (·.j) ++ q.j :: B.map (·.j) := by rw [← hT, e]; simp
  obtain ⟨h1, h2, h3⟩ := plan.ord _ _ _ e2
  refine ⟨fun p hp => h1 p.j (List.mem_map.2 ⟨p, hp, rfl⟩), fun h hb => ?_, fun p hp => h3 p.j (List.mem_map.2 ⟨p, hp, rfl⟩)⟩
  obtain ⟨p, hp, hi⟩ := h2 h hb
  obtain ⟨x, hx, rfl⟩ := List.mem_map.1 hp
  exact ⟨x, hx, hi⟩

theorem advance (plan : Plan P N ops js) (hT : T.map (·.j) = js) (hN : N ≤ 256) {l : Array Bool} {φ : Phi} {cur : Nat → AV} {a : Act} {w : World} : ∀ (B A : List En) (ef : Env) (Hf : AH) (pf : List Pend), Inv P rec N ops T env0 φ0 H0 w0 eF HF l A B ef Hf pf φ cur a w →
    ∃ A' B' ef' Hf' pf', Inv P rec N ops T env0 φ0 H0 w0 eF HF l A' B' ef' Hf' pf' φ cur a w ∧ Head B'
  | [], A, ef, Hf, pf, I => ⟨A, [], ef, Hf, pf, I, fun x B' e => by cases e⟩
  | q :: B, A, ef, Hf, pf, I => by
    by_cases hk : q.j.it.kind = 2
    · exact ⟨A, q :: B, ef, Hf, pf, I, fun x B' e => by cases e; exact hk⟩
    · obtain ⟨pF, ⟨hok, he, hH, hp⟩, hrest⟩ := I.rest
      obtain ⟨o1, o2, o3⟩ := ord_T plan hT I.split
      have hq : ¬ On l q.j.i := fun h => by
        obtain ⟨q', hq', hi⟩ := I.sub _ h
        exact o1 q' hq' hi
      rcases hok.sem with ⟨_, hne, hpend⟩ | ⟨h2, _⟩
      case inr => exact absurd h2 hk
      have hgrow : ∀ b o, Hf.get b = some o → q.H'.get b = some o := by
        intro b o hb
        cases hne with
        | skip _ e _ _ => rw [e, hH]; exact hb
        | pure _ e _ _ => rw [e, hH]; exact hb
        | new ob _ e _ _ =>
          rw [e, AH.get_ext, hH, if_neg (by have := I.ext.rel.live b o hb; omega)]; exact hb
        | read _ e _ _ _ => rw [e, hH]; exact hb
      have I' : Inv P rec N ops T env0 φ0 H0 w0 eF HF l (A ++ [q]) B (putD q.o.dst q.v q.env) q.H' q.pend' φ cur a w := by
        refine ⟨I.size, by rw [I.split]; simp, TC.split.2 ⟨ef, Hf, pf, I.chain, ⟨⟨hok, he, hH, hp⟩, rfl, rfl, rfl⟩⟩, ⟨pF, hrest⟩, ?_, ?_, I.defers, I.tmps, I.val, ?_, ?_, ?_, ?_, ?_⟩
        · intro i hi
          obtain ⟨q', hq', e⟩ := I.sub i hi
          exact ⟨q', by simp [hq'], e⟩
        · intro q' hq' hon
          simp at hq'
          rcases hq' with hq' | rfl
          · exact I.down q' hq' hon
          · exact absurd hon hq
        · intro A1 q' A2 e hon t ht hlt hw
          rcases List.eq_nil_or_concat A2 with rfl | ⟨A3, y, rfl⟩
          · have := List.append_inj' e (by simp)
            obtain ⟨rfl, h3⟩ := this
            simp at h3; subst h3
            rw [he]; exact I.curF t hlt hw
          · rw [List.concat_eq_append, ← List.cons_append, ← List.append_assoc] at e
            have := List.append_inj' e (by simp)
            exact I.curQ A1 q' A3 this.1 hon t ht hlt hw
        · intro t hlt hw
          have hd : q.o.dst ≠ some t := fun e => hq (hw q (by simp) e)
          rw [slot_putD hN hok.dst (by omega), if_neg hd, he]
          exact I.curF t hlt fun p hp => hw p (by simp [hp])
        · intro q' hq' hon
          simp at hq'
          rcases hq' with hq' | rfl
          · exact (I.todo q' hq' hon).mono hgrow (fun p hp' => hpend p (by rw [hp]; exact hp'))
          · cases hne with
            | skip b e h v => exact .skip b h v
            | pure b e h hp => exact .pure b h hp
            | new ob b e h hn =>
              refine .new _ ob b h hn ?_ ?_ ?_
              · rw [hH]; exact I.ext.rel.fresh
              · rw [e, AH.get_ext, if_pos rfl]
              · rw [hH]; exact I.ext.next
            | read b e h hr hl => exact .read b h _ hr (fun b o hb => by rw [e]; exact hb) hl
        · have old : ∀ q' ∈ A, ¬ On l q'.j.i → ∀ b ob b' ob', q'.nb = some (b, ob) → q.nb = some (b', ob') → b ≠ b' := by
            intro q' hq' hon b ob b' ob' h1 h2
            have hb' : b' = Hf.next := by
              cases hne with
              | skip b _ _ _ => rw [b] at h2; cases h2
              | pure b _ _ _ => rw [b] at h2; cases h2
              | new ob b _ _ _ => rw [b] at h2; cases h2; rw [hH]
              | read b _ _ _ _ => rw [b] at h2; cases h2
            have hb : b < Hf.next := by
              cases I.todo q' hq' hon with
              | skip b _ _ => rw [b] at h1; cases h1
              | pure b _ _ => rw [b] at h1; cases h1
              | new b ob e _ _ _ hg _ => rw [e] at h1; cases h1; exact I.ext.rel.live _ _ hg
              | read b _ _ _ _ _ => rw [b] at h1; cases h1
            omega
          intro q1 h1 q2 h2 n1 n2 hne' b ob b' ob' e1 e2
          simp at h1 h2
          rcases h1 with h1 | rfl <;> rcases h2 with h2 | rfl
          · exact I.dist q1 h1 q2 h2 n1 n2 hne' b ob b' ob' e1 e2
          · exact old q1 h1 n1 b ob b' ob' e1 e2
          · exact (old q2 h2 n2 b' ob' b ob e2 e1).symm
          · exact absurd rfl hne'
        · cases hne with
          | skip _ e _ _ => rw [e, hH]; exact I.ext
          | pure _ e _ _ => rw [e, hH]; exact I.ext
          | new ob _ e _ _ => rw [e, hH]; exact I.ext.virtual ob
          | read _ e _ _ _ => rw [e, hH]; exact I.ext
      exact advance plan hT hN B (A ++ [q]) _ _ _ I'
end inv
end draw
end Go.Ev

/- Regions that draw their order: one step of any order; the whole. -/
namespace Go.Ev
open Go

section draw
variable {P : Program} {rec : Rec} {N : Nat} {ops : Array Oper} {js : List J} {T : List En} {env0 : Env} {φ0 : Phi} {H0 : AH} {w0 : World} {eF : Env} {HF : AH}

theorem split_inj {α : Type} {p : α} : ∀ {A D A2 D2 : List α}, A ++ p :: A2 = D ++ p :: D2 → p ∉ A → p ∉ D → A = D ∧ A2 = D2
  | [], [], _, _, h, _, _ => ⟨rfl, by simpa using h⟩
  | [], d :: D, _, _, h, _, h2 => by simp at h; exact absurd (by simp [h.1]) h2
  | a :: A, [], _, _, h, h1, _ => by simp at h; exact absurd (by simp [h.1]) h1
  | a :: A, d :: D, _, _, h, h1, h2 => by
    simp at h
    obtain ⟨h3, h4⟩ := split_inj h.2 (fun h => h1 (by simp [h])) (fun h => h2 (by simp [h]))
    exact ⟨by rw [h.1, h3], h4⟩
theorem id_inj (plan : Plan P N ops js) (hT : T.map (·.j) = js) {p q : En} (hp : p ∈ T) (hq : q ∈ T) (h : p.j.i = q.j.i) : p = q := by
  obtain ⟨A, B, e⟩ := List.append_of_mem hq
  have o1 := (ord_T plan hT e).1
  rw [e] at hp
  rcases List.mem_append.1 hp with hp | hp
  · exact absurd h (o1 p hp)
  · rcases List.mem_cons.1 hp with hp | hp
    · exact hp
    · obtain ⟨B1, B2, e2⟩ := List.append_of_mem hp
      have e3 : T = (A ++ q :: B1) ++ p :: B2 := by rw [e, e2]; simp
      exact absurd h.symm ((ord_T plan hT e3).1 q (by simp))
/-- What stands behind is no ancestor. -/
theorem not_anc (plan : Plan P N ops js) (hT : T.map (·.j) = js) {A B : List En} {q p : En} (e : T = A ++ q :: B) (hp : p ∈ B) : bit q.j.anc p.j.i = false := by
  cases h : bit q.j.anc p.j.i with
  | false => rfl
  | true =>
    obtain ⟨p', hp', hi⟩ := (ord_T plan hT e).2.1 _ h
    obtain ⟨B1, B2, e2⟩ := List.append_of_mem hp
    have e3 : T = (A ++ q :: B1) ++ p :: B2 := by rw [e, e2]; simp
    exact absurd hi ((ord_T plan hT e3).1 p' (by simp [hp']))
theorem apart_T (plan : Plan P N ops js) (hT : T.map (·.j) = js) (hop : ∀ x ∈ T, ops[x.j.i]? = some x.o) {p q : En} (hp : p ∈ T) (hq : q ∈ T) (hne : p.j.i ≠ q.j.i) (h1 : bit p.j.anc q.j.i = false) (h2 : bit q.j.anc p.j.i = false) : Apart ops p.o q.o :=
  plan.apart p.j (by rw [← hT]; exact List.mem_map.2 ⟨p, hp, rfl⟩) q.j (by rw [← hT]; exact List.mem_map.2 ⟨q, hq, rfl⟩) hne h1 h2 _ _ (hop p hp) (hop q hq)

theorem names_dst {o : Oper} {t : Nat} (h : o.dst = some t) : t ∈ namesA ops o := by simp [namesA, h]
theorem names_op {o : Oper} {t : Nat} (h : Operand.tmp t ∈ o.op.operands.toList) : t ∈ namesA ops o := by
  simp only [namesA, List.mem_append]
  exact .inl (.inr (List.mem_filterMap.2 ⟨.tmp t, h, rfl⟩))
theorem names_guard {o : Oper} {j d : Nat} {want : Bool} (h : o.guard = some (j, want)) (hd : (ops[j]?).bind (·.dst) = some d) : d ∈ namesA ops o := by
  simp only [namesA, List.mem_append]
  refine .inr ?_
  rw [h]
  simp only [hd, Option.toList_some, List.mem_singleton]

theorem Inv.allok {l : Array Bool} {A B : List En} {ef : Env} {Hf : AH} {pf : List Pend} {φ : Phi} {cur : Nat → AV} {a : Act} {w : World} (I : Inv P rec N ops T env0 φ0 H0 w0 eF HF l A B ef Hf pf φ cur a w) : ∀ x ∈ T, Ok P rec N ops x := by
  intro x hx
  rw [I.split] at hx
  rcases List.mem_append.1 hx with hx | hx
  · exact I.chain.ok x hx
  · obtain ⟨pF, hr⟩ := I.rest; exact hr.ok x hx

/-- One operation without effect, at any time that it is ready. -/
theorem inv_step (plan : Plan P N ops js) (hT : T.map (·.j) = js) (hN : N ≤ 256) {l : Array Bool} {A B : List En} {ef : Env} {Hf : AH} {pf : List Pend} {φ : Phi} {cur : Nat → AV} {a : Act} {w : World}
    (I : Inv P rec N ops T env0 φ0 H0 w0 eF HF l A B ef Hf pf φ cur a w) {q : En} (hqA : q ∈ A) (hq : ¬ On l q.j.i) (hready : ∀ h, bit q.j.anc h = true → On l h) (hlt : q.j.i < ops.size)
    {Q : Exit → Act → World → Prop} {K : Act → World → Prop} (hK : ∀ φ' cur' a' w', Inv P rec N ops T env0 φ0 H0 w0 eF HF (l.setIfInBounds q.j.i true) A B ef Hf pf φ' cur' a' w' → K a' w') : wpOp P ops Q q.j.i K a w := by
  have hok := I.allok
  have hop : ∀ x ∈ T, ops[x.j.i]? = some x.o := fun x hx => (hok x hx).op
  have hsub : ∀ x ∈ A, x ∈ T := fun x hx => by rw [I.split]; simp [hx]
  have hon : ∀ i, On (l.setIfInBounds q.j.i true) i ↔ On l i ∨ i = q.j.i := fun i => on_set (by rw [I.size]; exact hlt)
  obtain ⟨A1, A2, eA⟩ := List.append_of_mem hqA
  have eT : T = A1 ++ q :: (A2 ++ B) := by rw [I.split, eA]; simp
  have hops : ∀ t ∈ namesA ops q.o, t < N → cur t = slotG t q.env := fun t ht hlt => by
    refine I.curQ A1 q A2 eA hq t ht hlt fun p hp hd => ?_
    rcases Classical.em (On l p.j.i) with h | h
    · exact h
    · exfalso
      have hpT : p ∈ T := by rw [eT]; simp [hp]
      have hne := (ord_T plan hT eT).1 p hp
      have h2 : bit q.j.anc p.j.i = false := by
        cases hb : bit q.j.anc p.j.i with
        | false => rfl
        | true => exact absurd (hready _ hb) h
      have h1 : bit p.j.anc q.j.i = false := by
        obtain ⟨C1, C2, e2⟩ := List.append_of_mem hp
        exact not_anc plan hT (A := C1) (B := C2 ++ q :: (A2 ++ B)) (by rw [eT, e2]; simp) (by simp)
      exact (apart_T plan hT hop hpT (hsub q hqA) hne h1 h2).1 t hd ht
  have hval : ∀ t ∈ namesA ops q.o, t < N → CRel φ (slotG t q.env) (a.eval (.tmp t)) := fun t ht hlt => by rw [← hops t ht hlt]; exact I.val t hlt
  have hxr : OpsR N φ q.env a q.o := fun x hx => by
    cases x with
    | tmp t => exact fun ht => hval t (names_op hx) ht
    | _ => trivial
  have hg : ∀ j want d, q.o.guard = some (j, want) → (ops[j]?).bind (·.dst) = some d → d < N → CRel φ (slotG d q.env) (a.eval (.tmp d)) := fun j want d h1 h2 h3 => hval d (names_guard h1 h2) h3
  have hdst := (hok q (hsub q hqA)).dst
  -- a writer of a slot that q writes, behind q, is not listed
  have after : ∀ p ∈ A2, ∀ t, p.o.dst = some t → q.o.dst = some t → ¬ On (l.setIfInBounds q.j.i true) p.j.i := by
    intro p hp t h1 h2 h3
    have hpT : p ∈ T := by rw [eT]; simp [hp]
    have hpA : p ∈ A := by rw [eA]; simp [hp]
    have hne : p.j.i ≠ q.j.i := by
      intro e
      obtain ⟨C1, C2, e2⟩ := List.append_of_mem hp
      exact (ord_T plan hT (A := A1 ++ q :: C1) (q := p) (B := C2 ++ B) (by rw [eT, e2]; simp)).1 q (by simp) e.symm
    have h4 : On l p.j.i := ((hon _).1 h3).resolve_right hne
    have h5 : bit p.j.anc q.j.i = false := by
      cases hb : bit p.j.anc q.j.i with
      | false => rfl
      | true => exact absurd (I.down p hpA h4 _ hb) hq
    have h6 : bit q.j.anc p.j.i = false := not_anc plan hT eT (by simp [hp])
    exact (apart_T plan hT hop hpT (hsub q hqA) hne h5 h6).1 t h1 (names_dst h2)
  have next : ∀ φ' u w', φ.le φ' → CRel φ' q.v u → Ext φ0 H0 w0 φ' Hf w' → (∀ q' ∈ A, ¬ On l q'.j.i → q'.j.i ≠ q.j.i → ∀ b ob, q'.nb = some (b, ob) → φ' b = none) → K (a.put q.o.dst u) w' := by
    intro φ' u w' hle hu hext hnone
    refine hK φ' (fun t => if q.o.dst = some t then q.v else cur t) _ w' ⟨by simp [I.size], I.split, I.chain, I.rest, ?_, ?_, ?_, ?_, ?_, ?_, ?_, ?_, ?_, hext⟩
    · intro i hi
      rcases (hon i).1 hi with h | h
      · exact I.sub i h
      · exact ⟨q, hqA, h.symm⟩
    · intro q' hq' h1 h hb
      rw [hon]
      rcases (hon _).1 h1 with h2 | h2
      · exact .inl (I.down q' hq' h2 h hb)
      · have := id_inj plan hT (hsub q' hq') (hsub q hqA) h2
        subst this
        exact .inl (hready h hb)
    · cases hd : q.o.dst <;> exact I.defers
    · cases hd : q.o.dst <;> simpa [Act.put] using I.tmps
    · intro t ht
      cases hd : q.o.dst with
      | none => simpa [Act.put] using (I.val t ht).mono hle
      | some d =>
        rw [hd] at hdst
        have hdl : d < N := lt_of_blt hdst
        by_cases e : t = d
        · subst e; rw [if_pos rfl, Act.eval_put_same (by rw [I.tmps]; exact hdl)]; exact hu
        · rw [if_neg (fun h => e (Option.some.inj h).symm), Act.eval_put_ne e]; exact (I.val t ht).mono hle
    · intro C1 q' C2 e h1 t ht htl hw
      have h1' : ¬ On l q'.j.i ∧ q'.j.i ≠ q.j.i := ⟨fun h => h1 ((hon _).2 (.inl h)), fun h => h1 ((hon _).2 (.inr h))⟩
      have hq'A : q' ∈ A := by rw [e]; simp
      have eT' : T = C1 ++ q' :: (C2 ++ B) := by rw [I.split, e]; simp
      by_cases hd : q.o.dst = some t
      · rw [if_pos hd]
        have hb : bit q'.j.anc q.j.i = true := by
          cases hb : bit q'.j.anc q.j.i with
          | true => rfl
          | false =>
            exfalso
            have hb2 : bit q.j.anc q'.j.i = false := by
              cases hb2 : bit q.j.anc q'.j.i with
              | false => rfl
              | true => exact absurd (hready _ hb2) h1'.1
            exact (apart_T plan hT hop (hsub q hqA) (hsub q' hq'A) (Ne.symm h1'.2) hb2 hb).1 t hd ht
        obtain ⟨p, hp, hpi⟩ := (ord_T plan hT eT').2.1 _ hb
        have hpq : p = q := id_inj plan hT (by rw [eT']; simp [hp]) (hsub q hqA) hpi
        subst hpq
        obtain ⟨D1, D2, e2⟩ := List.append_of_mem hp
        -- the parts of the trace agree
        have eA2 : A2 = D2 ++ q' :: C2 ∧ A1 = D1 := by
          have h3 : A1 ++ p :: A2 = D1 ++ p :: (D2 ++ q' :: C2) := by rw [← eA, e, e2]; simp
          have hA1 : p ∉ A1 := fun h => (ord_T plan hT eT).1 p h rfl
          have hD1 : p ∉ D1 := fun h => (ord_T plan hT (A := D1) (q := p) (B := D2 ++ q' :: (C2 ++ B)) (by rw [eT', e2]; simp)).1 p h rfl
          obtain ⟨h4, h5⟩ := split_inj h3 hA1 hD1
          exact ⟨h5, h4⟩
        have hch := I.chain
        rw [e, e2, List.append_assoc, List.cons_append] at hch
        obtain ⟨e1, H1, p1, _, hc2⟩ := TC.split.1 hch
        obtain ⟨⟨_, he, _, _⟩, hc3⟩ := hc2
        obtain ⟨e3, H3, p3, hc4, hc5⟩ := TC.split.1 hc3
        have hq'e : q'.env = e3 := hc5.1.2.1
        rw [hq'e, TC.slot hN (by omega) hc4 ?_, slot_putD hN hdst (by omega), if_pos hd]
        intro x hx hxd
        exact after x (by rw [eA2.1]; simp [hx]) t hxd hd (hw x (by rw [e2]; simp [hx]) hxd)
      · rw [if_neg hd]
        refine I.curQ C1 q' C2 e h1'.1 t ht htl fun p hp hpd => ?_
        rcases (hon _).1 (hw p hp hpd) with h | h
        · exact h
        · have := id_inj plan hT (by rw [eT']; simp [hp]) (hsub q hqA) h
          subst this; exact absurd hpd hd
    · intro t htl hw
      by_cases hd : q.o.dst = some t
      · rw [if_pos hd]
        have hch := I.chain
        rw [eA] at hch
        obtain ⟨e1, H1, p1, _, hc2⟩ := TC.split.1 hch
        obtain ⟨_, hc3⟩ := hc2
        rw [TC.slot hN (by omega) hc3 ?_, slot_putD hN hdst (by omega), if_pos hd]
        intro x hx hxd
        exact after x hx t hxd hd (hw x (by rw [eA]; simp [hx]) hxd)
      · rw [if_neg hd]
        refine I.curF t htl fun p hp hpd => ?_
        rcases (hon _).1 (hw p hp hpd) with h | h
        · exact h
        · have := id_inj plan hT (hsub p hp) (hsub q hqA) h
          subst this; exact absurd hpd hd
    · intro q' hq' h1
      have h1' : ¬ On l q'.j.i ∧ q'.j.i ≠ q.j.i := ⟨fun h => h1 ((hon _).2 (.inl h)), fun h => h1 ((hon _).2 (.inr h))⟩
      cases I.todo q' hq' h1'.1 with
      | skip b h v => exact .skip b h v
      | pure b h hp => exact .pure b h hp
      | new b ob e h hn _ hg hb => exact .new b ob e h hn (hnone q' hq' h1'.1 h1'.2 b ob e) hg hb
      | read b h H1 hr hs hl => exact .read b h H1 hr hs hl
    · intro q1 h1 q2 h2 n1 n2
      exact I.dist q1 h1 q2 h2 (fun h => n1 ((hon _).2 (.inl h))) (fun h => n2 ((hon _).2 (.inl h)))
  have same : ∀ q' ∈ A, ¬ On l q'.j.i → q'.j.i ≠ q.j.i → ∀ b ob, q'.nb = some (b, ob) → φ b = none := by
    intro q' hq' h1 _ b ob e
    cases I.todo q' hq' h1 with
    | skip b _ _ => rw [b] at e; cases e
    | pure b _ _ => rw [b] at e; cases e
    | new b' ob' e' _ _ hφ _ _ => rw [e'] at e; cases e; exact hφ
    | read b _ _ _ _ _ => rw [b] at e; cases e
  cases I.todo q hqA hq with
  | skip b h v => exact wpOp_skip (hop q (hsub q hqA)) (unwanted_of h hg) (next φ _ w φ.le_refl (by rw [v]; exact CRel.undef φ) I.ext same)
  | pure b h hp =>
    refine wpOp_run (hop q (hsub q hqA)) (wanted_of h I.tmps hg) ?_
    obtain ⟨u, hu, hc⟩ := hp φ a w hxr
    simp only [Oper.wp, hu, Oper.upon]
    exact next φ u w φ.le_refl hc I.ext same
  | new b ob e h hn hφ hgb hb =>
    refine wpOp_run (hop q (hsub q hqA)) (wanted_of h I.tmps hg) ?_
    obtain ⟨x, n, u, hu, hv⟩ := hn φ a hxr w
    obtain ⟨h1, h2⟩ := hv _ (Phi.le_add ⟨w.heap.size, 0, n⟩ hφ) (Phi.add_same _ _ _)
    simp only [Oper.wp, hu, Oper.upon]
    refine next _ u _ (Phi.le_add _ hφ) h1 (I.ext.realize hφ hb hgb h2) fun q' hq' hon' hne b' ob' e' => ?_
    rw [Phi.add_ne φ _ (I.dist q' hq' q hqA hon' hq hne b' ob' b ob e' e)]
    exact same q' hq' hon' hne b' ob' e'
  | read b h H1 hr hs hl =>
    refine wpOp_run (hop q (hsub q hqA)) (wanted_of h I.tmps hg) ?_
    obtain ⟨u, hu, hc⟩ := hr φ a w hxr (I.ext.rel.toO.sub hs)
    simp only [Oper.wp, hu, Oper.upon]
    exact next φ u w φ.le_refl hc I.ext same
end draw
end Go.Ev

/- Regions that draw their order: effects; the whole region. -/
namespace Go.Ev
open Go

section draw
variable {P : Program} {rec : Rec} {N : Nat} {ops : Array Oper} {js : List J} {T : List En} {env0 : Env} {φ0 : Phi} {H0 : AH} {w0 : World} {eF : Env} {HF : AH}

theorem inv_eff (plan : Plan P N ops js) (hT : T.map (·.j) = js) (hN : N ≤ 256) (hrec : RecOk P rec) {l : Array Bool} {A B : List En} {e : En} {ef : Env} {Hf : AH} {pf : List Pend} {φ : Phi} {cur : Nat → AV} {a : Act} {w : World}
    (I : Inv P rec N ops T env0 φ0 H0 w0 eF HF l A (e :: B) ef Hf pf φ cur a w) (hk : e.j.it.kind = 2) (hready : ∀ h, bit e.j.anc h = true → On l h) (hlt : e.j.i < ops.size)
    {Q : Exit → Act → World → Prop} {K : Act → World → Prop} (hK : ∀ A' B' ef' Hf' pf' φ' cur' a' w', Inv P rec N ops T env0 φ0 H0 w0 eF HF (l.setIfInBounds e.j.i true) A' B' ef' Hf' pf' φ' cur' a' w' → Head B' → K a' w') : wpOp P ops Q e.j.i K a w := by
  have hok := I.allok
  have hop : ∀ x ∈ T, ops[x.j.i]? = some x.o := fun x hx => (hok x hx).op
  have hsub : ∀ x ∈ A, x ∈ T := fun x hx => by rw [I.split]; simp [hx]
  have heT : e ∈ T := by rw [I.split]; simp
  have hon : ∀ i, On (l.setIfInBounds e.j.i true) i ↔ On l i ∨ i = e.j.i := fun i => on_set (by rw [I.size]; exact hlt)
  have ord := ord_T plan hT I.split
  obtain ⟨pF, ⟨hoke, hee, heH, hep⟩, hrest⟩ := I.rest
  rcases hoke.sem with ⟨h2, _⟩ | ⟨_, hst, hpo, hpe⟩
  · exact absurd hk h2
  -- an operation that is not listed is apart
  have hap : ∀ p ∈ A, ¬ On l p.j.i → Apart ops p.o e.o ∧ bit e.j.anc p.j.i = false := by
    intro p hp h
    have h2 : bit e.j.anc p.j.i = false := by
      cases hb : bit e.j.anc p.j.i with
      | false => rfl
      | true => exact absurd (hready _ hb) h
    have h1 : bit p.j.anc e.j.i = false := by
      obtain ⟨C1, C2, e2⟩ := List.append_of_mem hp
      exact not_anc plan hT (A := C1) (B := C2 ++ e :: B) (by rw [I.split, e2]; simp) (by simp)
    exact ⟨apart_T plan hT hop (hsub p hp) heT (ord.1 p hp) h1 h2, h2⟩
  have hops : ∀ t ∈ namesA ops e.o, t < N → cur t = slotG t e.env := fun t ht hlt => by
    rw [hee]
    refine I.curF t hlt fun p hp hd => ?_
    rcases Classical.em (On l p.j.i) with h | h
    · exact h
    · exact absurd ht ((hap p hp h).1.1 t hd)
  have hval : ∀ t ∈ namesA ops e.o, t < N → CRel φ (slotG t e.env) (a.eval (.tmp t)) := fun t ht hlt => by rw [← hops t ht hlt]; exact I.val t hlt
  have hxr : OpsR N φ e.env a e.o := fun x hx => by
    cases x with
    | tmp t => exact fun ht => hval t (names_op hx) ht
    | _ => trivial
  have hg : ∀ j want d, e.o.guard = some (j, want) → (ops[j]?).bind (·.dst) = some d → d < N → CRel φ (slotG d e.env) (a.eval (.tmp d)) := fun j want d h1 h2 h3 => hval d (names_guard h1 h2) h3
  have hdst := hoke.dst
  have hR : Rel φ e.H w := by rw [heH]; exact I.ext.rel
  have heon : ¬ On l e.j.i := fun h => by
    obtain ⟨q, hq, hi⟩ := I.sub _ h
    exact ord.1 q hq hi
  refine hst.wp hrec hoke.op I.tmps hxr hg hR fun φ' u w' hu hx => ?_
  rw [heH] at hx
  have hle := hx.le
  have I' : Inv P rec N ops T env0 φ0 H0 w0 eF HF (l.setIfInBounds e.j.i true) (A ++ [e]) B (putD e.o.dst e.v e.env) e.H' e.pend' φ' (fun t => if e.o.dst = some t then e.v else cur t) (a.put e.o.dst u) w' := by
    refine ⟨by simp [I.size], by rw [I.split]; simp, TC.split.2 ⟨ef, Hf, pf, I.chain, ⟨⟨hoke, hee, heH, hep⟩, rfl, rfl, rfl⟩⟩, ⟨pF, hrest⟩, ?_, ?_, ?_, ?_, ?_, ?_, ?_, ?_, ?_, I.ext.trans hx⟩
    · intro i hi
      rcases (hon i).1 hi with h | h
      · obtain ⟨q, hq, e1⟩ := I.sub i h; exact ⟨q, by simp [hq], e1⟩
      · exact ⟨e, by simp, h.symm⟩
    · intro q hq h1 h hb
      rw [hon]
      simp at hq
      rcases hq with hq | rfl
      · rcases (hon _).1 h1 with h2 | h2
        · exact .inl (I.down q hq h2 h hb)
        · exact absurd h2 (ord.1 q hq)
      · exact .inl (hready h hb)
    · cases hd : e.o.dst <;> exact I.defers
    · cases hd : e.o.dst <;> simpa [Act.put] using I.tmps
    · intro t ht
      cases hd : e.o.dst with
      | none => simpa [Act.put] using (I.val t ht).mono hle
      | some d =>
        rw [hd] at hdst
        have hdl : d < N := lt_of_blt hdst
        by_cases e1 : t = d
        · subst e1; rw [if_pos rfl, Act.eval_put_same (by rw [I.tmps]; exact hdl)]; exact hu
        · rw [if_neg (fun h => e1 (Option.some.inj h).symm), Act.eval_put_ne e1]; exact (I.val t ht).mono hle
    · intro C1 q C2 e1 h1 t ht htl hw
      have h1' : ¬ On l q.j.i ∧ q.j.i ≠ e.j.i := ⟨fun h => h1 ((hon _).2 (.inl h)), fun h => h1 ((hon _).2 (.inr h))⟩
      rcases List.eq_nil_or_concat C2 with rfl | ⟨C3, y, rfl⟩
      · have := List.append_inj' e1 (by simp)
        have h3 := this.2
        simp at h3
        exact absurd (by rw [← h3]) h1'.2
      · rw [List.concat_eq_append, ← List.cons_append, ← List.append_assoc] at e1
        have e2 := (List.append_inj' e1 (by simp)).1
        have hqA : q ∈ A := by rw [e2]; simp
        have hd : e.o.dst ≠ some t := fun hd => (hap q hqA h1'.1).1.2 t hd ht
        rw [if_neg hd]
        refine I.curQ C1 q C3 e2 h1'.1 t ht htl fun p hp hpd => ?_
        rcases (hon _).1 (hw p hp hpd) with h | h
        · exact h
        · exact absurd h (ord.1 p (by rw [e2]; simp [hp]))
    · intro t htl hw
      rw [slot_putD hN hdst (by omega)]
      by_cases hd : e.o.dst = some t
      · rw [if_pos hd, if_pos hd]
      · rw [if_neg hd, if_neg hd, hee]
        refine I.curF t htl fun p hp hpd => ?_
        rcases (hon _).1 (hw p (by simp [hp]) hpd) with h | h
        · exact h
        · exact absurd h (ord.1 p hp)
    · intro q hq h1
      have h1' : ¬ On l q.j.i ∧ q.j.i ≠ e.j.i := ⟨fun h => h1 ((hon _).2 (.inl h)), fun h => h1 ((hon _).2 (.inr h))⟩
      simp at hq
      rcases hq with hq | rfl
      · cases I.todo q hq h1'.1 with
        | skip b h v => exact .skip b h v
        | pure b h hp => exact .pure b h hp
        | new b ob e1 h hn hφ hgb hb =>
          have hbl := I.ext.rel.live b ob hgb
          exact .new b ob e1 h hn (by rw [hx.old b hbl]; exact hφ) (by rw [hx.virt b hbl hφ]; exact hgb) hb
        | read b h H1 hr hs hl =>
          obtain ⟨p, hp, hp1, hp2, hp3⟩ := hl
          rw [hep] at hpo
          have hrd := pendOk_spec hpo p hp (by rw [hp1]; exact (hap q hq h1'.1).2)
          rw [hp2] at hrd
          exact .read b h e.H' (hp3 e.H' q.v hrd) (fun b o hb => hb) ⟨p, by rw [hpe, hep]; exact hp, hp1, hp2, hp3⟩
      · exact absurd rfl h1'.2
    · intro q1 h1 q2 h2 n1 n2 hne
      have m1 : ¬ On l q1.j.i ∧ q1.j.i ≠ e.j.i := ⟨fun h => n1 ((hon _).2 (.inl h)), fun h => n1 ((hon _).2 (.inr h))⟩
      have m2 : ¬ On l q2.j.i ∧ q2.j.i ≠ e.j.i := ⟨fun h => n2 ((hon _).2 (.inl h)), fun h => n2 ((hon _).2 (.inr h))⟩
      simp at h1 h2
      rcases h1 with h1 | rfl <;> rcases h2 with h2 | rfl
      · exact I.dist q1 h1 q2 h2 m1.1 m2.1 hne
      · exact absurd rfl m2.2
      · exact absurd rfl m1.2
      · exact absurd rfl m1.2
  obtain ⟨A', B', ef', Hf', pf', I'', hhead⟩ := advance plan hT hN B _ _ _ _ I'
  exact hK A' B' ef' Hf' pf' φ' _ _ w' I'' hhead

theorem count_lt {p p' : En → Bool} (hsub : ∀ x, p' x = true → p x = true) {q : En} (h1 : p q = true) (h2 : p' q = false) : ∀ (T : List En), q ∈ T → T.countP p' < T.countP p
  | x :: T, hq => by
    have le : T.countP p' ≤ T.countP p := List.countP_mono_left fun x _ h => hsub x h
    rcases List.mem_cons.1 hq with rfl | hq
    · rw [List.countP_cons_of_pos h1, List.countP_cons_of_neg (by simp [h2])]
      omega
    · have ih := count_lt hsub h1 h2 T hq
      cases hp : p' x with
      | true => rw [List.countP_cons_of_pos hp, List.countP_cons_of_pos (hsub x hp)]; omega
      | false =>
        rw [List.countP_cons_of_neg (by simp [hp])]
        have : T.countP p ≤ (x :: T).countP p := by
          cases hp' : p x with
          | true => rw [List.countP_cons_of_pos hp']; omega
          | false => rw [List.countP_cons_of_neg (by simp [hp'])]; omega
        omega

theorem draw_any (plan : Plan P N ops js) (hT : T.map (·.j) = js) (hN : N ≤ 256) (hrec : RecOk P rec) {Q : Exit → Act → World → Prop} (hQ : ∀ φ' a' w', EnvRel φ' N eF a' → Ext φ0 H0 w0 φ' HF w' → Q .normal a' w') :
    ∀ (fuel : Nat) (l : Array Bool) (A B : List En) (ef : Env) (Hf : AH) (pf : List Pend) (φ : Phi) (cur : Nat → AV) (a : Act) (w : World), Inv P rec N ops T env0 φ0 H0 w0 eF HF l A B ef Hf pf φ cur a w → Head B →
      T.countP (fun q => !l.getD q.j.i false) ≤ fuel → wpAny P .any ops Q fuel l a w := by
  intro fuel l A B ef Hf pf φ cur a w I hhead hcount
  induction fuel generalizing l A B ef Hf pf φ cur a w with
  | zero =>
    have hall : ∀ q ∈ T, On l q.j.i := by
      intro q hq
      have h0 : T.countP (fun q => !l.getD q.j.i false) = 0 := Nat.le_zero.1 hcount
      rw [List.countP_eq_zero] at h0
      have := h0 q hq
      simpa [On] using this
    have fin : Q .normal a w := by
      have hB : B = [] := by
        cases hB : B with
        | nil => rfl
        | cons x B' =>
          exfalso
          have hx : x ∈ T := by rw [I.split, hB]; simp
          obtain ⟨q, hq, hi⟩ := I.sub _ (hall x hx)
          rw [hB] at I
          exact (ord_T plan hT I.split).1 q hq hi
      subst hB
      obtain ⟨pF, h1, h2, _⟩ := I.rest
      subst h1 h2
      have hA : ∀ p ∈ A, On l p.j.i := fun p hp => hall p (by rw [I.split]; simp [hp])
      exact hQ φ a w ⟨I.defers, I.tmps, hN, fun t ht => by rw [← I.curF t ht fun p hp _ => hA p hp]; exact I.val t ht⟩ I.ext
    refine ⟨?_, fin⟩
    refine List.eq_nil_iff_forall_not_mem.2 fun i hi => ?_
    obtain ⟨h1, o, ho, _⟩ := mem_ready.1 hi
    have hlt : i < ops.size := (Array.getElem?_eq_some_iff.1 ho).1
    obtain ⟨j, hj, hji⟩ := plan.all i hlt
    rw [← hT] at hj
    obtain ⟨q, hq, rfl⟩ := List.mem_map.1 hj
    have h2 := hall q hq
    unfold On at h2
    rw [hji] at h2
    have hl : i < l.size := by rw [I.size]; exact hlt
    simp [hl] at h1 h2
    rw [h1] at h2; cases h2
  | succ fuel ih =>
    have hop : ∀ x ∈ T, ops[x.j.i]? = some x.o := fun x hx => (I.allok x hx).op
    have size_of : ∀ q ∈ T, q.j.i < l.size := fun q hq => by rw [I.size]; exact (Array.getElem?_eq_some_iff.1 (hop q hq)).1
    refine ⟨fun hr => ?_, fun i hi => ?_⟩
    · -- nothing is ready: all is done
      have hall : ∀ (n : Nat) (C D : List En), C.length = n → T = C ++ D → ∀ q ∈ C, On l q.j.i := by
        intro n
        induction n with
        | zero => intro C D hC _ q hq; rw [List.eq_nil_of_length_eq_zero hC] at hq; cases hq
        | succ n ihC =>
          intro C0 D hC0 e q hq
          obtain ⟨C, x, rfl⟩ : ∃ C x, C0 = C ++ [x] := by
            rcases List.eq_nil_or_concat C0 with rfl | ⟨C, x, rfl⟩
            · simp at hC0
            · exact ⟨C, x, by simp⟩
          have hC := ihC C (x :: D) (by simpa using hC0) (by rw [e]; simp)
          rcases List.mem_append.1 hq with hq | hq
          · exact hC q hq
          · simp at hq; subst hq
            rcases Classical.em (On l q.j.i) with h | h
            · exact h
            · exfalso
              have eT : T = C ++ q :: D := by rw [e]; simp
              have hqT : q ∈ T := by rw [eT]; simp
              have hmem : q.j.i ∈ Region.ready .any ops l := by
                refine mem_ready.2 ⟨?_, q.o, hop q hqT, fun ed hed hb => ?_⟩
                · have := size_of q hqT
                  unfold On at h
                  simp [this] at h ⊢
                  exact h
                · have hbit := plan.direct q.j (by rw [← hT]; exact List.mem_map.2 ⟨q, hqT, rfl⟩) q.o (hop q hqT) ed (by simpa using hed) hb
                  obtain ⟨p, hp, hpi⟩ := (ord_T plan hT eT).2.1 _ hbit
                  rw [← hpi]; exact hC p hp
              rw [hr] at hmem; cases hmem
      have hall' : ∀ q ∈ T, On l q.j.i := fun q hq => hall _ T [] rfl (by simp) q hq
      have h0 : wpAny P .any ops Q 0 l a w := by
        have hc0 : T.countP (fun q => !l.getD q.j.i false) = 0 := by
          rw [List.countP_eq_zero]
          intro q hq
          have := hall' q hq
          simpa [On] using this
        have hB : B = [] := by
          cases hB : B with
          | nil => rfl
          | cons x B' =>
            exfalso
            have hx : x ∈ T := by rw [I.split, hB]; simp
            obtain ⟨q, hq, hi⟩ := I.sub _ (hall' x hx)
            rw [hB] at I
            exact (ord_T plan hT I.split).1 q hq hi
        subst hB
        obtain ⟨pF, h1, h2, _⟩ := I.rest
        subst h1 h2
        have hA : ∀ p ∈ A, On l p.j.i := fun p hp => hall' p (by rw [I.split]; simp [hp])
        exact ⟨hr, hQ φ a w ⟨I.defers, I.tmps, hN, fun t ht => by rw [← I.curF t ht fun p hp _ => hA p hp]; exact I.val t ht⟩ I.ext⟩
      exact h0.2
    · obtain ⟨h1, o, ho, hedges⟩ := mem_ready.1 hi
      have hlt : i < ops.size := (Array.getElem?_eq_some_iff.1 ho).1
      obtain ⟨j, hj, hji⟩ := plan.all i hlt
      have hj' := hj
      rw [← hT] at hj'
      obtain ⟨q, hq, rfl⟩ := List.mem_map.1 hj'
      subst hji
      have hqo : q.o = o := by have := hop q hq; rw [ho] at this; cases this; rfl
      have hnon : ¬ On l q.j.i := by
        have := size_of q hq
        unfold On
        simp [this] at h1 ⊢
        exact h1
      have hready : ∀ h, bit q.j.anc h = true → On l h := by
        intro h hb
        obtain ⟨ed, hed, hbd, hcase⟩ := plan.close q.j hj o ho h hb
        have hone := hedges ed (by simpa using hed) hbd
        rcases hcase with rfl | ⟨q2, hq2, hi2, hb2⟩
        · exact hone
        · obtain ⟨q3, hq3, hi3⟩ := I.sub _ hone
          rw [← hT] at hq2
          obtain ⟨x, hx, rfl⟩ := List.mem_map.1 hq2
          have : x = q3 := id_inj plan hT hx (by rw [I.split]; simp [hq3]) (by rw [hi2, hi3])
          subst this
          exact I.down x hq3 (by rw [hi2]; exact hone) h hb2
      have hcnt : T.countP (fun x => !(l.setIfInBounds q.j.i true).getD x.j.i false) ≤ fuel := by
        have := count_lt (p := fun x => !l.getD x.j.i false) (p' := fun x => !(l.setIfInBounds q.j.i true).getD x.j.i false) (q := q) (fun x hx => by
          cases hl : l.getD x.j.i false with
          | false => simp
          | true =>
            have h3 : On (l.setIfInBounds q.j.i true) x.j.i := (on_set (size_of q hq)).2 (.inl hl)
            unfold On at h3
            rw [h3] at hx; cases hx) (by
          cases hl : l.getD q.j.i false with
          | false => simp
          | true => exact absurd hl hnon) (by
          have h3 : On (l.setIfInBounds q.j.i true) q.j.i := (on_set (size_of q hq)).2 (.inr rfl)
          unfold On at h3
          simp only [h3, Bool.not_true]) T hq
        omega
      have hq' := hq
      rw [I.split] at hq'
      rcases List.mem_append.1 hq' with hqA | hqB
      · exact inv_step plan hT hN I hqA hnon hready hlt fun φ' cur' a' w' I' => ih _ A B ef Hf pf φ' cur' a' w' I' hhead hcnt
      · cases hB : B with
        | nil => rw [hB] at hqB; cases hqB
        | cons x B' =>
          have hx2 := hhead x B' hB
          subst hB
          rcases List.mem_cons.1 hqB with rfl | hqB
          · exact inv_eff plan hT hN hrec I hx2 hready hlt fun A' B'' ef' Hf' pf' φ' cur' a' w' I' hh => ih _ A' B'' ef' Hf' pf' φ' cur' a' w' I' hh hcnt
          · exfalso
            obtain ⟨B1, B2, e2⟩ := List.append_of_mem hqB
            have e3 : T = (A ++ x :: B1) ++ q :: B2 := by rw [I.split, e2]; simp
            have hb := (ord_T plan hT e3).2.2 x (by simp) hx2
            obtain ⟨q3, hq3, hi3⟩ := I.sub _ (hready _ hb)
            exact (ord_T plan hT I.split).1 q3 hq3 hi3
end draw
end Go.Ev

/- Regions, code, calls: the evaluator is sound. -/
namespace Go.Ev
open Go

theorem nodup_length : ∀ (n : Nat) (l : List Nat), l.Nodup → (∀ x ∈ l, x < n) → l.length ≤ n
  | 0, l, _, h => by
    cases l with
    | nil => simp
    | cons x l => exact absurd (h x (by simp)) (by omega)
  | n + 1, l, hd, h => by
    have h1 : (l.erase n).Nodup := hd.erase n
    have h2 : ∀ x ∈ l.erase n, x < n := by
      intro x hx
      rw [hd.mem_erase_iff] at hx
      have := h x hx.2
      have := hx.1
      omega
    have h3 := nodup_length n _ h1 h2
    by_cases hm : n ∈ l
    · rw [List.length_erase_of_mem hm] at h3; omega
    · rw [List.erase_of_not_mem hm] at h3; omega

section sound
variable {P : Program} {rec : Rec} {N : Nat}

/-- What code does in the model: it leaves by x, in the frame env' and the heap H'. -/
def Leaves (P : Program) (N : Nat) (c : Code) (env : Env) (H : AH) (x : Exit) (env' : Env) (H' : AH) : Prop :=
  ∀ φ a w (Q : Exit → Act → World → Prop), EnvRel φ N env a → Rel φ H w → (∀ φ' a' w', EnvRel φ' N env' a' → Ext φ H w φ' H' w' → Q x a' w') → c.wp P Q a w

theorem ids_nodup {ops : Array Oper} {js : List J} (plan : Plan P N ops js) : (js.map (·.i)).Nodup := by
  have key : ∀ (l1 l2 : List J), js = l1 ++ l2 → (l1.map (·.i)).Nodup := by
    intro l1
    induction hn : l1.length generalizing l1 with
    | zero => intro l2 _; rw [List.eq_nil_of_length_eq_zero hn]; simp
    | succ n ih =>
      intro l2 e
      rcases List.eq_nil_or_concat l1 with rfl | ⟨l, x, rfl⟩
      · simp
      · rw [List.concat_eq_append] at e hn ⊢
        have h1 := ih l (by simpa using hn) (x :: l2) (by rw [e]; simp)
        have h2 := (plan.ord l x l2 (by rw [e]; simp)).1
        rw [List.map_append, List.nodup_append]
        refine ⟨h1, by simp, fun a ha b hb => ?_⟩
        simp at hb
        obtain ⟨p, hp, rfl⟩ := List.mem_map.1 ha
        rw [hb]; exact h2 p hp
  exact key js [] (by simp)

theorem region_sound (hrec : RecOk P rec) (hmix : P.follows .mixedOrders = true) {id : Nat} {ops : Array Oper} {draw : Bool} {env : Env} {H : AH} {k : Env → AH → Ans} {r : AV × AH} (h : cR P N ops draw rec env H k = some r) :
    ∃ env' H', k env' H' = some r ∧ Leaves P N (.region id ops draw) env H .normal env' H' := by
  unfold cR at h
  cases his : cIs P N ops ops.toList with
  | none => simp only [his] at h; cases h
  | some is =>
    simp only [his] at h
    cases draw with
    | false =>
      have hidx : (List.range ops.size).map (ops[·]?) = ops.toList.map some := by
        apply List.ext_getElem?
        intro i
        by_cases hi : i < ops.size <;> simp [hi]
      obtain ⟨env', H', hk, hs⟩ := seq_sound hrec ops.toList (List.range ops.size) is hidx his h
      exact ⟨env', H', hk, fun φ a w Q hE hR hQ => wp_region (hs φ a w Q hE hR hQ)⟩
    | true =>
      cases hord : orderOk ops is (ancs ops.toList []) (early is (ancs ops.toList [])) with
      | false => simp only [hord] at h; cases h
      | true =>
        simp only [hord] at h
        cases hjs : placed is (ancs ops.toList []) (early is (ancs ops.toList [])) with
        | none => simp only [hjs] at h; cases h
        | some js =>
          simp only [hjs] at h
          have plan := plan_of his hord hjs
          obtain ⟨T, eF, HF, pF, hT, htc, hk⟩ := trace_exists hrec.enter js [] env H plan.op h
          refine ⟨eF, HF, hk, fun φ a w Q hE hR hQ => wp_region_any hmix ?_⟩
          have I : Inv P rec N ops T env φ H w eF HF (Array.replicate ops.size false) [] T env H [] φ (fun t => slotG t env) a w.drew := by
            have hoff : ∀ i, ¬ On (Array.replicate ops.size false) i := by
              intro i
              unfold On
              by_cases hi : i < ops.size <;> simp [hi]
            refine ⟨by simp, rfl, ⟨rfl, rfl, rfl⟩, ⟨pF, htc⟩, fun i hi => absurd hi (hoff i), fun q hq => (by cases hq), hE.defers, hE.size, fun t ht => hE.get t ht, fun A1 q A2 e => ?_, fun t _ _ => rfl, fun q hq => (by cases hq), fun q hq => (by cases hq), Ext.drewR (Ext.refl hR)⟩
            cases A1 <;> cases e
          obtain ⟨A', B', ef', Hf', pf', I', hh⟩ := advance plan hT hE.le T [] env H [] I
          refine draw_any plan hT hE.le hrec (fun φ' a' w' h1 h2 => hQ φ' a' w' h1 h2) ops.size _ A' B' ef' Hf' pf' φ _ a _ I' hh ?_
          refine Nat.le_trans List.countP_le_length ?_
          have h1 : T.length = (js.map (·.i)).length := by rw [← hT]; simp
          rw [h1]
          refine nodup_length _ _ (ids_nodup plan) fun x hx => ?_
          obtain ⟨j, hj, rfl⟩ := List.mem_map.1 hx
          obtain ⟨o, ho, _⟩ := plan.op j hj
          exact (Array.getElem?_eq_some_iff.1 ho).1

def contOf (k : Env → AH → Ans) (e : Nat → Env → AH → Ans) (r : Env → AH → Ans) : Exit → Env → AH → Ans
  | .normal => k
  | .exit j => e j
  | .ret => r
  | _ => fun _ _ => none

def CodeOk (P : Program) (N : Nat) (rec : Rec) (c : Code) (cf : CF) : Prop := ∀ env H k e r res, cf rec env H k e r = some res →
  ∃ x env' H', contOf k e r x env' H' = some res ∧ Leaves P N c env H x env' H'

theorem loopN_sound {body : Code} {cf : CF} (hb : CodeOk P N rec body cf) : ∀ (f : Nat) {env H k e r res}, kLoopN cf f rec env H k e r = some res →
    ∃ x env' H', x ≠ .normal ∧ contOf k e r x env' H' = some res ∧ ∀ φ a w (Q : Exit → Act → World → Prop), EnvRel φ N env a → Rel φ H w → (∀ φ' a' w', EnvRel φ' N env' a' → Ext φ H w φ' H' w' → Q x a' w') → Code.rounds P body Q f a w
  | 0, env, H, k, e, r, res, h => by cases h
  | f + 1, env, H, k, e, r, res, h => by
    have h' : cf rec env H (fun env H => kLoopN cf f rec env H k e r) e r = some res := h
    obtain ⟨x, env1, H1, hc, hl⟩ := hb _ _ _ _ _ _ h'
    cases x with
    | normal =>
      obtain ⟨x, env2, H2, hx, hc2, hl2⟩ := loopN_sound hb f hc
      refine ⟨x, env2, H2, hx, hc2, fun φ a w Q hE hR hQ => ?_⟩
      rw [rounds_succ]
      exact hl φ a w _ hE hR fun φ' a' w' hE' hx' => hl2 φ' a' w' Q hE' hx'.rel fun φ'' a'' w'' hE'' hx'' => hQ φ'' a'' w'' hE'' (hx'.trans hx'')
    | exit j => exact ⟨.exit j, env1, H1, by simp, hc, fun φ a w Q hE hR hQ => by rw [rounds_succ]; exact hl φ a w _ hE hR fun φ' a' w' hE' hx' => hQ φ' a' w' hE' hx'⟩
    | ret => exact ⟨.ret, env1, H1, by simp, hc, fun φ a w Q hE hR hQ => by rw [rounds_succ]; exact hl φ a w _ hE hR fun φ' a' w' hE' hx' => hQ φ' a' w' hE' hx'⟩
    | goto j => cases hc
    | panic ch => cases hc
    | outgrown => cases hc

theorem code_sound {lf : Nat} (hrec : RecOk P rec) (hmix : P.follows .mixedOrders = true) (c : Code) : CodeOk P N rec c (codeA P lf N c) := by
  induction c with
  | skip => exact fun env H k e r res h => ⟨.normal, env, H, h, fun φ a w Q hE hR hQ => wp_skip (hQ φ a w hE (Ext.refl hR))⟩
  | region id ops draw =>
    intro env H k e r res h
    obtain ⟨env', H', hk, hl⟩ := region_sound (id := id) hrec hmix (show cR P N ops draw rec env H k = some res from h)
    exact ⟨.normal, env', H', hk, hl⟩
  | seq x y ihx ihy =>
    intro env H k e r res h
    obtain ⟨x1, env1, H1, hc, hl⟩ := ihx _ _ _ _ _ _ (show codeA P lf N x rec env H (fun env H => codeA P lf N y rec env H k e r) e r = some res from h)
    cases x1 with
    | normal =>
      obtain ⟨x2, env2, H2, hc2, hl2⟩ := ihy _ _ _ _ _ _ hc
      refine ⟨x2, env2, H2, hc2, fun φ a w Q hE hR hQ => wp_seq ?_⟩
      exact hl φ a w _ hE hR fun φ' a' w' hE' hx' => hl2 φ' a' w' Q hE' hx'.rel fun φ'' a'' w'' hE'' hx'' => hQ φ'' a'' w'' hE'' (hx'.trans hx'')
    | exit j => exact ⟨.exit j, env1, H1, hc, fun φ a w Q hE hR hQ => wp_seq (hl φ a w _ hE hR fun φ' a' w' hE' hx' => hQ φ' a' w' hE' hx')⟩
    | ret => exact ⟨.ret, env1, H1, hc, fun φ a w Q hE hR hQ => wp_seq (hl φ a w _ hE hR fun φ' a' w' hE' hx' => hQ φ' a' w' hE' hx')⟩
    | goto j => cases hc
    | panic ch => cases hc
    | outgrown => cases hc
  | cond c x y ihx ihy =>
    intro env H k e r res h
    have h' : oc (cX N c) (kNone rec env H k e r) (fun X => kCond X (codeA P lf N x) (codeA P lf N y) rec env H k e r) = some res := by
      have h0 : kCondO (cX N c) (codeA P lf N x) (codeA P lf N y) rec env H k e r = some res := h
      unfold kCondO at h0
      cases hX : cX N c with
      | none => rw [hX] at h0; exact h0
      | some X => rw [hX] at h0; exact h0
    cases hX : cX N c with
    | none => rw [hX] at h'; cases h'
    | some X =>
      rw [hX] at h'
      obtain ⟨b, hb, h2⟩ := onBool_eq (show onBool (fun t => bt t (codeA P lf N x rec env H k e r) (codeA P lf N y rec env H k e r)) (X env) = some res from h')
      have hv : ∀ φ a, EnvRel φ N env a → a.eval c = .bool b := by
        intro φ a hE
        have := cX_sound hX (hE.xr c)
        rw [hb] at this
        simpa only [CRel] using this
      cases b with
      | true =>
        obtain ⟨x1, env1, H1, hc, hl⟩ := ihx _ _ _ _ _ _ h2
        exact ⟨x1, env1, H1, hc, fun φ a w Q hE hR hQ => wp_cond_true (hv φ a hE) (hl φ a w Q hE hR hQ)⟩
      | false =>
        obtain ⟨x1, env1, H1, hc, hl⟩ := ihy _ _ _ _ _ _ h2
        exact ⟨x1, env1, H1, hc, fun φ a w Q hE hR hQ => wp_cond_false (hv φ a hE) (hl φ a w Q hE hR hQ)⟩
  | block id body ih =>
    intro env H k e r res h
    obtain ⟨x1, env1, H1, hc, hl⟩ := ih _ _ _ _ _ _ (show codeA P lf N body rec env H k (fun j env H => bt (Nat.beq j id) (k env H) (e j env H)) r = some res from h)
    cases x1 with
    | normal => exact ⟨.normal, env1, H1, hc, fun φ a w Q hE hR hQ => wp_block (hl φ a w _ hE hR fun φ' a' w' hE' hx' => hQ φ' a' w' hE' hx')⟩
    | ret => exact ⟨.ret, env1, H1, hc, fun φ a w Q hE hR hQ => wp_block (hl φ a w _ hE hR fun φ' a' w' hE' hx' => hQ φ' a' w' hE' hx')⟩
    | exit j =>
      have hc' : bt (Nat.beq j id) (k env1 H1) (e j env1 H1) = some res := hc
      by_cases hj : j = id
      · rw [beq_yes hj, bt_true] at hc'
        refine ⟨.normal, env1, H1, hc', fun φ a w Q hE hR hQ => wp_block (hl φ a w _ hE hR fun φ' a' w' hE' hx' => ?_)⟩
        simp only [Exit.inBlock, hj, if_true]
        exact hQ φ' a' w' hE' hx'
      · rw [beq_no hj, bt_false] at hc'
        refine ⟨.exit j, env1, H1, hc', fun φ a w Q hE hR hQ => wp_block (hl φ a w _ hE hR fun φ' a' w' hE' hx' => ?_)⟩
        simp only [Exit.inBlock, hj, if_false]
        exact hQ φ' a' w' hE' hx'
    | goto j => cases hc
    | panic ch => cases hc
    | outgrown => cases hc
  | loop body ih =>
    intro env H k e r res h
    obtain ⟨x1, env1, H1, hx, hc, hl⟩ := loopN_sound ih lf (show kLoopN (codeA P lf N body) lf rec env H k e r = some res from h)
    exact ⟨x1, env1, H1, hc, fun φ a w Q hE hR hQ => wp_loop_rounds lf (hl φ a w Q hE hR hQ)⟩
  | exit id => exact fun env H k e r res h => ⟨.exit id, env, H, h, fun φ a w Q hE hR hQ => wp_exit (hQ φ a w hE (Ext.refl hR))⟩
  | ret => exact fun env H k e r res h => ⟨.ret, env, H, h, fun φ a w Q hE hR hQ => wp_ret (hQ φ a w hE (Ext.refl hR))⟩
  | rangeFunc f ps x y _ _ => exact fun env H k e r res h => by cases h
  | scope x _ => exact fun env H k e r res h => by cases h
  | label l => exact fun env H k e r res h => by cases h
  | goto l => exact fun env H k e r res h => by cases h
  | refuse why => exact fun env H k e r res h => by cases h
end sound
end Go.Ev

/- Calls: the evaluator is sound. -/
namespace Go.Ev
open Go

section calls
variable {P : Program} {rec : Rec} {N : Nat}

theorem enterA_cons (v : AV) (l : List AV) (i : Nat) : enterA (v :: l) i = slotP i v (enterA l (i + 1)) := rfl
theorem slot_enter : ∀ (l : List AV) (i t : Nat), t < 256 → i + l.length ≤ 256 → slotG t (enterA l i) = if i ≤ t ∧ t < i + l.length then (l[t - i]?).getD undef else undef
  | [], i, t, _, _ => by
    rw [if_neg (by simp only [List.length_nil]; omega)]
    exact slot_empty t
  | v :: l, i, t, ht, hl => by
    simp only [List.length_cons] at hl ⊢
    rw [enterA_cons, slot_put ht (by omega), slot_enter l (i + 1) t ht (by omega)]
    by_cases e : t = i
    · subst e; simp
    · rw [if_neg e]
      by_cases h : i + 1 ≤ t ∧ t < i + 1 + l.length
      · rw [if_pos h, if_pos ⟨by omega, by omega⟩, show t - i = (t - (i + 1)) + 1 by omega, List.getElem?_cons_succ]
      · rw [if_neg h, if_neg (by omega)]

theorem enter_rel {φ : Phi} {args : List AV} {args' : Array Value} (hr : CRelL φ args args'.toList) {n : Nat} (hn : args.length ≤ n) (h256 : n ≤ 256) :
    EnvRel φ n (enterA args 0) { tmps := args' ++ Array.replicate (n - args'.size) Go.undef, defers := [] } := by
  have hl := hr.length
  simp only [Array.length_toList] at hl
  refine ⟨rfl, by simp; omega, h256, fun t ht => ?_⟩
  rw [slot_enter args 0 t (by omega) (by omega)]
  by_cases h : t < args.length
  · rw [if_pos ⟨Nat.zero_le _, by omega⟩]
    obtain ⟨u, hu, hc⟩ := hr.get t _ (List.getElem?_eq_getElem h)
    have h1 : args'[t]? = some u := by simpa using hu
    have h2 : (Act.eval { tmps := args' ++ Array.replicate (n - args'.size) Go.undef, defers := [] } (.tmp t)) = u := by
      have h3 : t < args'.size := by omega
      simp only [Act.eval, Array.getD_eq_getD_getElem?]
      rw [Array.getElem?_append_left h3, h1]; rfl
    rw [h2, Nat.sub_zero, List.getElem?_eq_getElem h]
    exact hc
  · rw [if_neg (by omega)]
    have h2 : (Act.eval { tmps := args' ++ Array.replicate (n - args'.size) Go.undef, defers := [] } (.tmp t)) = Go.undef := by
      have h3 : args'.size ≤ t := by omega
      simp only [Act.eval, Array.getD_eq_getD_getElem?]
      rw [Array.getElem?_append_right h3, Array.getElem?_replicate]
      split <;> rfl
    rw [h2]; exact CRel.undef φ

/-- One result, read. -/
def resOf (tmps : Array Value) : ResultVar → Sem Value
  | .tmp t => pure (tmps.getD t Go.undef)
  | .cell a t => do loadVar t (← asAddr (tmps.getD a Go.undef))

theorem run_asAddr {φ : Phi} {b off : Nat} {u : Value} (h : CRel φ (.ptr b off) u) (t : TypeId) (w : World) : (do loadVar t (← asAddr u) : Sem Value).run P w = (Instr.loadAt t u).run P w := by
  simp only [CRel] at h
  obtain ⟨p, _, rfl⟩ := h
  simp [asAddr, Instr.loadAt, Instr.sureAddr]

theorem getVs_cons (v : VF) (l : List VF) (env : Env) (H : AH) (k : List AV → Ans) : getVs (v :: l) env H k = v env H fun x => getVs l env H fun xs => k (x :: xs) := rfl

theorem cVs_sound : ∀ {rl : List ResultVar} {vs : List VF}, cVs P N rl = some vs → ∀ {env : Env} {H : AH} {k : List AV → Ans} {r : AV × AH}, getVs vs env H k = some r →
    ∃ l, k l = some r ∧ ∀ φ a w, EnvRel φ N env a → Rel φ H w → ∃ us, (rl.mapM (resOf a.tmps)).run P w = .ok us w ∧ CRelL φ l us
  | [], vs, hc, env, H, k, r, h => by
    simp only [cVs, Option.some.injEq] at hc; subst hc
    exact ⟨[], h, fun φ a w _ _ => ⟨[], by simp, CRelL.nil φ⟩⟩
  | rv :: rl, vs, hc, env, H, k, r, h => by
    simp only [cVs] at hc
    cases hv : cV P N rv with
    | none => simp [hv] at hc
    | some v =>
      cases hl : cVs P N rl with
      | none => simp [hv, hl] at hc
      | some vl =>
        simp [hv, hl] at hc; subst hc
        rw [getVs_cons] at h
        have one : ∃ x, getVs vl env H (fun xs => k (x :: xs)) = some r ∧ ∀ φ a w, EnvRel φ N env a → Rel φ H w → ∃ u, (resOf a.tmps rv).run P w = .ok u w ∧ CRel φ x u := by
          cases rv with
          | tmp t =>
            simp only [cV] at hv
            cases hb : Nat.blt t N with
            | false => simp [hb] at hv
            | true =>
              simp [hb] at hv; subst hv
              exact ⟨_, h, fun φ a w hE _ => ⟨a.eval (.tmp t), by simp [resOf, Act.eval], hE.get t (lt_of_blt hb)⟩⟩
          | cell ad t =>
            simp only [cV] at hv
            cases hb : Nat.blt ad N with
            | false => simp [hb] at hv
            | true =>
              have hlt := lt_of_blt hb
              cases hs : shapeA P t with
              | none => simp [hb, hs] at hv
              | some s =>
                cases s with
                | none =>
                  simp [hb, hs] at hv; subst hv
                  obtain ⟨b, off, hx, _⟩ := onPtr_eq (show onPtr _ (slotG ad env) = some r from h)
                  obtain ⟨x, hk, hd⟩ := ldA_sound (P := P) hs h
                  refine ⟨x, hk, fun φ a w hE hR => ?_⟩
                  have hr := hE.get ad hlt
                  obtain ⟨u, hu, hc⟩ := hd φ w _ hR.toO hr
                  rw [hx] at hr
                  refine ⟨u, ?_, hc⟩
                  have := run_asAddr (P := P) hr t w
                  simp only [resOf]
                  rw [← hu, ← this]; rfl
                | some m =>
                  simp [hb, hs] at hv; subst hv
                  obtain ⟨b, off, hx, _⟩ := onPtr_eq (show onPtr _ (slotG ad env) = some r from h)
                  obtain ⟨x, hk, hd⟩ := ldsA_sound (P := P) hs h
                  refine ⟨x, hk, fun φ a w hE hR => ?_⟩
                  have hr := hE.get ad hlt
                  obtain ⟨u, hu, hc⟩ := hd φ w _ hR.toO hr
                  rw [hx] at hr
                  refine ⟨u, ?_, hc⟩
                  have := run_asAddr (P := P) hr t w
                  simp only [resOf]
                  rw [← hu, ← this]; rfl
        obtain ⟨x, hk, hx⟩ := one
        obtain ⟨l, hk2, hrest⟩ := cVs_sound hl hk
        refine ⟨x :: l, hk2, fun φ a w hE hR => ?_⟩
        obtain ⟨u, hu, hc⟩ := hx φ a w hE hR
        obtain ⟨us, hus, hcs⟩ := hrest φ a w hE hR
        exact ⟨u :: us, by simp [List.mapM_cons, hu, hus], CRelL.cons hc hcs⟩

theorem retA_sound {fn : Func} {vs : List VF} (hc : cVs P N fn.results.toList = some vs) {env : Env} {H : AH} {r : AV × AH} (h : retA vs env H = some r) :
    ∃ v, r = (v, H) ∧ ∀ φ a w, EnvRel φ N env a → Rel φ H w → ∃ u, (results fn a.tmps).run P w = .ok u w ∧ CRel φ v u := by
  obtain ⟨l, hk, hs⟩ := cVs_sound hc h
  cases hk
  refine ⟨_, rfl, fun φ a w hE hR => ?_⟩
  obtain ⟨us, hus, hl⟩ := hs φ a w hE hR
  have hm : (fn.results.mapM (resOf a.tmps)).run P w = .ok us.toArray w := by
    rw [Array.mapM_eq_mapM_toList]
    simp [hus]
  have hres : (results fn a.tmps).run P w = .ok (if h : us.toArray.size = 1 then us.toArray[0] else .tuple us.toArray) w := by
    have e : results fn a.tmps = (do let vs ← fn.results.mapM (resOf a.tmps); pure (if h : vs.size = 1 then vs[0] else .tuple vs)) := by
      unfold results
      congr 1
    rw [e, Sem.run_bind, hm]
    rfl
  refine ⟨_, hres, ?_⟩
  cases l with
  | nil =>
    have : us = [] := List.eq_nil_of_length_eq_zero (by rw [hl.length]; rfl)
    subst this
    show CRel φ (.tup []) (.tuple #[])
    simp only [CRel]
    exact ⟨#[], rfl, CRelL.nil φ⟩
  | cons x l =>
    simp only [CRelL] at hl
    obtain ⟨u, us', rfl, hu, hl⟩ := hl
    cases l with
    | nil =>
      simp only [CRelL] at hl; subst hl
      show CRel φ x _
      simpa using hu
    | cons y l =>
      simp only [CRelL] at hl
      obtain ⟨u', us'', rfl, hu', hl⟩ := hl
      show CRel φ (.tup (x :: y :: l)) _
      simp only [CRel]
      refine ⟨(u :: u' :: us'').toArray, by simp, ?_⟩
      exact CRelL.cons hu (CRelL.cons hu' hl)

theorem bodyA_eq {lf : Nat} {f : FuncId} {F0 : F} (h : bodyA P lf f = some F0) : ∃ fn c vs, P.funcs[f]? = some fn ∧ fn.body = some c ∧ fn.name ≠ "runtime.NumGoroutine" ∧ fn.ntmps ≤ 256 ∧ cVs P fn.ntmps fn.results.toList = some vs ∧ F0 = ⟨fn.ntmps, codeA P lf fn.ntmps c, vs⟩ := by
  unfold bodyA at h
  cases hf : P.funcs[f]? with
  | none => simp [hf] at h
  | some fn =>
    simp only [hf] at h
    cases hb : fn.body with
    | none => simp [hb] at h
    | some c =>
      simp only [hb] at h
      split at h
      · rename_i h1 h2
        cases hv : cVs P fn.ntmps fn.results.toList with
        | none => simp [hv] at h
        | some vs =>
          simp only [hv, Option.some.injEq] at h
          exact ⟨fn, c, vs, rfl, hb, of_decide_eq_false h1, le_of_ble h2, hv, h.symm⟩
      · cases h

theorem call_sound {lf : Nat} (hrec : RecOk P rec) (hmix : P.follows .mixedOrders = true) {f : FuncId} {F0 : F} (hb : bodyA P lf f = some F0) {args : List AV} {H : AH} {v : AV} {H' : AH} (h : enterF rec args H F0 = some (v, H')) : CallSound P f args H v H' := by
  obtain ⟨fn, c, vs, hf, hbody, hname, h256, hvs, rfl⟩ := bodyA_eq hb
  have h' : bt (Nat.ble (lenL args) fn.ntmps) (codeA P lf fn.ntmps c rec (enterA args 0) H (retA vs) (fun _ _ _ => none) (retA vs)) none = some (v, H') := h
  obtain ⟨hle, h1⟩ := bt_eq h'
  have hle := le_of_ble hle
  rw [lenL_eq] at hle
  obtain ⟨x, env1, H1, hc, hl⟩ := code_sound (N := fn.ntmps) hrec hmix c _ _ _ _ _ _ h1
  intro φ w args' hR hargs
  refine calls_of_wp hf hbody ?_
  have hE := enter_rel hargs hle h256
  have fin : retA vs env1 H1 = some (v, H') → (x = .normal ∨ x = .ret) → c.wp P (bodyPost P fn fun e w' => ∃ u φ', e = .returned u ∧ CRel φ' v u ∧ Ext φ H w φ' H' w') { tmps := args' ++ Array.replicate (fn.ntmps - args'.size) Go.undef, defers := [] } w := by
    intro hret hx
    obtain ⟨v', e, hs⟩ := retA_sound hvs hret
    cases e
    refine hl φ _ w _ hE hR fun φ' a' w' hE' hx' => ?_
    obtain ⟨u, hu, hcu⟩ := hs φ' a' w' hE' hx'.rel
    rcases hx with rfl | rfl <;> exact ⟨hE'.defers, u, hu, u, φ', rfl, hcu, hx'⟩
  cases x with
  | normal => exact fin hc (.inl rfl)
  | ret => exact fin hc (.inr rfl)
  | exit j => cases hc
  | goto j => cases hc
  | panic ch => cases hc
  | outgrown => cases hc

theorem ev_sound {lf : Nat} (hmix : P.follows .mixedOrders = true) {orc : Rec} (horc : RecOk P orc) : ∀ fuel, RecOk P (ev P lf orc fuel)
  | 0 => ⟨nofun, nofun⟩
  | fuel + 1 => by
    have ih := ev_sound (lf := lf) hmix horc fuel
    have key : ∀ f args H r, ev P lf orc (fuel + 1) f args H = some r → orc f args H = some r ∨ ∃ F0, bodyA P lf f = some F0 ∧ enterF (ev P lf orc fuel) args H F0 = some r := by
      intro f args H r h
      have h' : oc (orc f args H) (ob (bodyA P lf f) (enterF (ev P lf orc fuel) args H)) some = some r := h
      cases ho : orc f args H with
      | some q => rw [ho] at h'; exact .inl h'
      | none =>
        rw [ho] at h'
        obtain ⟨F0, hF, h2⟩ := ob_eq (show ob (bodyA P lf f) (enterF (ev P lf orc fuel) args H) = some r from h')
        exact .inr ⟨F0, hF, h2⟩
    refine ⟨fun f args H r h => ?_, fun f args H v H' h => ?_⟩
    · rcases key f args H r h with h1 | ⟨F0, hF, _⟩
      · exact horc.enter f args H r h1
      · obtain ⟨fn, c, vs, hf, hb, hn, _⟩ := bodyA_eq hF
        exact ⟨fn, hf, by simp [hb], by simpa using hn⟩
    · rcases key f args H (v, H') h with h1 | ⟨F0, hF, h2⟩
      · exact horc.call f args H v H' h1
      · exact call_sound ih hmix hF h2

theorem recOk_none : RecOk P (fun _ _ _ => none) := ⟨nofun, nofun⟩
end calls
end Go.Ev

