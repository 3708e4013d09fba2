/- Its values and its heap against those of the model. -/
import Derived.Test.YtkcfgcfmjfgloaaGreatE1
import Derived.Laws.World
import Derived.Laws.Sem
import Derived.Laws.Rows
import Derived.Laws.Tables
import Derived.Laws.Cells
import Derived.Laws.AppendOwn
import Derived.Laws.MakeOwn
import Derived.Laws.StructEq
import Derived.IntWalk
import Derived.Laws.BitsLemmas
import Derived.Laws.Bits64
import Derived.Laws.Strings
import Derived.Lib.Strings
namespace Go.Ev
open Go

/-! ### The words -/
section words
variable {α β γ : Type}
@[simp] theorem ob_none (f : α → Option β) : ob none f = none := rfl
@[simp] theorem ob_some (a : α) (f : α → Option β) : ob (some a) f = f a := rfl
@[simp] theorem oc_none (g : β) (f : α → β) : oc none g f = g := rfl
@[simp] theorem oc_some (a : α) (g : β) (f : α → β) : oc (some a) g f = f a := rfl
@[simp] theorem bt_true (x y : β) : bt true x y = x := rfl
@[simp] theorem bt_false (x y : β) : bt false x y = y := rfl
@[simp] theorem un_mk (a : α) (c : γ) (f : α → γ → β) : un (a, c) f = f a c := rfl
@[simp] theorem nat_ofNat (n : Nat) (f : Nat → Option β) : nat (.ofNat n) f = f n := rfl
theorem ob_eq {x : Option α} {f : α → Option β} {r : β} (h : ob x f = some r) : ∃ a, x = some a ∧ f a = some r := by
  cases x with
  | none => simp at h
  | some a => exact ⟨a, rfl, h⟩
theorem bt_eq {b : Bool} {x : Option β} {r : β} (h : bt b x none = some r) : b = true ∧ x = some r := by
  cases b with
  | false => simp at h
  | true => exact ⟨rfl, h⟩
theorem bt_ne {b : Bool} {x : Option β} {r : β} (h : bt b none x = some r) : b = false ∧ x = some r := by
  cases b with
  | true => simp at h
  | false => exact ⟨rfl, h⟩
theorem nat_eq {n : Int} {f : Nat → Option β} {r : β} (h : nat n f = some r) : ∃ m : Nat, n = (m : Int) ∧ f m = some r := by
  cases n with
  | ofNat m => exact ⟨m, rfl, h⟩
  | negSucc m => simp [nat] at h
end words

section views
variable {β : Type} {x : AV} {r : β}
theorem onPtr_eq {f : Nat → Nat → Option β} (h : onPtr f x = some r) : ∃ b o, x = .ptr b o ∧ f b o = some r := by
  cases x <;> first | exact ⟨_, _, rfl, h⟩ | (simp [onPtr] at h)
theorem onInt_eq {f : IntKind → Int → Option β} (h : onInt f x = some r) : ∃ k n, x = .int k n ∧ f k n = some r := by
  cases x <;> first | exact ⟨_, _, rfl, h⟩ | (simp [onInt] at h)
theorem onBool_eq {f : Bool → Option β} (h : onBool f x = some r) : ∃ b, x = .bool b ∧ f b = some r := by
  cases x <;> first | exact ⟨_, rfl, h⟩ | (simp [onBool] at h)
theorem onStr_eq {f : List Nat → Option β} (h : onStr f x = some r) : ∃ s, x = .str s ∧ f s = some r := by
  cases x <;> first | exact ⟨_, rfl, h⟩ | (simp [onStr] at h)
theorem onSl_eq {g : Option β} {f : Nat → Nat → Nat → ACap → Option β} (h : onSl g f x = some r) :
    (x = .nils ∧ g = some r) ∨ ∃ b o n c, x = .sl b o n c ∧ f b o n c = some r := by
  cases x <;> first | exact .inl ⟨rfl, h⟩ | exact .inr ⟨_, _, _, _, rfl, h⟩ | (simp [onSl] at h)
theorem onMap_eq {g : Option β} {f : Nat → Option β} (h : onMap g f x = some r) : (x = .nilm ∧ g = some r) ∨ ∃ m, x = .mp m ∧ f m = some r := by
  cases x <;> first | exact .inl ⟨rfl, h⟩ | exact .inr ⟨_, rfl, h⟩ | (simp [onMap] at h)
theorem onFn_eq {f : FuncId → List AV → List AV → Option β} (h : onFn f x = some r) : ∃ g a b, x = .fn g a b ∧ f g a b = some r := by
  cases x <;> first | exact ⟨_, _, _, rfl, h⟩ | (simp [onFn] at h)
theorem onAgg_eq {f : List AV → Option β} (h : onAgg f x = some r) : ∃ l, x = .agg l ∧ f l = some r := by
  cases x <;> first | exact ⟨_, rfl, h⟩ | (simp [onAgg] at h)
theorem onTup_eq {f : List AV → Option β} (h : onTup f x = some r) : ∃ l, x = .tup l ∧ f l = some r := by
  cases x <;> first | exact ⟨_, rfl, h⟩ | (simp [onTup] at h)
theorem onGuard_eq {g : Option β} {f : Bool → Option β} (h : onGuard g f x = some r) : (∃ b, x = .bool b ∧ f b = some r) ∨ ∃ l, x = .tup l ∧ g = some r := by
  cases x <;> first | exact .inl ⟨_, rfl, h⟩ | exact .inr ⟨_, rfl, h⟩ | (simp [onGuard] at h)
theorem onCells_eq {o : Option AObj} {f : List AV → Option β} (h : onCells f o = some r) : ∃ vs, o = some (.cells vs) ∧ f vs = some r := by
  rcases o with _ | o
  · simp [onCells] at h
  · cases o <;> first | exact ⟨_, rfl, h⟩ | (simp [onCells] at h)
theorem onEntries_eq {o : Option AObj} {f : List (AV × AV × Nat) → Nat → Option β} (h : onEntries f o = some r) : ∃ es c, o = some (.map es c) ∧ f es c = some r := by
  rcases o with _ | o
  · simp [onEntries] at h
  · cases o <;> first | exact ⟨_, _, rfl, h⟩ | (simp [onEntries] at h)
theorem onIter_eq {o : Option AObj} {f : Nat → Nat → List Nat → Nat → Option β} (h : onIter f o = some r) : ∃ a b c d, o = some (.iter a b c d) ∧ f a b c d = some r := by
  rcases o with _ | o
  · simp [onIter] at h
  · cases o <;> first | exact ⟨_, _, _, _, rfl, h⟩ | (simp [onIter] at h)
theorem onCap_eq {c : ACap} {f g : Nat → Option β} (h : onCap f g c = some r) : (∃ k, c = .ex k ∧ f k = some r) ∨ ∃ s, c = .lo s ∧ g s = some r := by
  cases c <;> first | exact .inl ⟨_, rfl, h⟩ | exact .inr ⟨_, rfl, h⟩
end views

theorem beq_yes {a b : Nat} (h : a = b) : Nat.beq a b = true := by rw [Nat.beq_eq]; exact h
theorem beq_no {a b : Nat} (h : ¬ a = b) : Nat.beq a b = false := by rw [← Bool.not_eq_true, Nat.beq_eq]; exact h
theorem eq_of_beq' {a b : Nat} (h : Nat.beq a b = true) : a = b := by rwa [Nat.beq_eq] at h
theorem ne_of_beq' {a b : Nat} (h : Nat.beq a b = false) : a ≠ b := fun e => by rw [beq_yes e] at h; cases h
theorem lt_of_blt {a b : Nat} (h : Nat.blt a b = true) : a < b := Nat.le_of_ble_eq_true h
theorem le_of_ble {a b : Nat} (h : Nat.ble a b = true) : a ≤ b := Nat.le_of_ble_eq_true h

/-! ### Trees and frames -/

namespace T
variable {α : Type}
theorem get_e (k : Nat) : get (.e : T α) k = none := rfl
theorem get_n (l r : T α) (v : Option α) (k : Nat) : get (.n l v r) k = if k = 0 then v else if k % 2 = 1 then get l (k / 2) else get r (k / 2 - 1) := by
  show (Bool.rec (Bool.rec (get r (Nat.sub (Nat.div k 2) 1)) (get l (Nat.div k 2)) (Nat.beq (Nat.mod k 2) 1)) v (Nat.beq k 0) : Option α) = _
  by_cases h : k = 0
  · subst h; rfl
  · have h0 : Nat.beq k 0 = false := beq_no h
    rw [h0, if_neg h]
    by_cases h1 : k % 2 = 1
    · have h2 : Nat.beq (Nat.mod k 2) 1 = true := beq_yes h1
      rw [h2, if_pos h1]; rfl
    · have h2 : Nat.beq (Nat.mod k 2) 1 = false := beq_no h1
      rw [h2, if_neg h1]; rfl
theorem one_succ (x : Option α) (f k : Nat) : one x (f + 1) k = if k = 0 then .n .e x .e else if k % 2 = 1 then .n (one x f (k / 2)) none .e else .n .e none (one x f (k / 2 - 1)) := by
  show (Bool.rec (Bool.rec (.n .e none (one x f (Nat.sub (Nat.div k 2) 1))) (.n (one x f (Nat.div k 2)) none .e) (Nat.beq (Nat.mod k 2) 1)) (.n .e x .e) (Nat.beq k 0) : T α) = _
  by_cases h : k = 0
  · subst h; rfl
  · have h0 : Nat.beq k 0 = false := beq_no h
    rw [h0, if_neg h]
    by_cases h1 : k % 2 = 1
    · have h2 : Nat.beq (Nat.mod k 2) 1 = true := beq_yes h1
      rw [h2, if_pos h1]; rfl
    · have h2 : Nat.beq (Nat.mod k 2) 1 = false := beq_no h1
      rw [h2, if_neg h1]; rfl
theorem put_e (x : Option α) (k : Nat) : put x .e k = one x (k + 1) k := rfl
theorem put_n (x : Option α) (l r : T α) (v : Option α) (k : Nat) :
    put x (.n l v r) k = if k = 0 then .n l x r else if k % 2 = 1 then .n (put x l (k / 2)) v r else .n l v (put x r (k / 2 - 1)) := by
  show (Bool.rec (Bool.rec (.n l v (put x r (Nat.sub (Nat.div k 2) 1))) (.n (put x l (Nat.div k 2)) v r) (Nat.beq (Nat.mod k 2) 1)) (.n l x r) (Nat.beq k 0) : T α) = _
  by_cases h : k = 0
  · subst h; rfl
  · have h0 : Nat.beq k 0 = false := beq_no h
    rw [h0, if_neg h]
    by_cases h1 : k % 2 = 1
    · have h2 : Nat.beq (Nat.mod k 2) 1 = true := beq_yes h1
      rw [h2, if_pos h1]; rfl
    · have h2 : Nat.beq (Nat.mod k 2) 1 = false := beq_no h1
      rw [h2, if_neg h1]; rfl
theorem get_one (x : Option α) : ∀ (f k j : Nat), k < f → get (one x f k) j = if j = k then x else none := by
  intro f
  induction f with
  | zero => intro k j h; omega
  | succ f ih =>
    intro k j h
    rw [one_succ]
    by_cases hk : k = 0
    · subst hk
      rw [if_pos rfl, get_n]
      by_cases hj : j = 0
      · simp [hj]
      · simp [hj, get_e]
    · rw [if_neg hk]
      by_cases h1 : k % 2 = 1
      · rw [if_pos h1, get_n]
        by_cases hj : j = 0
        · rw [if_pos hj, if_neg (by omega)]
        · rw [if_neg hj]
          by_cases hj1 : j % 2 = 1
          · rw [if_pos hj1, ih _ _ (by omega)]
            by_cases e : j = k
            · subst e; simp
            · rw [if_neg (by omega), if_neg e]
          · rw [if_neg hj1, get_e, if_neg (by omega)]
      · rw [if_neg h1, get_n]
        by_cases hj : j = 0
        · rw [if_pos hj, if_neg (by omega)]
        · rw [if_neg hj]
          by_cases hj1 : j % 2 = 1
          · rw [if_pos hj1, get_e, if_neg (by omega)]
          · rw [if_neg hj1, ih _ _ (by omega)]
            by_cases e : j = k
            · subst e; simp
            · rw [if_neg (by omega), if_neg e]
theorem get_put (x : Option α) (t : T α) : ∀ (k j : Nat), get (put x t k) j = if j = k then x else get t j := by
  induction t with
  | e => intro k j; rw [put_e, get_one x _ _ _ (Nat.lt_succ_self k), get_e]
  | n l v r ihl ihr =>
    intro k j
    rw [put_n]
    by_cases hk : k = 0
    · subst hk
      rw [if_pos rfl, get_n, get_n]
      by_cases hj : j = 0 <;> simp [hj]
    · rw [if_neg hk]
      by_cases h1 : k % 2 = 1
      · rw [if_pos h1, get_n, get_n]
        by_cases hj : j = 0
        · rw [if_pos hj, if_pos hj, if_neg (by omega)]
        · rw [if_neg hj, if_neg hj]
          by_cases hj1 : j % 2 = 1
          · rw [if_pos hj1, if_pos hj1, ihl]
            by_cases e : j = k
            · subst e; simp
            · rw [if_neg (by omega), if_neg e]
          · rw [if_neg hj1, if_neg hj1, if_neg (by omega)]
      · rw [if_neg h1, get_n, get_n]
        by_cases hj : j = 0
        · rw [if_pos hj, if_pos hj, if_neg (by omega)]
        · rw [if_neg hj, if_neg hj]
          by_cases hj1 : j % 2 = 1
          · rw [if_pos hj1, if_pos hj1, if_neg (by omega)]
          · rw [if_neg hj1, if_neg hj1, ihr]
            by_cases e : j = k
            · subst e; simp
            · rw [if_neg (by omega), if_neg e]
end T

theorem AH.get_eq (H : AH) (b : Nat) : H.get b = H.t.get b := rfl
@[simp] theorem AH.next_put (H : AH) (b : Nat) (o : AObj) : (H.put b o).next = H.next := rfl
@[simp] theorem AH.next_kill (H : AH) (b : Nat) : (H.kill b).next = H.next := rfl
theorem AH.get_put (H : AH) (b : Nat) (o : AObj) (j : Nat) : (H.put b o).get j = if j = b then some o else H.get j := T.get_put _ _ _ _
theorem AH.get_kill (H : AH) (b j : Nat) : (H.kill b).get j = if j = b then none else H.get j := T.get_put _ _ _ _
/-- The heap with a new block. -/
noncomputable def AH.ext (H : AH) (o : AObj) : AH := ⟨H.next + 1, H.t.put (some o) H.next⟩
theorem AH.new_eq {β : Type} (H : AH) (o : AObj) (k : Nat → AH → β) : H.new o k = k H.next (H.ext o) := rfl
@[simp] theorem AH.next_ext (H : AH) (o : AObj) : (H.ext o).next = H.next + 1 := rfl
theorem AH.get_ext (H : AH) (o : AObj) (j : Nat) : (H.ext o).get j = if j = H.next then some o else H.get j := T.get_put _ _ _ _

section rows
variable {α : Type}
theorem sel_upd_same (d : D) (f : α → α) (r : R α) : sel d (upd d f r) = f (sel d r) := by cases d <;> rfl
theorem sel_upd_ne {d e : D} (h : d ≠ e) (f : α → α) (r : R α) : sel e (upd d f r) = sel e r := by
  cases d <;> cases e <;> first | rfl | exact absurd rfl h
end rows

def D.num : D → Nat
  | .d0 => 0 | .d1 => 1 | .d2 => 2 | .d3 => 3 | .d4 => 4 | .d5 => 5 | .d6 => 6 | .d7 => 7 | .d8 => 8 | .d9 => 9 | .d10 => 10 | .d11 => 11 | .d12 => 12 | .d13 => 13 | .d14 => 14 | .d15 => 15
theorem num_digit : ∀ n, n < 16 → (digit n).num = n := by decide
theorem digit_inj {a b : Nat} (ha : a < 16) (hb : b < 16) (h : digit a = digit b) : a = b := by
  rw [← num_digit a ha, ← num_digit b hb, h]

theorem slot_put {s t : Nat} (hs : s < 256) (ht : t < 256) (v : AV) (env : Env) : slotG s (slotP t v env) = if s = t then v else slotG s env := by
  show sel (digit (s % 16)) (sel (digit (s / 16)) (upd (digit (t / 16)) (upd (digit (t % 16)) fun _ => v) env)) = if s = t then v else sel (digit (s % 16)) (sel (digit (s / 16)) env)
  by_cases h1 : s / 16 = t / 16
  · rw [h1, sel_upd_same]
    by_cases h2 : s % 16 = t % 16
    · rw [h2, sel_upd_same, if_pos (by omega)]
    · rw [sel_upd_ne (fun e => h2 (digit_inj (by omega) (by omega) e.symm)), if_neg (by omega)]
  · rw [sel_upd_ne (fun e => h1 (digit_inj (by omega) (by omega) e.symm)), if_neg (by omega)]
theorem slot_empty (s : Nat) : slotG s emptyEnv = undef := by
  show sel (digit (s % 16)) (sel (digit (s / 16)) emptyEnv) = undef
  cases digit (s / 16) <;> (cases digit (s % 16) <;> rfl)

/-! ### Lists -/
section lists
variable {α β : Type}
theorem nth_nil (k : Nat) : nth ([] : List α) k = none := rfl
theorem nth_cons (x : α) (l : List α) (k : Nat) : nth (x :: l) k = if k = 0 then some x else nth l (k - 1) := by
  show (Bool.rec (nth l (Nat.sub k 1)) (some x) (Nat.beq k 0) : Option α) = _
  by_cases h : k = 0
  · subst h; rfl
  · rw [beq_no h, if_neg h]; rfl
theorem nth_eq (l : List α) : ∀ k, nth l k = l[k]? := by
  induction l with
  | nil => intro k; simp [nth_nil]
  | cons x l ih =>
    intro k
    rw [nth_cons]
    cases k with
    | zero => simp
    | succ k => simp [ih]
theorem takeE_nil (n : Nat) : takeE ([] : List α) n = if n = 0 then some [] else none := by
  show (Bool.rec none (some []) (Nat.beq n 0) : Option (List α)) = _
  by_cases h : n = 0
  · subst h; rfl
  · rw [beq_no h, if_neg h]
theorem takeE_cons (x : α) (l : List α) (n : Nat) : takeE (x :: l) n = if n = 0 then some [] else ob (takeE l (n - 1)) fun r => some (x :: r) := by
  show (Bool.rec (ob (takeE l (Nat.sub n 1)) fun r => some (x :: r)) (some []) (Nat.beq n 0) : Option (List α)) = _
  by_cases h : n = 0
  · subst h; rfl
  · rw [beq_no h, if_neg h]; rfl
theorem takeE_eq (l : List α) : ∀ {n r}, takeE l n = some r → n ≤ l.length ∧ r = l.take n := by
  induction l with
  | nil =>
    intro n r h
    rw [takeE_nil] at h
    split at h
    · simp at h; subst h; exact ⟨by simp_all, by simp⟩
    · simp at h
  | cons x l ih =>
    intro n r h
    rw [takeE_cons] at h
    split at h
    · rename_i h0; subst h0; simp at h; subst h; simp
    · obtain ⟨q, hq, hr⟩ := ob_eq h
      obtain ⟨h1, h2⟩ := ih hq
      cases n with
      | zero => omega
      | succ n => simp at hr h1 h2; subst hr; subst h2; simp; exact h1
theorem cut_nil (k n : Nat) : cut ([] : List α) k n = if n = 0 then some [] else none := by
  show (Bool.rec none (some []) (Nat.beq n 0) : Option (List α)) = _
  by_cases h : n = 0
  · subst h; rfl
  · rw [beq_no h, if_neg h]
theorem cut_cons (x : α) (l : List α) (k n : Nat) : cut (x :: l) k n = if k = 0 then takeE (x :: l) n else cut l (k - 1) n := by
  show (Bool.rec (cut l (Nat.sub k 1) n) (takeE (x :: l) n) (Nat.beq k 0) : Option (List α)) = _
  by_cases h : k = 0
  · subst h; rfl
  · rw [beq_no h, if_neg h]; rfl
theorem cut_eq (l : List α) : ∀ {k n r}, cut l k n = some r → (n = 0 ∨ k + n ≤ l.length) ∧ r = (l.drop k).take n := by
  induction l with
  | nil =>
    intro k n r h
    rw [cut_nil] at h
    split at h
    · simp at h; subst h; simp_all
    · simp at h
  | cons x l ih =>
    intro k n r h
    rw [cut_cons] at h
    split at h
    · rename_i h0; subst h0
      obtain ⟨h1, h2⟩ := takeE_eq _ h
      exact ⟨.inr (by omega), by simpa using h2⟩
    · cases k with
      | zero => omega
      | succ k =>
        obtain ⟨h1, h2⟩ := ih h
        simp at h2
        exact ⟨h1.imp id fun h1 => by simp at h1 ⊢; omega, by simpa using h2⟩
theorem cut_len {l : List α} {k n : Nat} {r : List α} (h : cut l k n = some r) : r.length = n := by
  obtain ⟨h1, rfl⟩ := cut_eq l h
  rcases h1 with rfl | h1
  · simp
  · simp; omega
theorem cut_get {l : List α} {k n : Nat} {r : List α} (h : cut l k n = some r) (i : Nat) (hi : i < n) : r[i]? = l[k + i]? := by
  obtain ⟨h1, rfl⟩ := cut_eq l h
  simp [hi]
theorem over_nil (l : List α) : over l [] = some l := by cases l <;> rfl
theorem over_nil_cons (y : α) (ys : List α) : over ([] : List α) (y :: ys) = none := rfl
theorem over_cons (x y : α) (l ys : List α) : over (x :: l) (y :: ys) = ob (over l ys) fun r => some (y :: r) := rfl
theorem over_eq (l : List α) : ∀ {ys r}, over l ys = some r → ys.length ≤ l.length ∧ r = ys ++ l.drop ys.length := by
  induction l with
  | nil =>
    intro ys r h
    cases ys with
    | nil => rw [over_nil] at h; simp at h; subst h; simp
    | cons y ys => rw [over_nil_cons] at h; simp at h
  | cons x l ih =>
    intro ys r h
    cases ys with
    | nil => rw [over_nil] at h; simp at h; subst h; simp
    | cons y ys =>
      rw [over_cons] at h
      obtain ⟨q, hq, hr⟩ := ob_eq h
      obtain ⟨h1, h2⟩ := ih hq
      simp at hr; subst hr; subst h2
      exact ⟨by simpa using h1, by simp⟩
theorem splice_nil (k : Nat) (ys : List α) : splice ([] : List α) k ys = if ys = [] then some [] else none := by cases ys <;> rfl
theorem splice_cons (x : α) (l : List α) (k : Nat) (ys : List α) : splice (x :: l) k ys = if k = 0 then over (x :: l) ys else ob (splice l (k - 1) ys) fun r => some (x :: r) := by
  show (Bool.rec (ob (splice l (Nat.sub k 1) ys) fun r => some (x :: r)) (over (x :: l) ys) (Nat.beq k 0) : Option (List α)) = _
  by_cases h : k = 0
  · subst h; rfl
  · rw [beq_no h, if_neg h]; rfl
theorem splice_eq (l : List α) : ∀ {k ys r}, splice l k ys = some r → (ys = [] ∧ r = l) ∨ (k + ys.length ≤ l.length ∧ r = l.take k ++ ys ++ l.drop (k + ys.length)) := by
  induction l with
  | nil =>
    intro k ys r h
    rw [splice_nil] at h
    split at h
    · simp at h; subst h; exact .inl ⟨by assumption, rfl⟩
    · simp at h
  | cons x l ih =>
    intro k ys r h
    rw [splice_cons] at h
    split at h
    · rename_i h0; subst h0
      obtain ⟨h1, h2⟩ := over_eq _ h
      exact .inr ⟨by omega, by simpa using h2⟩
    · cases k with
      | zero => omega
      | succ k =>
        obtain ⟨q, hq, hr⟩ := ob_eq h
        simp at hr; subst hr
        rcases ih hq with ⟨h1, h2⟩ | ⟨h1, h2⟩
        · exact .inl ⟨h1, by rw [h2]⟩
        · refine .inr ⟨by simp at h1 ⊢; omega, ?_⟩
          simp at h1 h2
          rw [h2]
          have e : k + 1 + ys.length = (k + ys.length) + 1 := by omega
          rw [e]; simp
theorem splice_len {l : List α} {k : Nat} {ys r : List α} (h : splice l k ys = some r) : r.length = l.length := by
  rcases splice_eq l h with ⟨_, rfl⟩ | ⟨h1, rfl⟩
  · rfl
  · simp; omega
theorem splice_get {l : List α} {k : Nat} {ys r : List α} (h : splice l k ys = some r) (i : Nat) :
    r[i]? = if k ≤ i ∧ i < k + ys.length then ys[i - k]? else l[i]? := by
  rcases splice_eq l h with ⟨rfl, rfl⟩ | ⟨h1, rfl⟩
  · rw [if_neg (by simp)]
  · by_cases hi : i < k
    · rw [if_neg (by omega), List.append_assoc, List.getElem?_append_left (by simp; omega)]
      simp [hi]
    · by_cases hi2 : i < k + ys.length
      · rw [if_pos ⟨by omega, hi2⟩, List.append_assoc, List.getElem?_append_right (by simp; omega), List.getElem?_append_left (by simp; omega)]
        simp [show min k l.length = k by omega]
      · rw [if_neg (by omega), List.getElem?_append_right (by simp; omega)]
        simp
        congr 1
        omega
theorem mapL_eq (f : α → β) (l : List α) : mapL f l = l.map f := by
  induction l with
  | nil => rfl
  | cons x l ih => show f x :: mapL f l = _; rw [ih]; rfl
theorem appL_eq (l m : List α) : appL l m = l ++ m := by
  induction l with
  | nil => rfl
  | cons x l ih => show x :: appL l m = _; rw [ih]; rfl
theorem lenL_eq (l : List α) : lenL l = l.length := by
  have key : ∀ (l : List α) n, (List.rec (motive := fun _ => Nat → Nat) (fun n => n) (fun _ _ ih n => ih (Nat.succ n)) l n : Nat) = l.length + n := by
    intro l
    induction l with
    | nil => intro n; simp
    | cons x l ih => intro n; show (List.rec (motive := fun _ => Nat → Nat) (fun n => n) (fun _ _ ih n => ih (Nat.succ n)) l (Nat.succ n) : Nat) = _; rw [ih]; simp; omega
  exact (key l 0).trans (by simp)
theorem allL_eq {f : α → Bool} {l : List α} (h : allL f l = true) : ∀ x ∈ l, f x = true := by
  induction l with
  | nil => intro x hx; cases hx
  | cons y l ih =>
    have h' : (Bool.rec false (allL f l) (f y) : Bool) = true := h
    cases hy : f y with
    | false => rw [hy] at h'; cases h'
    | true =>
      rw [hy] at h'
      intro x hx
      rcases List.mem_cons.1 hx with rfl | hx
      · exact hy
      · exact ih h' x hx
theorem repeatA_zero (z : List α) : repeatA z 0 = [] := rfl
theorem repeatA_succ (z : List α) (n : Nat) : repeatA z (n + 1) = z ++ repeatA z n := appL_eq _ _
theorem repeatA_len (z : List α) : ∀ n, (repeatA z n).length = n * z.length
  | 0 => by simp [repeatA_zero]
  | n + 1 => by rw [repeatA_succ, List.length_append, repeatA_len z n, Nat.add_mul]; omega
theorem repeatA_get (z : List α) (hz : 0 < z.length) : ∀ n i, i < n * z.length → (repeatA z n)[i]? = z[i % z.length]?
  | 0, i, h => by simp at h
  | n + 1, i, h => by
    rw [repeatA_succ]
    by_cases hi : i < z.length
    · rw [List.getElem?_append_left hi, Nat.mod_eq_of_lt hi]
    · rw [List.getElem?_append_right (by omega), repeatA_get z hz n _ (by rw [Nat.add_mul] at h; omega)]
      congr 1
      exact (Nat.mod_eq_sub_mod (by omega)).symm
end lists

theorem cellsOf_agg (l : List AV) : cellsOf (.agg l) = l := rfl
theorem cellsOf_one {x : AV} (h : ∀ l, x ≠ .agg l) : cellsOf x = [x] := by
  cases x <;> first | rfl | exact absurd rfl (h _)

/-! ### Values -/

/-- Where an abstract block lies: the block, from which cell on, how many cells the block has. -/
structure Pl where
  c : Nat
  d : Nat
  n : Nat
abbrev Phi := Nat → Option Pl

mutual
def CRel (φ : Phi) : AV → Value → Prop
  | .bool b, v => v = .bool b
  | .int k n, v => v = .int k n
  | .str s, v => ∃ b : ByteArray, v = .string b ∧ b.data.toList.map UInt8.toNat = s
  | .nilp, v => v = .pointer none
  | .ptr b o, v => ∃ p, φ b = some p ∧ v = .pointer (some ⟨p.c, p.d + o, none⟩)
  | .nils, v => v = .slice none 0 0
  | .sl b o n (.ex k), v => ∃ p, φ b = some p ∧ v = .slice (some ⟨p.c, p.d + o, none⟩) n k
  | .sl b o n (.lo s), v => ∃ p, φ b = some p ∧ 0 < s ∧
      ((∃ k, v = .slice (some ⟨p.c, p.d + o, none⟩) n k ∧ p.d + o + k * s = p.n ∧ n ≤ k) ∨ (n = 0 ∧ p.d + o = p.n ∧ ∃ a, v = .slice (some a) 0 0))
  | .nilm, v => v = .map none
  | .mp b, v => ∃ p, φ b = some p ∧ v = .map (some p.c)
  | .nilfn, v => v = .nilFunc
  | .fn f a b, v => ∃ x y, v = .func (.func f) x y ∧ CRelL φ a x.toList ∧ CRelL φ b y.toList
  | .agg l, v => ∃ x, v = .agg x ∧ CRelL φ l x.toList
  | .tup l, v => ∃ x, v = .tuple x ∧ CRelL φ l x.toList
def CRelL (φ : Phi) : List AV → List Value → Prop
  | [], vs => vs = []
  | x :: xs, vs => ∃ v ws, vs = v :: ws ∧ CRel φ x v ∧ CRelL φ xs ws
end

def Phi.le (φ ψ : Phi) : Prop := ∀ b p, φ b = some p → ψ b = some p
theorem Phi.le_refl (φ : Phi) : φ.le φ := fun _ _ h => h
theorem Phi.le.trans {φ ψ χ : Phi} (h : φ.le ψ) (h' : ψ.le χ) : φ.le χ := fun b p e => h' b p (h b p e)

mutual
theorem CRel.mono {φ ψ : Phi} (h : φ.le ψ) : ∀ (x : AV) (v : Value), CRel φ x v → CRel ψ x v
  | .bool _, _, e | .int _ _, _, e | .nilp, _, e | .nils, _, e | .nilm, _, e | .nilfn, _, e => by simpa only [CRel] using e
  | .str _, _, e => by simpa only [CRel] using e
  | .ptr b o, v, e => by simp only [CRel] at e ⊢; obtain ⟨p, hp, hv⟩ := e; exact ⟨p, h _ _ hp, hv⟩
  | .sl b o n (.ex k), v, e => by simp only [CRel] at e ⊢; obtain ⟨p, hp, hv⟩ := e; exact ⟨p, h _ _ hp, hv⟩
  | .sl b o n (.lo k), v, e => by simp only [CRel] at e ⊢; obtain ⟨p, hp, hv⟩ := e; exact ⟨p, h _ _ hp, hv⟩
  | .mp b, v, e => by simp only [CRel] at e ⊢; obtain ⟨p, hp, hv⟩ := e; exact ⟨p, h _ _ hp, hv⟩
  | .fn f a b, v, e => by
    simp only [CRel] at e ⊢; obtain ⟨x, y, hv, ha, hb⟩ := e; exact ⟨x, y, hv, CRelL.mono h _ _ ha, CRelL.mono h _ _ hb⟩
  | .agg l, v, e => by simp only [CRel] at e ⊢; obtain ⟨x, hv, ha⟩ := e; exact ⟨x, hv, CRelL.mono h _ _ ha⟩
  | .tup l, v, e => by simp only [CRel] at e ⊢; obtain ⟨x, hv, ha⟩ := e; exact ⟨x, hv, CRelL.mono h _ _ ha⟩
theorem CRelL.mono {φ ψ : Phi} (h : φ.le ψ) : ∀ (l : List AV) (vs : List Value), CRelL φ l vs → CRelL ψ l vs
  | [], _, e => by simpa only [CRelL] using e
  | x :: xs, vs, e => by
    simp only [CRelL] at e ⊢
    obtain ⟨v, ws, hv, h1, h2⟩ := e
    exact ⟨v, ws, hv, CRel.mono h _ _ h1, CRelL.mono h _ _ h2⟩
end

theorem CRelL.length {φ : Phi} : ∀ {l : List AV} {vs : List Value}, CRelL φ l vs → vs.length = l.length
  | [], _, e => by simp only [CRelL] at e; subst e; rfl
  | x :: xs, vs, e => by
    simp only [CRelL] at e
    obtain ⟨v, ws, rfl, _, h2⟩ := e
    simp [CRelL.length h2]
theorem CRelL.get {φ : Phi} : ∀ {l : List AV} {vs : List Value}, CRelL φ l vs → ∀ (i : Nat) (x : AV), l[i]? = some x → ∃ v, vs[i]? = some v ∧ CRel φ x v
  | [], _, _, i, x, hx => by simp at hx
  | y :: ys, vs, e, i, x, hx => by
    simp only [CRelL] at e
    obtain ⟨v, ws, rfl, h1, h2⟩ := e
    cases i with
    | zero => simp at hx; subst hx; exact ⟨v, by simp, h1⟩
    | succ i => simp at hx; obtain ⟨u, hu, hr⟩ := CRelL.get h2 i x hx; exact ⟨u, by simpa using hu, hr⟩
/-- Lists are related if they are as long and related place by place. -/
theorem CRelL.of_get {φ : Phi} : ∀ {l : List AV} {vs : List Value}, vs.length = l.length → (∀ (i : Nat) (x : AV), l[i]? = some x → ∃ v, vs[i]? = some v ∧ CRel φ x v) → CRelL φ l vs
  | [], vs, hl, _ => by simp only [CRelL]; exact List.eq_nil_of_length_eq_zero (by simpa using hl)
  | x :: xs, [], hl, _ => by simp at hl
  | x :: xs, v :: ws, hl, h => by
    simp only [CRelL]
    refine ⟨v, ws, rfl, ?_, CRelL.of_get (by simpa using hl) fun i y hy => ?_⟩
    · obtain ⟨u, hu, hr⟩ := h 0 x (by simp); simp at hu; subst hu; exact hr
    · obtain ⟨u, hu, hr⟩ := h (i + 1) y (by simpa using hy); exact ⟨u, by simpa using hu, hr⟩
theorem CRelL.append {φ : Phi} {l m : List AV} {vs ws : List Value} (h1 : CRelL φ l vs) (h2 : CRelL φ m ws) : CRelL φ (l ++ m) (vs ++ ws) := by
  induction l generalizing vs with
  | nil => simp only [CRelL] at h1; subst h1; simpa using h2
  | cons x l ih =>
    simp only [CRelL] at h1
    obtain ⟨v, us, rfl, ha, hb⟩ := h1
    simp only [List.cons_append, CRelL]
    exact ⟨v, us ++ ws, rfl, ha, ih hb⟩
theorem CRelL.take {φ : Phi} {l : List AV} {vs : List Value} (h : CRelL φ l vs) (n : Nat) : CRelL φ (l.take n) (vs.take n) := by
  refine CRelL.of_get (by simp [h.length]) fun i x hx => ?_
  by_cases hi : i < n
  · rw [List.getElem?_take_of_lt hi] at hx ⊢; exact h.get i x hx
  · rw [List.getElem?_eq_none (by simp; omega)] at hx; cases hx
theorem CRelL.drop {φ : Phi} {l : List AV} {vs : List Value} (h : CRelL φ l vs) (n : Nat) : CRelL φ (l.drop n) (vs.drop n) := by
  refine CRelL.of_get (by simp [h.length]) fun i x hx => ?_
  rw [List.getElem?_drop] at hx ⊢
  exact h.get _ x hx
theorem CRelL.one {φ : Phi} {x : AV} {v : Value} (h : CRel φ x v) : CRelL φ [x] [v] := by
  simp only [CRelL]; exact ⟨v, [], rfl, h, rfl⟩
theorem CRelL.nil (φ : Phi) : CRelL φ [] [] := by simp only [CRelL]
theorem CRelL.cons {φ : Phi} {x : AV} {v : Value} {l : List AV} {vs : List Value} (h : CRel φ x v) (h' : CRelL φ l vs) : CRelL φ (x :: l) (v :: vs) := by
  simp only [CRelL]; exact ⟨v, vs, rfl, h, h'⟩
/-- The cells of a value. -/
theorem CRel.cells {φ : Phi} {x : AV} {v : Value} (h : CRel φ x v) : CRelL φ (cellsOf x) v.cells.toList := by
  cases x with
  | agg l => simp only [CRel] at h; obtain ⟨y, rfl, hl⟩ := h; rw [cellsOf_agg]; exact hl
  | sl b o n c =>
    rw [cellsOf_one (by intro l e; cases e)]
    have : v.cells = #[v] := by
      cases c <;> simp only [CRel] at h
      · obtain ⟨p, _, rfl⟩ := h; rfl
      · obtain ⟨p, _, _, h | h⟩ := h
        · obtain ⟨k, rfl, _⟩ := h; rfl
        · obtain ⟨_, _, a, rfl⟩ := h; rfl
    rw [this]; exact CRelL.one h
  | bool _ | int _ _ | nilp | nils | nilm | nilfn =>
    rw [cellsOf_one (by intro l e; cases e)]
    have h' := h
    simp only [CRel] at h'; subst h'; exact CRelL.one h
  | str _ =>
    rw [cellsOf_one (by intro l e; cases e)]
    have h' := h
    simp only [CRel] at h'; obtain ⟨b, rfl, _⟩ := h'; exact CRelL.one h
  | ptr _ _ =>
    rw [cellsOf_one (by intro l e; cases e)]
    have h' := h
    simp only [CRel] at h'; obtain ⟨p, _, rfl⟩ := h'; exact CRelL.one h
  | mp _ =>
    rw [cellsOf_one (by intro l e; cases e)]
    have h' := h
    simp only [CRel] at h'; obtain ⟨p, _, rfl⟩ := h'; exact CRelL.one h
  | fn _ _ _ =>
    rw [cellsOf_one (by intro l e; cases e)]
    have h' := h
    simp only [CRel] at h'; obtain ⟨p, q, rfl, _⟩ := h'; exact CRelL.one h
  | tup _ =>
    rw [cellsOf_one (by intro l e; cases e)]
    have h' := h
    simp only [CRel] at h'; obtain ⟨p, rfl, _⟩ := h'; exact CRelL.one h
theorem oneCell_eq {φ : Phi} {x : AV} {v : Value} (h : CRel φ x v) (h1 : oneCell x = true) : v.oneCell' = true := by
  cases x with
  | agg l => cases h1
  | tup l => cases h1
  | sl b o n c =>
    cases c <;> simp only [CRel] at h
    · obtain ⟨p, _, rfl⟩ := h; rfl
    · obtain ⟨p, _, _, h | h⟩ := h
      · obtain ⟨k, rfl, _⟩ := h; rfl
      · obtain ⟨_, _, a, rfl⟩ := h; rfl
  | bool _ | int _ _ | nilp | nils | nilm | nilfn => simp only [CRel] at h; subst h; rfl
  | str _ => simp only [CRel] at h; obtain ⟨b, rfl, _⟩ := h; rfl
  | ptr _ _ => simp only [CRel] at h; obtain ⟨p, _, rfl⟩ := h; rfl
  | mp _ => simp only [CRel] at h; obtain ⟨p, _, rfl⟩ := h; rfl
  | fn _ _ _ => simp only [CRel] at h; obtain ⟨p, q, rfl, _⟩ := h; rfl
theorem CRel.undef (φ : Phi) : CRel φ undef Go.undef := by
  simp only [Ev.undef, CRel]; exact ⟨#[], rfl, CRelL.nil φ⟩

end Go.Ev

/- The evaluator's heap and the model's world; what a step may do to them. -/
namespace Go.Ev
open Go

/-- Entries of a map. -/
def EntRel (φ : Phi) : List (AV × AV × Nat) → List MapEntry → Prop
  | [], es => es = []
  | e :: l, es => ∃ f fs, es = f :: fs ∧ CRel φ e.1 f.key ∧ CRel φ e.2.1 f.val ∧ f.born = e.2.2 ∧ EntRel φ l fs
theorem EntRel.mono {φ ψ : Phi} (h : φ.le ψ) : ∀ {l : List (AV × AV × Nat)} {es : List MapEntry}, EntRel φ l es → EntRel ψ l es
  | [], _, e => e
  | _ :: _, _, e => by
    obtain ⟨f, fs, he, h1, h2, h3, h4⟩ := e
    exact ⟨f, fs, he, CRel.mono h _ _ h1, CRel.mono h _ _ h2, h3, EntRel.mono h h4⟩
theorem EntRel.length {φ : Phi} : ∀ {l : List (AV × AV × Nat)} {es : List MapEntry}, EntRel φ l es → es.length = l.length
  | [], _, e => by cases e; rfl
  | _ :: _, _, e => by obtain ⟨f, fs, rfl, _, _, _, h⟩ := e; simp [EntRel.length h]

/-- What a block of the world holds for an abstract object that begins at its cell d; it has n cells. -/
def ORel (φ : Phi) (d n : Nat) : AObj → Obj → Prop
  | .cells vs, o => ∃ cs e, o = .cells cs e (0, 0) ∧ cs.size = n ∧ d + vs.length ≤ n ∧ ∀ (i : Nat) (x : AV), vs[i]? = some x → ∃ v, cs[d + i]? = some v ∧ CRel φ x v
  | .map es c, o => d = 0 ∧ ∃ fs, o = .map fs c ∧ EntRel φ es fs.toList
  | .iter m since seen stepped, o => d = 0 ∧ ∃ p, φ m = some p ∧ o = .mapIter (some p.c) since seen.toArray stepped
theorem ORel.mono {φ ψ : Phi} (h : φ.le ψ) {d n : Nat} {a : AObj} {o : Obj} (e : ORel φ d n a o) : ORel ψ d n a o := by
  cases a with
  | cells vs =>
    obtain ⟨cs, t, h1, h2, h3, h4⟩ := e
    exact ⟨cs, t, h1, h2, h3, fun i x hx => let ⟨v, hv, hr⟩ := h4 i x hx; ⟨v, hv, CRel.mono h _ _ hr⟩⟩
  | map es c => obtain ⟨h0, fs, h1, h2⟩ := e; exact ⟨h0, fs, h1, h2.mono h⟩
  | iter m a b c => obtain ⟨h0, p, h1, h2⟩ := e; exact ⟨h0, p, h _ _ h1, h2⟩

structure Rel (φ : Phi) (H : AH) (w : World) : Prop where
  dom : ∀ b p, φ b = some p → b < H.next
  live : ∀ b o, H.get b = some o → b < H.next
  obj : ∀ b o p, H.get b = some o → φ b = some p → ∃ x, w.heap[p.c]? = some x ∧ ORel φ p.d p.n o x
  inj : ∀ b b' o o' p p', H.get b = some o → H.get b' = some o' → φ b = some p → φ b' = some p' → p.c = p'.c → b = b'

/-- What reads need. -/
structure RelO (φ : Phi) (H : AH) (w : World) : Prop where
  obj : ∀ b o p, H.get b = some o → φ b = some p → ∃ x, w.heap[p.c]? = some x ∧ ORel φ p.d p.n o x
theorem Rel.toO {φ : Phi} {H : AH} {w : World} (h : Rel φ H w) : RelO φ H w := ⟨h.obj⟩
theorem RelO.sub {φ : Phi} {H H' : AH} {w : World} (h : RelO φ H' w) (hs : ∀ b o, H.get b = some o → H'.get b = some o) : RelO φ H w :=
  ⟨fun b o p h1 h2 => h.obj b o p (hs b o h1) h2⟩

theorem Rel.lt {φ : Phi} {H : AH} {w : World} (h : Rel φ H w) {b : Nat} {o : AObj} {p : Pl} (hb : H.get b = some o) (hp : φ b = some p) : p.c < w.heap.size := by
  obtain ⟨x, hx, _⟩ := h.obj b o p hb hp
  exact (Array.getElem?_eq_some_iff.1 hx).1

/-- What a step from (φ, H, w) to (φ', H', w') may have done. -/
structure Ext (φ : Phi) (H : AH) (w : World) (φ' : Phi) (H' : AH) (w' : World) : Prop where
  rel : Rel φ' H' w'
  le : φ.le φ'
  old : ∀ b, b < H.next → φ' b = φ b
  next : H.next ≤ H'.next
  size : w.heap.size ≤ w'.heap.size
  frame : ∀ c, c < w.heap.size → (∀ b o p, H.get b = some o → φ b = some p → p.c ≠ c) → w'.heap[c]? = w.heap[c]?
  image : ∀ b o p, H'.get b = some o → φ' b = some p → w.heap.size ≤ p.c ∨ ∃ b0 o0 p0, H.get b0 = some o0 ∧ φ b0 = some p0 ∧ p0.c = p.c
  virt : ∀ b, b < H.next → φ b = none → H'.get b = H.get b
  os : w'.os = w.os
  tape : w'.tape = w.tape
  output : w'.output = w.output

theorem Ext.refl {φ : Phi} {H : AH} {w : World} (h : Rel φ H w) : Ext φ H w φ H w :=
  ⟨h, φ.le_refl, fun _ _ => rfl, Nat.le_refl _, Nat.le_refl _, fun _ _ _ => rfl, fun b o p h1 h2 => .inr ⟨b, o, p, h1, h2, rfl⟩, fun _ _ _ => rfl, rfl, rfl, rfl⟩

theorem Ext.trans {φ φ' φ'' : Phi} {H H' H'' : AH} {w w' w'' : World} (h : Ext φ H w φ' H' w') (k : Ext φ' H' w' φ'' H'' w'') : Ext φ H w φ'' H'' w'' where
  rel := k.rel
  le := h.le.trans k.le
  old b hb := (k.old b (Nat.lt_of_lt_of_le hb h.next)).trans (h.old b hb)
  next := Nat.le_trans h.next k.next
  size := Nat.le_trans h.size k.size
  frame c hc hno := by
    rw [k.frame c (Nat.lt_of_lt_of_le hc h.size), h.frame c hc hno]
    intro b o p hb hp e
    rcases h.image b o p hb hp with h1 | ⟨b0, o0, p0, h1, h2, h3⟩
    · omega
    · exact hno b0 o0 p0 h1 h2 (h3.trans e)
  image b o p hb hp := by
    rcases k.image b o p hb hp with h1 | ⟨b0, o0, p0, h1, h2, h3⟩
    · exact .inl (Nat.le_trans h.size h1)
    · rcases h.image b0 o0 p0 h1 h2 with h4 | ⟨b1, o1, p1, h4, h5, h6⟩
      · exact .inl (h3 ▸ h4)
      · exact .inr ⟨b1, o1, p1, h4, h5, h6.trans h3⟩
  virt b hb hn := (k.virt b (Nat.lt_of_lt_of_le hb h.next) ((h.old b hb).trans hn)).trans (h.virt b hb hn)
  os := k.os.trans h.os
  tape := k.tape.trans h.tape
  output := k.output.trans h.output

/-- A draw. -/
theorem Rel.drew {φ : Phi} {H : AH} {w : World} (h : Rel φ H w) : Rel φ H w.drew := ⟨h.dom, h.live, h.obj, h.inj⟩
theorem Ext.drew {φ φ' : Phi} {H H' : AH} {w w' : World} (h : Ext φ H w.drew φ' H' w') : Ext φ H w φ' H' w' :=
  ⟨h.rel, h.le, h.old, h.next, h.size, h.frame, h.image, h.virt, h.os, h.tape, h.output⟩
theorem Ext.drewR {φ φ' : Phi} {H H' : AH} {w w' : World} (h : Ext φ H w φ' H' w') : Ext φ H w φ' H' w'.drew :=
  ⟨h.rel.drew, h.le, h.old, h.next, h.size, h.frame, h.image, h.virt, h.os, h.tape, h.output⟩

/-- Where a new block lies. -/
def Phi.add (φ : Phi) (b : Nat) (p : Pl) : Phi := fun j => if j = b then some p else φ j
theorem Phi.add_same (φ : Phi) (b : Nat) (p : Pl) : φ.add b p b = some p := by simp [Phi.add]
theorem Phi.add_ne (φ : Phi) {b j : Nat} (p : Pl) (h : j ≠ b) : φ.add b p j = φ j := by simp [Phi.add, h]
theorem Phi.le_add {φ : Phi} {b : Nat} (p : Pl) (h : φ b = none) : φ.le (φ.add b p) := fun j q hj => by
  by_cases e : j = b
  · subst e; rw [h] at hj; cases hj
  · rw [Phi.add_ne φ p e]; exact hj
theorem Rel.fresh {φ : Phi} {H : AH} {w : World} (h : Rel φ H w) : φ H.next = none := by
  cases e : φ H.next with
  | none => rfl
  | some p => exact absurd (h.dom _ _ e) (Nat.lt_irrefl _)

/-- A new block of the world for a new abstract object. -/
theorem Ext.alloc {φ : Phi} {H : AH} {w : World} (h : Rel φ H w) (o : AObj) (x : Obj) (n : Nat)
    (ho : ORel (φ.add H.next ⟨w.heap.size, 0, n⟩) 0 n o x) : Ext φ H w (φ.add H.next ⟨w.heap.size, 0, n⟩) (H.ext o) (w.alloc x) := by
  have hf := h.fresh
  have hle : φ.le (φ.add H.next ⟨w.heap.size, 0, n⟩) := Phi.le_add _ hf
  have old : ∀ b, b < H.next → φ.add H.next ⟨w.heap.size, 0, n⟩ b = φ b := fun b hb => Phi.add_ne φ _ (by omega)
  have look : ∀ b o', (H.ext o).get b = some o' → (b = H.next ∧ o' = o) ∨ (b < H.next ∧ H.get b = some o') := by
    intro b o' hb
    rw [AH.get_ext] at hb
    split at hb
    · cases hb; exact .inl ⟨by assumption, rfl⟩
    · exact .inr ⟨h.live b o' hb, hb⟩
  refine ⟨⟨?_, ?_, ?_, ?_⟩, hle, old, by simp, by simp, ?_, ?_, ?_, rfl, rfl, rfl⟩
  · intro b p hb
    by_cases e : b = H.next
    · subst e; simp
    · rw [Phi.add_ne φ _ e] at hb; have := h.dom b p hb; simp; omega
  · intro b o' hb
    rcases look b o' hb with ⟨rfl, _⟩ | ⟨h1, _⟩ <;> simp <;> omega
  · intro b o' p hb hp
    rcases look b o' hb with ⟨rfl, rfl⟩ | ⟨h1, h2⟩
    · rw [Phi.add_same] at hp; cases hp
      exact ⟨x, heap_alloc_new w x, ho⟩
    · rw [old b h1] at hp
      obtain ⟨y, hy, hr⟩ := h.obj b o' p h2 hp
      exact ⟨y, by rw [heap_alloc_old w x p.c (Array.getElem?_eq_some_iff.1 hy).1]; exact hy, hr.mono hle⟩
  · intro b b' o1 o2 p p' h1 h2 h3 h4 e
    rcases look b o1 h1 with ⟨rfl, rfl⟩ | ⟨g1, g2⟩ <;> rcases look b' o2 h2 with ⟨rfl, rfl⟩ | ⟨g3, g4⟩
    · rfl
    · rw [Phi.add_same] at h3; cases h3
      rw [old b' g3] at h4
      have := h.lt g4 h4
      have e' : w.heap.size = p'.c := e
      omega
    · rw [Phi.add_same] at h4; cases h4
      rw [old b g1] at h3
      have := h.lt g2 h3
      have e' : p.c = w.heap.size := e
      omega
    · rw [old b g1] at h3; rw [old b' g3] at h4
      exact h.inj b b' o1 o2 p p' g2 g4 h3 h4 e
  · intro c hc _; exact heap_alloc_old w x c hc
  · intro b o' p hb hp
    rcases look b o' hb with ⟨rfl, rfl⟩ | ⟨h1, h2⟩
    · rw [Phi.add_same] at hp; cases hp; exact .inl (Nat.le_refl _)
    · rw [old b h1] at hp; exact .inr ⟨b, o', p, h2, hp, rfl⟩
  · intro b hb _
    rw [AH.get_ext, if_neg (by omega)]

/-- A block is written. -/
theorem Ext.upd {φ : Phi} {H : AH} {w w' : World} (h : Rel φ H w) {b : Nat} {o o' : AObj} {p : Pl} (hb : H.get b = some o) (hp : φ b = some p) {x : Obj}
    (hx : w'.heap[p.c]? = some x) (ho : ORel φ p.d p.n o' x) (hother : ∀ c, c ≠ p.c → w'.heap[c]? = w.heap[c]?) (hsize : w'.heap.size = w.heap.size)
    (hos : w'.os = w.os) (htape : w'.tape = w.tape) (hout : w'.output = w.output) : Ext φ H w φ (H.put b o') w' := by
  have look : ∀ j q, (H.put b o').get j = some q → (j = b ∧ q = o') ∨ (j ≠ b ∧ H.get j = some q) := by
    intro j q hj
    rw [AH.get_put] at hj
    split at hj
    · cases hj; exact .inl ⟨by assumption, rfl⟩
    · exact .inr ⟨by assumption, hj⟩
  refine ⟨⟨fun j q hj => h.dom j q hj, ?_, ?_, ?_⟩, φ.le_refl, fun _ _ => rfl, Nat.le_refl _, by omega, ?_, ?_, ?_, hos, htape, hout⟩
  · intro j q hj
    rcases look j q hj with ⟨rfl, _⟩ | ⟨_, h1⟩
    · exact h.live _ _ hb
    · exact h.live _ _ h1
  · intro j q r hj hr
    rcases look j q hj with ⟨rfl, rfl⟩ | ⟨h1, h2⟩
    · rw [hp] at hr; cases hr; exact ⟨x, hx, ho⟩
    · obtain ⟨y, hy, hr'⟩ := h.obj j q r h2 hr
      refine ⟨y, ?_, hr'⟩
      rw [hother r.c (fun e => h1 (h.inj j b q o r p h2 hb hr hp e))]; exact hy
  · intro j j' q q' r r' h1 h2 h3 h4 e
    have live : ∀ j q, (H.put b o').get j = some q → ∃ o, H.get j = some o := by
      intro j q hj
      rcases look j q hj with ⟨rfl, _⟩ | ⟨_, g⟩
      · exact ⟨o, hb⟩
      · exact ⟨q, g⟩
    obtain ⟨o1, g1⟩ := live j q h1
    obtain ⟨o2, g2⟩ := live j' q' h2
    exact h.inj j j' o1 o2 r r' g1 g2 h3 h4 e
  · intro c hc hno
    exact hother c (fun e => hno b o p hb hp e.symm)
  · intro j q r hj hr
    rcases look j q hj with ⟨rfl, _⟩ | ⟨_, g⟩
    · exact .inr ⟨_, o, r, hb, hr, rfl⟩
    · exact .inr ⟨j, q, r, g, hr, rfl⟩
  · intro j hj hn
    rw [AH.get_put, if_neg]
    intro e; subst e; rw [hp] at hn; cases hn

/-- A block is given up. -/
theorem Rel.kill {φ : Phi} {H : AH} {w : World} (h : Rel φ H w) (b : Nat) : Rel φ (H.kill b) w := by
  have look : ∀ j q, (H.kill b).get j = some q → H.get j = some q := by
    intro j q hj
    rw [AH.get_kill] at hj
    split at hj
    · cases hj
    · exact hj
  exact ⟨h.dom, fun j q hj => h.live j q (look j q hj), fun j q r hj hr => h.obj j q r (look j q hj) hr,
    fun j j' q q' r r' h1 h2 h3 h4 e => h.inj j j' q q' r r' (look _ _ h1) (look _ _ h2) h3 h4 e⟩
theorem AH.get_kill_some {H : AH} {b j : Nat} {q : AObj} (h : (H.kill b).get j = some q) : H.get j = some q := by
  rw [AH.get_kill] at h
  split at h
  · cases h
  · exact h
theorem Ext.kill {φ : Phi} {H : AH} {w : World} (h : Rel φ H w) {b : Nat} {p : Pl} (hp : φ b = some p) : Ext φ H w φ (H.kill b) w where
  rel := h.kill b
  le := φ.le_refl
  old _ _ := rfl
  next := Nat.le_refl _
  size := Nat.le_refl _
  frame _ _ _ := rfl
  image j q r hj hr := .inr ⟨j, q, r, AH.get_kill_some hj, hr, rfl⟩
  virt j _ hn := by
    rw [AH.get_kill, if_neg]
    intro e; subst e; rw [hp] at hn; cases hn
  os := rfl
  tape := rfl
  output := rfl

end Go.Ev

/- One operation of the evaluator is what the model does: reads, writes, arithmetic. -/
namespace Go.Ev
open Go

section types
variable {P : Program} {t : TypeId}
theorem sizeA_eq {n : Nat} (h : sizeA P t = some n) : ∃ i, P.info? t = some i ∧ i.size = n := by
  unfold sizeA at h
  cases hi : P.info? t with
  | none => simp [hi] at h
  | some i => simp [hi] at h; exact ⟨i, rfl, h⟩
theorem run_sizeOf {n : Nat} (h : sizeA P t = some n) (w : World) : (sizeOf t).run P w = .ok n w := by
  obtain ⟨i, hi, rfl⟩ := sizeA_eq h
  simp [sizeOf, typeInfo, hi]
theorem shapeA_none (h : shapeA P t = some none) : ∃ d, P.underlying t = some d ∧ (∀ fs, d ≠ .struct fs) ∧ (∀ n e, d ≠ .array n e) ∧ ∃ n, sizeA P t = some n := by
  unfold shapeA at h
  split at h <;> first | (simp at h; done) | skip
  rename_i d n h1 h2 h3 h4
  exact ⟨d, h3, fun fs e => h1 fs e, fun m e e' => h2 m e e', n, h4⟩
theorem shapeA_some {n : Nat} (h : shapeA P t = some (some n)) : sizeA P t = some n ∧ ((∃ fs, P.underlying t = some (.struct fs)) ∨ ∃ m e, P.underlying t = some (.array m e)) := by
  unfold shapeA at h
  split at h <;> simp at h
  · rename_i fs m h1 h2; subst h; exact ⟨h2, .inl ⟨fs, h1⟩⟩
  · rename_i l e m h1 h2; subst h; exact ⟨h2, .inr ⟨l, e, h1⟩⟩
theorem run_isAgg_no (h : shapeA P t = some none) (w : World) : (isAgg t).run P w = .ok false w := by
  obtain ⟨d, hd, h1, h2, _⟩ := shapeA_none h
  cases d <;> first | exact absurd rfl (h1 _) | exact absurd rfl (h2 _ _) | simp [isAgg, run_underlying hd]
theorem run_isAgg_yes {n : Nat} (h : shapeA P t = some (some n)) (w : World) : (isAgg t).run P w = .ok true w := by
  obtain ⟨_, ⟨fs, hd⟩ | ⟨m, e, hd⟩⟩ := shapeA_some h <;> simp [isAgg, run_underlying hd]
end types

/-! ### Reading memory -/

theorem Addr.add_mk (c d i : Nat) : (⟨c, d, none⟩ : Addr).add i = ⟨c, d + i, none⟩ := by
  unfold Addr.add
  split
  · rename_i h; subst h; simp
  · rfl

theorem RelO.cell {φ : Phi} {H : AH} {w : World} (h : RelO φ H w) {b : Nat} {vs : List AV} {p : Pl} (hb : H.get b = some (.cells vs)) (hp : φ b = some p) {i : Nat} {x : AV} (hx : vs[i]? = some x) :
    ∃ v, w.cell? ⟨p.c, p.d + i, none⟩ = some v ∧ CRel φ x v := by
  obtain ⟨o, ho, cs, e, rfl, h1, h2, h3⟩ := h.obj b _ p hb hp
  obtain ⟨v, hv, hr⟩ := h3 i x hx
  exact ⟨v, by simpa [World.cell?, ho] using hv, hr⟩

theorem run_loads {P : Program} {φ : Phi} {H : AH} {w : World} (h : RelO φ H w) {b : Nat} {vs : List AV} {p : Pl} (hb : H.get b = some (.cells vs)) (hp : φ b = some p) {off n : Nat} {l : List AV}
    (hl : cut vs off n = some l) : ∃ us : List Value, (loadCells ⟨p.c, p.d + off, none⟩ n).run P w = .ok us.toArray w ∧ CRelL φ l us ∧
      (∀ j u, us[j]? = some u → w.cell? ((⟨p.c, p.d + off, none⟩ : Addr).add j) = some u) ∧ us.length = n := by
  have hlen := cut_len hl
  have key : ∀ i, i < n → ∃ v x, l[i]? = some x ∧ w.cell? ⟨p.c, p.d + (off + i), none⟩ = some v ∧ CRel φ x v := by
    intro i hi
    have hx : l[i]? = some (l[i]'(by omega)) := by simp [hlen, hi]
    have hv := hx
    rw [cut_get hl i hi] at hv
    obtain ⟨v, h1, h2⟩ := h.cell hb hp hv
    exact ⟨v, _, hx, h1, h2⟩
  let us := (List.range n).map fun i => (w.cell? ⟨p.c, p.d + (off + i), none⟩).getD Go.undef
  have hus : us.length = n := by simp [us]
  have hget : ∀ j u, us[j]? = some u → w.cell? ((⟨p.c, p.d + off, none⟩ : Addr).add j) = some u := by
    intro j u hu
    have hj : j < n := by have := (List.getElem?_eq_some_iff.1 hu).1; omega
    obtain ⟨v, x, _, h1, _⟩ := key j hj
    simp only [us, List.getElem?_map, List.getElem?_range hj, Option.map_some, h1, Option.getD_some, Option.some.injEq] at hu
    subst hu
    rw [Addr.add_mk, Nat.add_assoc]; exact h1
  refine ⟨us, ?_, CRelL.of_get (by omega) fun i x hx => ?_, hget, hus⟩
  · have := run_loadCells_list (P := P) w ⟨p.c, p.d + off, none⟩ us hget
    rwa [hus] at this
  · have hi : i < n := by have := (List.getElem?_eq_some_iff.1 hx).1; omega
    obtain ⟨v, y, hy, h1, h2⟩ := key i hi
    rw [hx] at hy; cases hy
    refine ⟨v, ?_, h2⟩
    simp only [us, List.getElem?_map, List.getElem?_range hi, Option.map_some, h1, Option.getD_some]

theorem ldA_sound {P : Program} {t : TypeId} (hs : shapeA P t = some none) {H : AH} {x : AV} {β : Type} {k : AV → Option β} {r : β} (h : ldA H x k = some r) :
    ∃ v, k v = some r ∧ ∀ φ w u, RelO φ H w → CRel φ x u → ∃ v', (Instr.loadAt t u).run P w = .ok v' w ∧ CRel φ v v' := by
  obtain ⟨b, off, rfl, h⟩ := onPtr_eq h
  obtain ⟨vs, hb, h⟩ := onCells_eq h
  obtain ⟨v, hv, h⟩ := ob_eq h
  rw [nth_eq] at hv
  refine ⟨v, h, fun φ w u hR hx => ?_⟩
  simp only [CRel] at hx
  obtain ⟨p, hp, rfl⟩ := hx
  obtain ⟨v', hc, hr⟩ := hR.cell hb hp hv
  exact ⟨v', by simp [Instr.loadAt, Instr.sureAddr, loadVar, run_isAgg_no hs, hc], hr⟩
theorem ldsA_sound {P : Program} {t : TypeId} {n : Nat} (hs : shapeA P t = some (some n)) {H : AH} {x : AV} {β : Type} {k : AV → Option β} {r : β} (h : ldsA n H x k = some r) :
    ∃ v, k v = some r ∧ ∀ φ w u, RelO φ H w → CRel φ x u → ∃ v', (Instr.loadAt t u).run P w = .ok v' w ∧ CRel φ v v' := by
  obtain ⟨b, off, rfl, h⟩ := onPtr_eq h
  obtain ⟨vs, hb, h⟩ := onCells_eq h
  obtain ⟨l, hl, h⟩ := ob_eq h
  refine ⟨.agg l, h, fun φ w u hR hx => ?_⟩
  simp only [CRel] at hx
  obtain ⟨p, hp, rfl⟩ := hx
  obtain ⟨us, hus, hr, _⟩ := run_loads (P := P) hR hb hp hl
  refine ⟨.agg us.toArray, by simp [Instr.loadAt, Instr.sureAddr, loadVar, run_isAgg_yes hs, run_sizeOf (shapeA_some hs).1, hus], ?_⟩
  simp only [CRel]
  exact ⟨_, rfl, by simpa using hr⟩

/-! ### Writing memory -/

/-- Cells stored from an offset on, inside a row. -/
theorem run_storeAt (P : Program) (c : Nat) (e : TypeId) : ∀ (vs : List Value) (off i : Nat) (cs : Array Value) (w : World), w.heap[c]? = some (.cells cs e (0, 0)) → off + i + vs.length ≤ cs.size →
    (∀ v ∈ vs, v.oneCell' = true) → ∃ w', (storeCells ⟨c, off, none⟩ vs i).run P w = .ok () w' ∧ w' = w.setRow c (cs.toList.take (off + i) ++ vs ++ cs.toList.drop (off + i + vs.length)).toArray
  | [], off, i, cs, w, hg, hl, _ => by
    refine ⟨w, rfl, ?_⟩
    have hlt : c < w.heap.size := (Array.getElem?_eq_some_iff.1 hg).1
    have hv : w.heap[c] = .cells cs e (0, 0) := (Array.getElem?_eq_some_iff.1 hg).2
    unfold World.setRow
    cases w with
    | mk heap tape drawn os output =>
      congr 1
      apply Array.ext
      · simp
      · intro k h1 h2
        simp only [Array.getElem_modify]
        split
        · rename_i hk; subst hk; simp at hv; simp [hv]
        · rfl
  | v :: rest, off, i, cs, w, hg, hl, h1 => by
    have hi : off + i < cs.size := by simp at hl; omega
    have hadd : (⟨c, off, none⟩ : Addr).add i = ⟨c, off + i, none⟩ := Addr.add_mk _ _ _
    have hcell : w.cell? ⟨c, off + i, none⟩ = some cs[off + i] := by simp [World.cell?, hg, hi]
    have hfro : w.frozen? ⟨c, off + i, none⟩ = false := by simp [World.frozen?, hg]
    have hst : (store ((⟨c, off, none⟩ : Addr).add i) v).run P w = .ok () (w.setRow c (cs.setIfInBounds (off + i) v)) := by
      rw [hadd, run_store P w _ v _ (h1 v (by simp)), hcell]
      simp [hfro, setCell_eq_setRow w c (off + i) cs e (0, 0) v hg]
    obtain ⟨w', hw', he⟩ := run_storeAt P c e rest off (i + 1) (cs.setIfInBounds (off + i) v) (w.setRow c (cs.setIfInBounds (off + i) v)) (setRow_heap w c cs _ e _ hg) (by simp at hl ⊢; omega) (fun x hx => h1 x (by simp [hx]))
    refine ⟨w', by simp only [storeCells, Sem.run_bind, hst, Result.andThen_ok, hw'], ?_⟩
    rw [he, setRow_setRow]
    congr 2
    apply List.ext_getElem?
    intro k
    simp only [Array.toList_setIfInBounds, List.append_assoc, List.getElem?_append, List.length_take, List.length_set, Array.length_toList, List.length_cons, List.getElem?_drop]
    by_cases hk : k < off + i
    · simp [hk, show k < off + i + 1 by omega, show min (off + (i + 1)) cs.size = off + i + 1 by omega, show min (off + i) cs.size = off + i by omega, show off + i ≠ k by omega]
    · by_cases hk2 : k = off + i
      · subst hk2
        simp [show min (off + (i + 1)) cs.size = off + i + 1 by omega, show min (off + i) cs.size = off + i by omega]
      · simp [hk, show ¬ k < off + i + 1 by omega, show min (off + (i + 1)) cs.size = off + i + 1 by omega, show min (off + i) cs.size = off + i by omega, show k - (off + i) = (k - (off + i + 1)) + 1 by omega]
        by_cases hk3 : k - (off + i + 1) < rest.length
        · simp [hk3]
        · simp [hk3]
          rw [List.getElem?_set_ne (by omega), Array.getElem?_toList]
          congr 1
          omega

theorem setRow_self (w : World) (c : Nat) (cs : Array Value) (e : TypeId) (fr : Nat × Nat) (h : w.heap[c]? = some (.cells cs e fr)) : w.setRow c cs = w := by
  have hlt : c < w.heap.size := (Array.getElem?_eq_some_iff.1 h).1
  have hv : w.heap[c] = .cells cs e fr := (Array.getElem?_eq_some_iff.1 h).2
  unfold World.setRow
  cases w with
  | mk heap tape drawn os output =>
    congr 1
    apply Array.ext
    · simp
    · intro k h1 h2
      simp only [Array.getElem_modify]
      split
      · rename_i hk; subst hk; simp at hv; simp [hv]
      · rfl

/-- Related cells written into a block. -/
theorem run_splice {P : Program} {φ : Phi} {H : AH} {w : World} (h : Rel φ H w) {b : Nat} {vs : List AV} {p : Pl} (hb : H.get b = some (.cells vs)) (hp : φ b = some p) {off : Nat} {l vs' : List AV}
    (hs : splice vs off l = some vs') {us : List Value} (hl : CRelL φ l us) (h1 : ∀ x ∈ l, oneCell x = true) :
    ∃ w', (storeCells ⟨p.c, p.d + off, none⟩ us).run P w = .ok () w' ∧ Ext φ H w φ (H.put b (.cells vs')) w' := by
  obtain ⟨o, ho, cs, e, rfl, c1, c2, c3⟩ := h.obj b _ p hb hp
  have hlen := hl.length
  have hone : ∀ v ∈ us, v.oneCell' = true := by
    intro v hv
    obtain ⟨i, hi⟩ := List.mem_iff_getElem?.1 hv
    have hil : i < l.length := by have := (List.getElem?_eq_some_iff.1 hi).1; omega
    obtain ⟨u, hu, hr⟩ := hl.get i _ (List.getElem?_eq_getElem hil)
    rw [hi] at hu; cases hu
    exact oneCell_eq hr (h1 _ (List.getElem_mem hil))
  rcases splice_eq vs hs with ⟨rfl, rfl⟩ | ⟨g1, _⟩
  · simp only [CRelL] at hl
    subst hl
    refine ⟨w, rfl, Ext.upd h hb hp ho ⟨cs, e, rfl, c1, c2, c3⟩ (fun _ _ => rfl) rfl rfl rfl rfl⟩
  · obtain ⟨w', hw', he⟩ := run_storeAt P p.c e us (p.d + off) 0 cs w ho (by omega) hone
    refine ⟨w', hw', ?_⟩
    subst he
    refine Ext.upd h hb hp (setRow_heap w p.c cs _ e _ ho) ⟨_, e, rfl, ?_, ?_, ?_⟩ (fun c hc => setRow_other w p.c c _ hc) (by simp) rfl rfl rfl
    · simp; omega
    · rw [splice_len hs]; exact c2
    · intro i x hx
      rw [splice_get hs] at hx
      simp only [Nat.add_zero, List.getElem?_toArray]
      split at hx
      · rename_i hin
        obtain ⟨v, hv, hr⟩ := hl.get _ x hx
        refine ⟨v, ?_, hr⟩
        rw [List.append_assoc, List.getElem?_append_right (by simp; omega), List.getElem?_append_left (by simp; omega)]
        rw [← hv]; congr 1; simp; omega
      · rename_i hin
        obtain ⟨v, hv, hr⟩ := c3 i x hx
        refine ⟨v, ?_, hr⟩
        have hi : i < vs.length := (List.getElem?_eq_some_iff.1 hx).1
        by_cases hlo : i < off
        · rw [List.append_assoc, List.getElem?_append_left (by simp; omega), List.getElem?_take_of_lt (by omega), Array.getElem?_toList]; exact hv
        · rw [List.getElem?_append_right (by simp; omega), List.getElem?_drop, Array.getElem?_toList, ← hv]
          congr 1; simp; omega

theorem stA_sound {P : Program} {t : TypeId} {n : Nat} (hs : sizeA P t = some n) {H : AH} {x : AV} {l : List AV} {β : Type} {k : AH → Option β} {r : β} (h : stA n H x l k = some r) :
    ∃ H', k H' = some r ∧ ∀ φ w u v, Rel φ H w → CRel φ x u → CRelL φ l v.cells.toList → ∃ w', (Instr.storeAt t u v).run P w = .ok () w' ∧ Ext φ H w φ H' w' := by
  obtain ⟨b, off, rfl, h⟩ := onPtr_eq h
  obtain ⟨vs, hb, h⟩ := onCells_eq h
  obtain ⟨h1, h⟩ := bt_eq h
  obtain ⟨h2, h⟩ := bt_eq h
  obtain ⟨vs', h3, h⟩ := ob_eq h
  refine ⟨_, h, fun φ w u v hR hx hl => ?_⟩
  simp only [CRel] at hx
  obtain ⟨p, hp, rfl⟩ := hx
  obtain ⟨w', hw', he⟩ := run_splice (P := P) hR hb hp h3 hl (allL_eq h2)
  have hn : v.cells.size = n := by
    have := hl.length
    have := eq_of_beq' h1
    rw [lenL_eq] at this
    simp at *; omega
  exact ⟨w', by simp [Instr.storeAt, Instr.sureAddr, storeVar, run_sizeOf hs, hn, hw'], he⟩

/-! ### Addresses -/

theorem addA_sound {P : Program} {t : TypeId} {i off n : Nat} {fs : Array Field} {f : Field} (ht : P.underlying t = some (.struct fs)) (hf : fs[i]? = some f) (hs : sizeA P f.type = some (n + 1)) (ho : f.offset = off)
    {x : AV} {β : Type} {k : AV → Option β} {r : β} (h : addA off x k = some r) :
    ∃ v, k v = some r ∧ ∀ φ w u, CRel φ x u → ∃ v', (Instr.fieldAt t u i).run P w = .ok v' w ∧ CRel φ v v' := by
  obtain ⟨b, o, rfl, h⟩ := onPtr_eq h
  refine ⟨_, h, fun φ w u hx => ?_⟩
  simp only [CRel] at hx
  obtain ⟨p, hp, rfl⟩ := hx
  refine ⟨.pointer (some ⟨p.c, p.d + (o + off), none⟩), ?_, by simp only [CRel]; exact ⟨p, hp, rfl⟩⟩
  subst ho
  simp [Instr.fieldAt, run_underlying ht, hf, Instr.sureAddr, fieldPlace, run_sizeOf hs, Addr.add_mk, Nat.add_assoc]

theorem ixsA_sound {P : Program} {t e : TypeId} {s : Nat} (ht : P.underlying t = some (.slice e)) (hs : sizeA P e = some s)
    {x i : AV} {β : Type} {k : AV → Option β} {r : β} (h : ixsA s x i k = some r) :
    ∃ v, k v = some r ∧ ∀ φ w u j, CRel φ x u → CRel φ i j → ∃ v', (Instr.indexAt t u j).run P w = .ok v' w ∧ CRel φ v v' := by
  rcases onSl_eq h with ⟨_, h⟩ | ⟨b, off, len, c, rfl, h⟩
  · cases h
  obtain ⟨kd, m, rfl, h⟩ := onInt_eq h
  obtain ⟨m, rfl, h⟩ := nat_eq h
  obtain ⟨hlt, h⟩ := bt_eq h
  have hlt := lt_of_blt hlt
  refine ⟨_, h, fun φ w u j hx hi => ?_⟩
  simp only [CRel] at hi
  subst hi
  have key : ∃ p cap, φ b = some p ∧ u = .slice (some ⟨p.c, p.d + off, none⟩) len cap := by
    cases c with
    | ex q => simp only [CRel] at hx; obtain ⟨p, hp, rfl⟩ := hx; exact ⟨p, q, hp, rfl⟩
    | lo q =>
      simp only [CRel] at hx
      obtain ⟨p, hp, _, ⟨cap, rfl, _⟩ | ⟨h0, _⟩⟩ := hx
      · exact ⟨p, cap, hp, rfl⟩
      · omega
  obtain ⟨p, cap, hp, rfl⟩ := key
  refine ⟨.pointer (some ⟨p.c, p.d + (off + m * s), none⟩), ?_, by simp only [CRel]; exact ⟨p, hp, rfl⟩⟩
  have h0 : (0 : Int) ≤ (m : Int) ∧ (m : Int) < (len : Int) := by omega
  simp [Instr.indexAt, run_underlying ht, asIntOf, hlt, run_sizeOf hs, Addr.add_mk, Nat.add_assoc]

theorem ixaA_sound {P : Program} {t e : TypeId} {s len : Nat} (ht : P.underlying t = some (.array len e)) (hs : sizeA P e = some s)
    {x i : AV} {β : Type} {k : AV → Option β} {r : β} (h : ixaA len s x i k = some r) :
    ∃ v, k v = some r ∧ ∀ φ w u j, CRel φ x u → CRel φ i j → ∃ v', (Instr.indexAt t u j).run P w = .ok v' w ∧ CRel φ v v' := by
  obtain ⟨b, off, rfl, h⟩ := onPtr_eq h
  obtain ⟨kd, m, rfl, h⟩ := onInt_eq h
  obtain ⟨m, rfl, h⟩ := nat_eq h
  obtain ⟨hlt, h⟩ := bt_eq h
  have hlt := lt_of_blt hlt
  refine ⟨_, h, fun φ w u j hx hi => ?_⟩
  simp only [CRel] at hi hx
  subst hi
  obtain ⟨p, hp, rfl⟩ := hx
  refine ⟨.pointer (some ⟨p.c, p.d + (off + m * s), none⟩), ?_, by simp only [CRel]; exact ⟨p, hp, rfl⟩⟩
  simp [Instr.indexAt, run_underlying ht, asIntOf, hlt, Instr.sureAddr, run_sizeOf hs, Addr.add_mk, Nat.add_assoc]

end Go.Ev

/- One operation of the evaluator is what the model does: arithmetic, comparisons, strings, slices. -/
namespace Go.Ev
open Go

/-! ### Integers -/

theorem wrapA_eq (k : IntKind) (n : Int) : wrapA k n = k.wrap n := by
  have key : ∀ (lo hi : Int), (∀ m : Int, lo ≤ m ∧ m ≤ hi → k.wrap m = m) → (maxK k : Int) = hi → ((minK k).1 = true → -((minK k).2 : Int) - 1 = lo) → lo ≤ 0 → wrapA k n = k.wrap n := by
    intro lo hi h1 h2 h3 h4
    unfold wrapA
    cases n with
    | ofNat m =>
      show bt (Nat.ble m (maxK k)) (Int.ofNat m) (k.wrap (.ofNat m)) = _
      cases hb : Nat.ble m (maxK k) with
      | false => rfl
      | true =>
        have := le_of_ble hb
        exact (h1 (Int.ofNat m) ⟨by show lo ≤ (m : Int); omega, by show (m : Int) ≤ hi; omega⟩).symm
    | negSucc m =>
      show bt (minK k).1 (bt (Nat.ble m (minK k).2) (Int.negSucc m) (k.wrap (.negSucc m))) (k.wrap (.negSucc m)) = _
      cases hs : (minK k).1 with
      | false => rfl
      | true =>
        cases hb : Nat.ble m (minK k).2 with
        | false => rfl
        | true =>
          have := le_of_ble hb
          have h5 := h3 hs
          have h0 : Int.negSucc m ≤ hi := by
            have h6 : (0 : Int) ≤ hi := by omega
            have h7 : Int.negSucc m < 0 := Int.negSucc_lt_zero m
            omega
          exact (h1 (Int.negSucc m) ⟨by rw [Int.negSucc_eq]; omega, h0⟩).symm
  cases k
  · exact key (-128) 127 (by intro m h; simp [IntKind.wrap, IntKind.bits, IntKind.signed]; omega) rfl (fun _ => rfl) (by omega)
  · exact key (-32768) 32767 (by intro m h; simp [IntKind.wrap, IntKind.bits, IntKind.signed]; omega) rfl (fun _ => rfl) (by omega)
  · exact key (-2147483648) 2147483647 (by intro m h; rw [IntKind.wrap_i32]; omega) rfl (fun _ => rfl) (by omega)
  · exact key (-9223372036854775808) 9223372036854775807 (by intro m h; rw [IntKind.wrap_i64]; omega) rfl (fun _ => rfl) (by omega)
  · exact key 0 255 (by intro m h; rw [IntKind.wrap_u8]; omega) rfl (fun h => by cases h) (by omega)
  · exact key 0 65535 (by intro m h; simp [IntKind.wrap, IntKind.bits, IntKind.signed]; omega) rfl (fun h => by cases h) (by omega)
  · exact key 0 4294967295 (by intro m h; rw [IntKind.wrap_u32]; omega) rfl (fun h => by cases h) (by omega)
  · exact key 0 18446744073709551615 (by intro m h; rw [IntKind.wrap_u64]; omega) rfl (fun h => by cases h) (by omega)

theorem addI_eq (x y : Int) : addI x y = x + y := by cases x <;> cases y <;> rfl
theorem subI_eq (x y : Int) : subI x y = x - y := by
  cases x with
  | negSucc a => rfl
  | ofNat a =>
    cases y with
    | negSucc b => rfl
    | ofNat b =>
      show bt (Nat.ble b a) (Int.ofNat (a - b)) (Int.sub (.ofNat a) (.ofNat b)) = _
      cases h : Nat.ble b a with
      | false => rfl
      | true =>
        have := le_of_ble h
        show ((a - b : Nat) : Int) = (a : Int) - (b : Int)
        omega
theorem mulI_eq (x y : Int) : mulI x y = x * y := by cases x <;> cases y <;> rfl
theorem quoI_eq (x y : Int) : quoI x y = x.tdiv y := by cases x <;> cases y <;> rfl
theorem remI_eq (x y : Int) : remI x y = x.tmod y := by cases x <;> cases y <;> rfl
theorem eqA_eq (x y : Int) : eqA x y = (x == y) := by
  cases x with
  | ofNat a => cases y with
    | ofNat b =>
      show Nat.beq a b = _
      by_cases h : a = b
      · subst h; simp
      · rw [beq_no h]; symm; rw [beq_eq_false_iff_ne]; exact fun e => h (Int.ofNat.inj e)
    | negSucc b => rfl
  | negSucc a => cases y with
    | ofNat b => rfl
    | negSucc b =>
      show Nat.beq a b = _
      by_cases h : a = b
      · subst h; simp
      · rw [beq_no h]; symm; rw [beq_eq_false_iff_ne]; exact fun e => h (Int.negSucc.inj e)
theorem blt_eq (a b : Nat) : Nat.blt a b = decide (a < b) := by
  by_cases h : a < b
  · simp only [h, decide_true]; exact Nat.ble_eq_true_of_le h
  · simp only [h, decide_false]
    rw [← Bool.not_eq_true]
    exact fun e => h (lt_of_blt e)
theorem ltA_eq (x y : Int) : ltA x y = decide (x < y) := by
  cases x with
  | ofNat a => cases y with
    | ofNat b =>
      show Nat.blt a b = _
      rw [blt_eq]
      show decide (a < b) = decide ((a : Int) < (b : Int))
      congr 1
      exact propext ⟨fun h => by omega, fun h => by omega⟩
    | negSucc b =>
      show false = _
      symm
      rw [decide_eq_false_iff_not, Int.negSucc_eq]
      show ¬ ((a : Int) < _)
      omega
  | negSucc a => cases y with
    | ofNat b =>
      show true = _
      symm
      rw [decide_eq_true_iff, Int.negSucc_eq]
      show _ < (b : Int)
      omega
    | negSucc b =>
      show Nat.blt b a = _
      rw [blt_eq, Int.negSucc_eq, Int.negSucc_eq]
      congr 1
      exact propext ⟨fun h => by omega, fun h => by omega⟩
theorem kindEq_eq {j k : IntKind} (h : kindEq j k = true) : j = k := by cases j <;> cases k <;> first | rfl | cases h
theorem bt_not (b : Bool) : bt b false true = !b := by cases b <;> rfl

/-- What an operation on two integers of one kind comes to. -/
theorem intOp_sound {P : Program} {op : BinOp} {f : BF} (hop : intOp op = some f) {j : IntKind} {a b : Int} {v : AV} (h : f j a b = some v) (w : World) (t : TypeId) :
    op ≠ .shl ∧ op ≠ .shr ∧ ∃ u, (binOp op t (.int j a) (.int j b)).run P w = .ok u w ∧ ∀ φ, CRel φ v u := by
  have bits : ∀ (g : Nat → Nat → Nat), fBits g j a b = some v → ∃ m n : Nat, a = m ∧ b = n ∧ m ≤ maxK j ∧ n ≤ maxK j ∧ v = .int j (j.wrap (g m n : Nat)) := by
    intro g g0
    obtain ⟨m, ha, g1⟩ := nat_eq g0
    obtain ⟨n, hb, g2⟩ := nat_eq g1
    obtain ⟨h1, g3⟩ := bt_eq g2
    obtain ⟨h2, g4⟩ := bt_eq g3
    simp only [wrapA_eq, Option.some.injEq] at g4
    exact ⟨m, n, ha, hb, le_of_ble h1, le_of_ble h2, g4.symm⟩
  have toNat : ∀ m : Nat, m ≤ maxK j → (BitVec.ofInt j.bits (m : Int)).toNat = m := by
    intro m hm
    rw [BitVec.toNat_ofInt]
    have : m < 2 ^ j.bits := by cases j <;> simp [maxK, IntKind.bits] at hm ⊢ <;> omega
    have h2 : ((m : Int) % ((2 ^ j.bits : Nat) : Int)) = m := by
      apply Int.emod_eq_of_lt
      · omega
      · exact_mod_cast this
    rw [h2]; rfl
  cases op <;> simp only [intOp, reduceCtorEq, Option.some.injEq] at hop <;> subst hop <;> refine ⟨by decide, by decide, ?_⟩
  case add => simp only [fAdd, wrapA_eq, addI_eq, Option.some.injEq] at h; subst h; exact ⟨.int j (j.wrap (a + b)), by simp [binOp, Op.intArith], fun φ => by simp only [CRel]⟩
  case sub => simp only [fSub, wrapA_eq, subI_eq, Option.some.injEq] at h; subst h; exact ⟨.int j (j.wrap (a - b)), by simp [binOp, Op.intArith], fun φ => by simp only [CRel]⟩
  case mul => simp only [fMul, wrapA_eq, mulI_eq, Option.some.injEq] at h; subst h; exact ⟨.int j (j.wrap (a * b)), by simp [binOp, Op.intArith], fun φ => by simp only [CRel]⟩
  case quo =>
    obtain ⟨h0, h⟩ := bt_ne h
    rw [eqA_eq, beq_eq_false_iff_ne] at h0
    simp only [wrapA_eq, quoI_eq, Option.some.injEq] at h; subst h; exact ⟨.int j (j.wrap (a.tdiv b)), by simp [binOp, Op.intDiv, h0], fun φ => by simp only [CRel]⟩
  case rem =>
    obtain ⟨h0, h⟩ := bt_ne h
    rw [eqA_eq, beq_eq_false_iff_ne] at h0
    simp only [remI_eq, Option.some.injEq] at h; subst h; exact ⟨.int j (a.tmod b), by simp [binOp, Op.intDiv, h0], fun φ => by simp only [CRel]⟩
  case and =>
    obtain ⟨m, n, rfl, rfl, h1, h2, rfl⟩ := bits _ h
    refine ⟨.int j (j.wrap ((BitVec.ofInt j.bits (m : Int) &&& BitVec.ofInt j.bits (n : Int)).toNat : Int)), by simp [binOp, Op.intBits], fun φ => ?_⟩
    simp only [CRel, BitVec.toNat_and, toNat m h1, toNat n h2]; rfl
  case or =>
    obtain ⟨m, n, rfl, rfl, h1, h2, rfl⟩ := bits _ h
    refine ⟨.int j (j.wrap ((BitVec.ofInt j.bits (m : Int) ||| BitVec.ofInt j.bits (n : Int)).toNat : Int)), by simp [binOp, Op.intBits], fun φ => ?_⟩
    simp only [CRel, BitVec.toNat_or, toNat m h1, toNat n h2]; rfl
  case xor =>
    obtain ⟨m, n, rfl, rfl, h1, h2, rfl⟩ := bits _ h
    refine ⟨.int j (j.wrap ((BitVec.ofInt j.bits (m : Int) ^^^ BitVec.ofInt j.bits (n : Int)).toNat : Int)), by simp [binOp, Op.intBits], fun φ => ?_⟩
    simp only [CRel, BitVec.toNat_xor, toNat m h1, toNat n h2]; rfl
  case eql => simp only [fEql, eqA_eq, Option.some.injEq] at h; subst h; exact ⟨.bool (a == b), by simp [binOp, Op.intCmp], fun φ => by simp only [CRel]⟩
  case neq => simp only [fNeq, eqA_eq, bt_not, Option.some.injEq] at h; subst h; exact ⟨.bool (a != b), by simp [binOp, Op.intCmp], fun φ => by simp only [CRel]; rfl⟩
  case lss => simp only [fLss, ltA_eq, Option.some.injEq] at h; subst h; exact ⟨.bool (a < b), by simp [binOp, Op.intCmp], fun φ => by simp only [CRel]⟩
  case leq =>
    simp only [fLeq, ltA_eq, bt_not, Option.some.injEq] at h; subst h
    refine ⟨.bool (a ≤ b), by simp [binOp, Op.intCmp], fun φ => ?_⟩
    simp only [CRel, Value.bool.injEq]
    by_cases hab : b < a <;> simp [hab] <;> omega
  case gtr => simp only [fGtr, ltA_eq, Option.some.injEq] at h; subst h; exact ⟨.bool (a > b), by simp [binOp, Op.intCmp], fun φ => by simp only [CRel]⟩
  case geq =>
    simp only [fGeq, ltA_eq, bt_not, Option.some.injEq] at h; subst h
    refine ⟨.bool (a ≥ b), by simp [binOp, Op.intCmp], fun φ => ?_⟩
    simp only [CRel, Value.bool.injEq]
    by_cases hab : a < b <;> simp [hab] <;> omega

theorem shl_sound {P : Program} {j k : IntKind} {a b : Int} {v : AV} (h : fShl j a b = some v) (w : World) (t : TypeId) :
    ∃ u, (binOp .shl t (.int j a) (.int k b)).run P w = .ok u w ∧ ∀ φ, CRel φ v u := by
  obtain ⟨m, ha, h1⟩ := nat_eq h
  obtain ⟨n, hb, h2⟩ := nat_eq h1
  obtain ⟨_, h3⟩ := bt_eq h2
  subst ha hb
  clear h h1 h2
  have h := h3
  clear h3
  simp only [wrapA_eq, Option.some.injEq] at h
  subst h
  refine ⟨.int j (j.wrap ((m : Int) * 2 ^ min n j.bits)), by
    have hn : ¬ (n : Int) < 0 := by omega
    simp [binOp, Op.shift, hn], fun φ => ?_⟩
  simp only [CRel]
  congr 2
theorem shr_sound {P : Program} {j k : IntKind} {a b : Int} {v : AV} (h : fShr j a b = some v) (w : World) (t : TypeId) :
    ∃ u, (binOp .shr t (.int j a) (.int k b)).run P w = .ok u w ∧ ∀ φ, CRel φ v u := by
  obtain ⟨m, ha, h1⟩ := nat_eq h
  obtain ⟨n, hb, h2⟩ := nat_eq h1
  obtain ⟨_, h3⟩ := bt_eq h2
  subst ha hb
  clear h h1 h2
  have h := h3
  clear h3
  simp only [Option.some.injEq] at h
  subst h
  refine ⟨.int j ((m : Int).fdiv (2 ^ min n j.bits)), by
    have hn : ¬ (n : Int) < 0 := by omega
    simp [binOp, Op.shift, hn], fun φ => ?_⟩
  simp only [CRel]
  congr 1
  rw [Int.fdiv_eq_ediv_of_nonneg _ (Int.pow_nonneg (by omega))]
  show _ = ((m / 2 ^ min n j.bits : Nat) : Int)
  simp

/-! ### Strings -/

theorem eqL_eq : ∀ (x y : List Nat), eqL x y = (x == y)
  | [], [] => rfl
  | [], _ :: _ => rfl
  | _ :: _, [] => rfl
  | a :: x, b :: y => by
    show (Bool.rec false (eqL x y) (Nat.beq a b) : Bool) = _
    by_cases h : a = b
    · subst h; rw [beq_yes rfl]; simp [eqL_eq x y]
    · rw [beq_no h]; symm; simp [h]
theorem eqL_bytes (a b : List UInt8) : eqL (a.map UInt8.toNat) (b.map UInt8.toNat) = (a == b) := by
  rw [eqL_eq]
  by_cases h : a = b
  · subst h; rw [beq_self_eq_true, beq_self_eq_true]
  · have : ¬ a.map UInt8.toNat = b.map UInt8.toNat := fun e => h (List.map_inj_right (fun _ _ => UInt8.toNat.inj) |>.1 e)
    rw [beq_eq_false_iff_ne.2 this, beq_eq_false_iff_ne.2 h]
theorem ltL_bytes : ∀ (a b : List UInt8), ltL (a.map UInt8.toNat) (b.map UInt8.toNat) = Op.bytesLess a b
  | [], [] => rfl
  | _ :: _, [] => rfl
  | [], _ :: _ => rfl
  | a :: x, b :: y => by
    show (Bool.rec (Bool.rec false (ltL (x.map UInt8.toNat) (y.map UInt8.toNat)) (Nat.beq a.toNat b.toNat)) true (Nat.blt a.toNat b.toNat) : Bool) = _
    rw [ltL_bytes x y, blt_eq]
    have e1 : (a < b) ↔ a.toNat < b.toNat := UInt8.lt_iff_toNat_lt
    have e2 : (a = b) ↔ a.toNat = b.toNat := UInt8.toNat_inj.symm
    by_cases h1 : a.toNat < b.toNat
    · have h1' := e1.2 h1
      simp [Op.bytesLess, h1, h1']
    · have h1' : ¬ a < b := fun h => h1 (e1.1 h)
      by_cases h2 : a.toNat = b.toNat
      · have h2' := e2.2 h2
        subst h2'
        rw [beq_yes rfl]; simp [Op.bytesLess, h1, h1']
      · have h2' : ¬ a = b := fun h => h2 (e2.1 h)
        rw [beq_no h2]; simp [Op.bytesLess, h1, h1', h2']

theorem strOp_sound {P : Program} {op : BinOp} {f : SF} (hop : strOp op = some f) {x y : ByteArray} {v : AV} (h : f (x.data.toList.map UInt8.toNat) (y.data.toList.map UInt8.toNat) = some v) (w : World) (t : TypeId) :
    op ≠ .shl ∧ op ≠ .shr ∧ ∃ u, (binOp op t (.string x) (.string y)).run P w = .ok u w ∧ ∀ φ, CRel φ v u := by
  cases op <;> simp only [strOp, reduceCtorEq, Option.some.injEq] at hop <;> subst hop <;> refine ⟨by decide, by decide, ?_⟩
  case add =>
    obtain ⟨h0, h⟩ := bt_eq h
    have h0 := lt_of_blt h0
    simp only [lenL_eq, List.length_map, Array.length_toList, appL_eq, Option.some.injEq] at h0 h
    subst h
    have h1 : ¬ (((x.size + y.size : Nat) : Int) > IntKind.i64.max) := by
      have e1 : x.size = x.data.size := rfl
      have e2 : y.size = y.data.size := rfl
      have e3 : IntKind.i64.max = 9223372036854775807 := by simp [IntKind.max, IntKind.bits, IntKind.signed]
      rw [e1, e2, e3]
      have : x.data.size + y.data.size < 4294967296 := h0
      omega
    refine ⟨.string (x ++ y), ?_, fun φ => ?_⟩
    · simp only [binOp, Op.stringOp]
      rw [if_neg h1]; rfl
    · simp only [CRel]
      exact ⟨_, rfl, by simp⟩
  case eql =>
    simp only [sEql, eqL_bytes, Option.some.injEq] at h; subst h
    exact ⟨.bool (x.toList == y.toList), by simp only [binOp, Op.stringOp, Sem.run_pure], fun φ => by simp only [CRel, ByteArray.toList_eq]⟩
  case neq =>
    simp only [sNeq, eqL_bytes, bt_not, Option.some.injEq] at h; subst h
    exact ⟨.bool (!(x.toList == y.toList)), by simp only [binOp, Op.stringOp, Sem.run_pure], fun φ => by simp only [CRel, ByteArray.toList_eq]⟩
  case lss =>
    simp only [sLss, ltL_bytes, Option.some.injEq] at h; subst h
    exact ⟨.bool (Op.bytesLess x.toList y.toList), by simp only [binOp, Op.stringOp, Sem.run_pure], fun φ => by simp only [CRel, ByteArray.toList_eq]⟩
  case leq =>
    simp only [sLeq, eqL_bytes, ltL_bytes, Option.some.injEq] at h; subst h
    refine ⟨.bool (Op.bytesLess x.toList y.toList || x.toList == y.toList), by simp only [binOp, Op.stringOp, Sem.run_pure], fun φ => ?_⟩
    simp only [CRel, ByteArray.toList_eq]
    cases Op.bytesLess x.data.toList y.data.toList <;> rfl
  case gtr =>
    simp only [sGtr, eqL_bytes, ltL_bytes, bt_not, Option.some.injEq] at h; subst h
    refine ⟨.bool (!(Op.bytesLess x.toList y.toList || x.toList == y.toList)), by simp only [binOp, Op.stringOp, Sem.run_pure], fun φ => ?_⟩
    simp only [CRel, ByteArray.toList_eq]
    cases Op.bytesLess x.data.toList y.data.toList <;> rfl
  case geq =>
    simp only [sGeq, ltL_bytes, bt_not, Option.some.injEq] at h; subst h
    exact ⟨.bool (!Op.bytesLess x.toList y.toList), by simp only [binOp, Op.stringOp, Sem.run_pure], fun φ => by simp only [CRel, ByteArray.toList_eq]⟩

end Go.Ev

/- One operation of the evaluator is what the model does: equality at a type, parts, composites, slices. -/
namespace Go.Ev
open Go

theorem partF_sound {P : Program} {t : TypeId} {s : Option Nat} (hs : shapeA P t = some s) {cs : List AV} {off : Nat} {v : AV} (h : partF s cs off = some v) {φ : Phi} {us : List Value} (hc : CRelL φ cs us) (w : World) :
    ∃ u, (part t us.toArray off).run P w = .ok u w ∧ CRel φ v u := by
  cases s with
  | none =>
    have h : nth cs off = some v := h
    rw [nth_eq] at h
    obtain ⟨u, hu, hr⟩ := hc.get off v h
    exact ⟨u, by simp [part, run_isAgg_no hs, hu], hr⟩
  | some n =>
    obtain ⟨l, hl, h⟩ := ob_eq (x := cut cs off n) h
    cases h
    obtain ⟨h1, rfl⟩ := cut_eq _ hl
    refine ⟨.agg ((us.drop off).take n).toArray, ?_, ?_⟩
    · simp [part, run_isAgg_yes hs, run_sizeOf (shapeA_some hs).1]
    · simp only [CRel]
      exact ⟨_, rfl, by simpa using (hc.drop off).take n⟩

/-- What a comparison at a type has to be. -/
def EqOk (P : Program) (d : Nat) (t : TypeId) (f : EF) : Prop :=
  ∀ D, d ≤ D → ∀ x y b, f x y = some b → ∀ φ u v w, CRel φ x u → CRel φ y v → (Op.equalIn D t u v).run P w = .ok b w

theorem eInt_ok {P : Program} {d : Nat} {t : TypeId} {k' : IntKind} (ht : P.underlying t = some (.int k')) : EqOk P (d + 1) t eInt := by
  intro D hD x y b h φ u v w hx hy
  obtain ⟨D, rfl⟩ : ∃ m, D = m + 1 := ⟨D - 1, by omega⟩
  obtain ⟨j, m, rfl, h2⟩ := onInt_eq h
  obtain ⟨k, n, rfl, h3⟩ := onInt_eq h2
  obtain ⟨h1, h4⟩ := bt_eq h3
  have h1 := kindEq_eq h1; subst h1
  clear h h2 h3
  have h := h4
  clear h4
  simp only [CRel] at hx hy; subst hx hy
  rw [run_equalIn_int w D t j k' m n ht]
  simp only [eqA_eq, Option.some.injEq] at h
  rw [h]
theorem eBool_ok {P : Program} {d : Nat} {t : TypeId} (ht : P.underlying t = some .bool) : EqOk P (d + 1) t eBool := by
  intro D hD x y b h φ u v w hx hy
  obtain ⟨D, rfl⟩ : ∃ m, D = m + 1 := ⟨D - 1, by omega⟩
  obtain ⟨m, rfl, h2⟩ := onBool_eq h
  obtain ⟨n, rfl, h3⟩ := onBool_eq h2
  clear h h2
  have h := h3
  clear h3
  simp only [CRel] at hx hy; subst hx hy
  rw [run_equalIn_bool' w D t m n ht]
  simp only [Option.some.injEq] at h
  rw [← h]; cases m <;> cases n <;> rfl
theorem eStr_ok {P : Program} {d : Nat} {t : TypeId} (ht : P.underlying t = some .string) : EqOk P (d + 1) t eStr := by
  intro D hD x y b h φ u v w hx hy
  obtain ⟨D, rfl⟩ : ∃ m, D = m + 1 := ⟨D - 1, by omega⟩
  obtain ⟨m, rfl, h2⟩ := onStr_eq h
  obtain ⟨n, rfl, h3⟩ := onStr_eq h2
  clear h h2
  have h := h3
  clear h3
  simp only [CRel] at hx hy
  obtain ⟨p, rfl, rfl⟩ := hx
  obtain ⟨q, rfl, rfl⟩ := hy
  rw [run_equalIn_string w D t p q ht]
  simp only [eqL_bytes, Option.some.injEq] at h
  rw [← h, ByteArray.toList_eq, ByteArray.toList_eq]
theorem eSl_ok {P : Program} {d : Nat} {t e : TypeId} (ht : P.underlying t = some (.slice e)) : EqOk P (d + 1) t eSl := by
  intro D hD x y b h φ u v w hx hy
  obtain ⟨D, rfl⟩ : ∃ m, D = m + 1 := ⟨D - 1, by omega⟩
  have some_ : ∀ {b o n c v}, CRel φ (.sl b o n c) v → ∃ a m k, v = .slice (some a) m k := by
    intro b o n c v hv
    cases c <;> simp only [CRel] at hv
    · obtain ⟨p, _, rfl⟩ := hv; exact ⟨_, _, _, rfl⟩
    · obtain ⟨p, _, _, ⟨k, rfl, _⟩ | ⟨_, _, a, rfl⟩⟩ := hv <;> exact ⟨_, _, _, rfl⟩
  rcases onSl_eq h with ⟨rfl, h2⟩ | ⟨_, _, _, _, rfl, h2⟩ <;> rcases onSl_eq h2 with ⟨rfl, h⟩ | ⟨_, _, _, _, rfl, h⟩
  · cases h; simp only [CRel] at hx hy; subst hx hy; simp [Op.equalIn, run_underlying ht]
  · cases h; simp only [CRel] at hx; subst hx; obtain ⟨_, _, _, rfl⟩ := some_ hy; simp [Op.equalIn, run_underlying ht]
  · cases h; simp only [CRel] at hy; subst hy; obtain ⟨_, _, _, rfl⟩ := some_ hx; simp [Op.equalIn, run_underlying ht]
  · cases h
theorem eMap_ok {P : Program} {d : Nat} {t k e : TypeId} (ht : P.underlying t = some (.map k e)) : EqOk P (d + 1) t eMap := by
  intro D hD x y b h φ u v w hx hy
  obtain ⟨D, rfl⟩ : ∃ m, D = m + 1 := ⟨D - 1, by omega⟩
  rcases onMap_eq h with ⟨rfl, h2⟩ | ⟨_, rfl, h2⟩ <;> rcases onMap_eq h2 with ⟨rfl, h⟩ | ⟨_, rfl, h⟩
  · cases h; simp only [CRel] at hx hy; subst hx hy; simp [Op.equalIn, run_underlying ht]
  · cases h; simp only [CRel] at hx hy; subst hx; obtain ⟨_, _, rfl⟩ := hy; simp [Op.equalIn, run_underlying ht]
  · cases h; simp only [CRel] at hx hy; subst hy; obtain ⟨_, _, rfl⟩ := hx; simp [Op.equalIn, run_underlying ht]
  · cases h
theorem bt_eq2 {β : Type} {b : Bool} {x y : Option β} {r : β} (h : bt b x y = some r) : (b = true ∧ x = some r) ∨ (b = false ∧ y = some r) := by
  cases b
  · exact .inr ⟨rfl, h⟩
  · exact .inl ⟨rfl, h⟩

theorem isNilp_eq {x : AV} (h : isNilp x = true) : x = .nilp := by cases x <;> first | rfl | cases h
theorem isNilf_eq {x : AV} (h : isNilf x = true) : x = .nilfn := by cases x <;> first | rfl | cases h
theorem ePtr_ok {P : Program} {d : Nat} {t e : TypeId} (ht : P.underlying t = some (.pointer e)) : EqOk P (d + 1) t ePtr := by
  intro D hD x y b h φ u v w hx hy
  obtain ⟨D, rfl⟩ : ∃ m, D = m + 1 := ⟨D - 1, by omega⟩
  rcases bt_eq2 h with ⟨h1, h2⟩ | ⟨_, h2⟩
  · have := isNilp_eq h1; subst this
    simp only [CRel] at hx; subst hx
    rcases bt_eq2 h2 with ⟨h3, h4⟩ | ⟨_, h4⟩
    · have := isNilp_eq h3; subst this
      simp only [CRel] at hy; subst hy
      cases h4; simp [Op.equalIn, run_underlying ht]
    · obtain ⟨_, _, rfl, h5⟩ := onPtr_eq h4
      simp only [CRel] at hy; obtain ⟨_, _, rfl⟩ := hy
      cases h5; simp [Op.equalIn, run_underlying ht]
  · obtain ⟨_, _, rfl, h3⟩ := onPtr_eq h2
    obtain ⟨h4, h5⟩ := bt_eq h3
    have := isNilp_eq h4; subst this
    simp only [CRel] at hx hy; obtain ⟨_, _, rfl⟩ := hx; subst hy
    cases h5; simp [Op.equalIn, run_underlying ht]
theorem eFn_ok {P : Program} {d : Nat} {t : TypeId} {a c : Array TypeId} {e : Bool} (ht : P.underlying t = some (.func a c e)) : EqOk P (d + 1) t eFn := by
  intro D hD x y b h φ u v w hx hy
  obtain ⟨D, rfl⟩ : ∃ m, D = m + 1 := ⟨D - 1, by omega⟩
  rcases bt_eq2 h with ⟨h1, h2⟩ | ⟨_, h2⟩
  · have := isNilf_eq h1; subst this
    simp only [CRel] at hx; subst hx
    rcases bt_eq2 h2 with ⟨h3, h4⟩ | ⟨_, h4⟩
    · have := isNilf_eq h3; subst this
      simp only [CRel] at hy; subst hy
      cases h4; simp [Op.equalIn, run_underlying ht]
    · obtain ⟨_, _, _, rfl, h5⟩ := onFn_eq h4
      simp only [CRel] at hy; obtain ⟨_, _, rfl, _⟩ := hy
      cases h5; simp [Op.equalIn, run_underlying ht]
  · obtain ⟨_, _, _, rfl, h3⟩ := onFn_eq h2
    obtain ⟨h4, h5⟩ := bt_eq h3
    have := isNilf_eq h4; subst this
    simp only [CRel] at hx hy; obtain ⟨_, _, rfl, _⟩ := hx; subst hy
    cases h5; simp [Op.equalIn, run_underlying ht]

theorem fieldEqs_ok {P : Program} {d : Nat} {eq : TypeId → Option EF} (heq : ∀ t f, eq t = some f → EqOk P d t f) : ∀ {fs : List Field} {r : List FieldEq}, fieldEqs eq P fs = some r →
    ∀ D, d ≤ D → ∀ xs ys b, eFields r xs ys = some b → ∀ φ us vs w, CRelL φ xs us → CRelL φ ys vs → (Op.eqFields D us.toArray vs.toArray fs).run P w = .ok b w
  | [], r, hr, D, hD, xs, ys, b, h, φ, us, vs, w, hx, hy => by
    simp only [fieldEqs, Option.some.injEq] at hr; subst hr
    cases h; simp [Op.eqFields]
  | f :: fs, r, hr, D, hD, xs, ys, b, h, φ, us, vs, w, hx, hy => by
    simp only [fieldEqs] at hr
    cases hq : fieldEqs eq P fs with
    | none => simp [hq] at hr
    | some q =>
      simp only [hq] at hr
      by_cases hn : f.name = "_"
      · simp only [hn, decide_true, Option.some.injEq] at hr
        subst hr
        simp only [Op.eqFields, hn, ne_eq, not_true_eq_false, if_false]
        exact fieldEqs_ok heq hq D hD xs ys b h φ us vs w hx hy
      · simp only [hn, decide_false] at hr
        cases hs : shapeA P f.type with
        | none => simp [hs] at hr
        | some s =>
          cases he : eq f.type with
          | none => simp [hs, he] at hr
          | some e =>
            simp only [hs, he, Option.some.injEq] at hr
            subst hr
            have h' : (ob (partF s xs f.offset) fun a => ob (partF s ys f.offset) fun c => ob (e a c) fun r => bt r (eFields q xs ys) (some false)) = some b := h
            obtain ⟨a, ha, h1⟩ := ob_eq h'
            obtain ⟨c, hc, h2⟩ := ob_eq h1
            obtain ⟨r, hr, h3⟩ := ob_eq h2
            obtain ⟨u, hu, ru⟩ := partF_sound hs ha hx w
            obtain ⟨v, hv, rv⟩ := partF_sound hs hc hy w
            have hb := heq _ _ he D hD a c r hr φ u v w ru rv
            simp only [Op.eqFields, hn, ne_eq, not_false_eq_true, if_true, Sem.run_bind, hu, Result.andThen_ok, hv, hb, Sem.run_ite, Sem.run_pure]
            cases r with
            | true => simpa using fieldEqs_ok heq hq D hD xs ys b h3 φ us vs w hx hy
            | false => simp at h3; subst h3; simp

/-- The comparison of two arrays, element by element. -/
def eqElemsS (d : Nat) (e : TypeId) (n : Nat) (xs ys : Array Value) : Nat → Nat → Sem Bool
  | 0, _ => pure true
  | c + 1, i => do
    let a ← part e xs (i * n)
    let b ← part e ys (i * n)
    let r ← Op.equalIn d e a b
    if (!r) = true then pure false else eqElemsS d e n xs ys c (i + 1)

theorem run_elems {P : Program} (d : Nat) (e : TypeId) (n : Nat) (xs ys : Array Value) : ∀ (c i : Nat) (w : World),
    ((Sem.run P (forIn (List.range' i c) ((none : Option Bool), ()) fun i _ => do
      let a ← part e xs (i * n)
      let b ← part e ys (i * n)
      let q ← Op.equalIn d e a b
      if (!q) = true then pure (ForInStep.done (some false, ())) else pure (ForInStep.yield (none, ()))) w).andThen
      fun a w' => Sem.run P (match a.fst with | some r => pure r | none => pure true) w') = (eqElemsS d e n xs ys c i).run P w
  | 0, i, w => by simp [eqElemsS]
  | c + 1, i, w => by
    simp only [List.range'_succ, List.forIn_cons, eqElemsS, Sem.run_bind, Sem.run_ite]
    generalize (part e xs (i * n)).run P w = r1
    cases r1 with
    | halt x w1 => simp [Result.andThen]
    | ok a w1 =>
      simp only [Result.andThen_ok]
      generalize (part e ys (i * n)).run P w1 = r2
      cases r2 with
      | halt x w2 => simp [Result.andThen]
      | ok b w2 =>
        simp only [Result.andThen_ok]
        generalize (Op.equalIn d e a b).run P w2 = r3
        cases r3 with
        | halt x w3 => simp [Result.andThen]
        | ok q w3 =>
          cases q with
          | false => simp
          | true =>
            simp only [Result.andThen_ok, Bool.not_true, Bool.false_eq_true, if_false, Sem.run_pure]
            exact run_elems d e n xs ys c (i + 1) w3

theorem run_equalIn_array {P : Program} (w : World) (d : Nat) (t e : TypeId) (len n : Nat) (xs ys : Array Value) (ht : P.underlying t = some (.array len e)) (hn : sizeA P e = some n) :
    (Op.equalIn (d + 1) t (.agg xs) (.agg ys)).run P w = (eqElemsS d e n xs ys len 0).run P w := by
  simp only [Op.equalIn, Sem.run_bind, run_underlying ht, Result.andThen_ok, run_sizeOf hn]
  rw [Std.Legacy.Range.forIn_eq_forIn_range']
  simp only [Std.Legacy.Range.size, Nat.sub_zero, Nat.add_sub_cancel, Nat.div_one]
  have key := run_elems (P := P) d e n xs ys len 0 w
  rw [← key]
  congr 1
  funext a w'
  cases a.1 <;> rfl

theorem eElems_ok {P : Program} {d n : Nat} {e : TypeId} {q : EF} {s : Option Nat} (hq : EqOk P d e q) (hs : shapeA P e = some s) {D : Nat} (hD : d ≤ D) {xs ys : List AV} {φ : Phi} {us vs : List Value} (hx : CRelL φ xs us) (hy : CRelL φ ys vs) :
    ∀ (c i : Nat) (b : Bool) (w : World), eElems q s n xs ys c i = some b → (eqElemsS D e n us.toArray vs.toArray c i).run P w = .ok b w
  | 0, i, b, w, h => by cases h; simp [eqElemsS]
  | c + 1, i, b, w, h => by
    have h' : (ob (partF s xs (i * n)) fun a => ob (partF s ys (i * n)) fun c' => ob (q a c') fun r => bt r (eElems q s n xs ys c (i + 1)) (some false)) = some b := h
    obtain ⟨a, ha, h1⟩ := ob_eq h'
    obtain ⟨c', hc, h2⟩ := ob_eq h1
    obtain ⟨r, hr, h3⟩ := ob_eq h2
    obtain ⟨u, hu, ru⟩ := partF_sound hs ha hx w
    obtain ⟨v, hv, rv⟩ := partF_sound hs hc hy w
    have hb := hq D hD a c' r hr φ u v w ru rv
    simp only [eqElemsS, Sem.run_bind, hu, Result.andThen_ok, hv, hb, Sem.run_ite, Sem.run_pure]
    cases r with
    | true => simpa using eElems_ok hq hs hD hx hy c (i + 1) b w h3
    | false => simp at h3; subst h3; simp

theorem eqT_ok {P : Program} : ∀ (d : Nat) (t : TypeId) (f : EF), eqT P d t = some f → EqOk P d t f
  | 0, t, f, h => by simp [eqT] at h
  | d + 1, t, f, h => by
    unfold eqT at h
    split at h
    · rename_i k ht; cases h; exact eInt_ok ht
    · rename_i ht; cases h; exact eBool_ok ht
    · rename_i ht; cases h; exact eStr_ok ht
    · rename_i fs ht
      split at h
      · rename_i r h1 h2
        cases h
        intro D hD x y b hb φ u v w hx hy
        obtain ⟨D, rfl⟩ : ∃ m, D = m + 1 := ⟨D - 1, by omega⟩
        obtain ⟨xs, rfl, hb1⟩ := onAgg_eq hb
        obtain ⟨ys, rfl, hb2⟩ := onAgg_eq hb1
        simp only [CRel] at hx hy
        obtain ⟨us, rfl, hx⟩ := hx
        obtain ⟨vs, rfl, hy⟩ := hy
        have hf : P.fieldsOf t = fs := by simp [Program.fieldsOf, ht]
        rw [run_equalIn_struct w D t us vs (by rw [hf]; exact ht) h1, hf]
        have := fieldEqs_ok (eqT_ok d) h2 D (by omega) xs ys b hb2 φ us.toList vs.toList w hx hy
        simpa using this
      · cases h
    · rename_i len e ht
      split at h
      · rename_i q s n h1 h2 h3
        cases h
        intro D hD x y b hb φ u v w hx hy
        obtain ⟨D, rfl⟩ : ∃ m, D = m + 1 := ⟨D - 1, by omega⟩
        obtain ⟨xs, rfl, hb1⟩ := onAgg_eq hb
        obtain ⟨ys, rfl, hb2⟩ := onAgg_eq hb1
        simp only [CRel] at hx hy
        obtain ⟨us, rfl, hx⟩ := hx
        obtain ⟨vs, rfl, hy⟩ := hy
        rw [run_equalIn_array w D t e len n us vs ht h3]
        have := eElems_ok (n := n) (eqT_ok d e q h1) h2 (by omega : d ≤ D) hx hy len 0 b w hb2
        simpa using this
      · cases h
    · rename_i e ht; cases h; exact eSl_ok ht
    · rename_i e ht; cases h; exact ePtr_ok ht
    · rename_i k e ht; cases h; exact eMap_ok ht
    · rename_i ht; cases h; exact eFn_ok ht
    · cases h

theorem CRel.no_iface {φ : Phi} {x : AV} {u : Value} (h : CRel φ x u) : u ≠ .nilIface := by
  intro e
  subst e
  cases x with
  | sl b o n c =>
    cases c <;> simp only [CRel] at h
    · obtain ⟨p, _, h⟩ := h; cases h
    · obtain ⟨p, _, _, ⟨_, h, _⟩ | ⟨_, _, _, h⟩⟩ := h <;> cases h
  | bool _ | int _ _ | nilp | nils | nilm | nilfn => simp only [CRel] at h; cases h
  | str _ => simp only [CRel] at h; obtain ⟨_, h, _⟩ := h; cases h
  | ptr _ _ => simp only [CRel] at h; obtain ⟨_, _, h⟩ := h; cases h
  | mp _ => simp only [CRel] at h; obtain ⟨_, _, h⟩ := h; cases h
  | fn _ _ _ => simp only [CRel] at h; obtain ⟨_, _, h, _⟩ := h; cases h
  | agg _ => simp only [CRel] at h; obtain ⟨_, h, _⟩ := h; cases h
  | tup _ => simp only [CRel] at h; obtain ⟨_, h, _⟩ := h; cases h

theorem run_eqGuard_ok {P : Program} {t : TypeId} (hg : P.eqGuardType P.depth t = false) (op : BinOp) (ox oy : Operand) (u v : Value) (hu : u ≠ .nilIface) (w : World) :
    (eqGuard op t ox oy u v).run P w = .ok () w := by
  cases u with
  | nilIface => exact absurd rfl hu
  | agg a => cases v <;> cases op <;> simp [eqGuard, hg]
  | _ => cases op <;> simp [eqGuard]

/-- '==' and '!=' at a type that is compared by 'equal': what 'binOp' comes to. -/
theorem run_eq_any {P : Program} {t : TypeId} {u v : Value} {b : Bool} {w : World} (h : (Op.equal t u v).run P w = .ok b w) (hi : ∀ j m k n, u = .int j m → v = .int k n → False) (hs : ∀ m n, u = .string m → v = .string n → False)
    (hfl : ∀ j m k n, u = .float j m → v = .float k n → False) (hc : ∀ j m n k p q, u = .complex j m n → v = .complex k p q → False) :
    (binOp .eql t u v).run P w = .ok (.bool b) w ∧ (binOp .neq t u v).run P w = .ok (.bool (!b)) w := by
  constructor <;> (cases u <;> cases v <;> first
    | exact (hi _ _ _ _ rfl rfl).elim
    | exact (hs _ _ rfl rfl).elim
    | exact (hfl _ _ _ _ rfl rfl).elim
    | exact (hc _ _ _ _ _ _ rfl rfl).elim
    | (simp only [binOp, Sem.run_bind, h, Result.andThen_ok, Sem.run_pure]; done))

end Go.Ev

/- One operation of the evaluator is what the model does: comparisons, small operations on values. -/
namespace Go.Ev
open Go

section pure
variable {P : Program} {β : Type} {r : β}

/-! ### Binary operations -/

theorem no_guard_int (op : BinOp) (t : TypeId) (ox oy : Operand) (j k : IntKind) (a b : Int) (w : World) : (eqGuard op t ox oy (.int j a) (.int k b)).run P w = .ok () w := by
  cases op <;> simp [eqGuard]
theorem no_guard_str (op : BinOp) (t : TypeId) (ox oy : Operand) (a b : ByteArray) (w : World) : (eqGuard op t ox oy (.string a) (.string b)).run P w = .ok () w := by
  cases op <;> simp [eqGuard]

def BinDoes (P : Program) (op : BinOp) (t : TypeId) (x y v : AV) : Prop :=
  ∀ φ w u u' ox oy, CRel φ x u → CRel φ y u' → ∃ v', (do eqGuard op t ox oy u u'; binOp op t u u' : Sem Value).run P w = .ok v' w ∧ CRel φ v v'

theorem binI_sound {op : BinOp} {f : BF} (hop : intOp op = some f) {x y : AV} {k : AV → Option β} (h : binI f x y k = some r) (t : TypeId) :
    ∃ v, k v = some r ∧ BinDoes P op t x y v := by
  obtain ⟨j, a, rfl, h1⟩ := onInt_eq h
  obtain ⟨j', b, rfl, h2⟩ := onInt_eq h1
  obtain ⟨hk, h3⟩ := bt_eq h2
  have hk := kindEq_eq hk; subst hk
  obtain ⟨v, hv, h4⟩ := ob_eq h3
  refine ⟨v, h4, fun φ w u u' ox oy hx hy => ?_⟩
  simp only [CRel] at hx hy; subst hx hy
  obtain ⟨_, _, v', hr, hc⟩ := intOp_sound (P := P) hop hv w t
  exact ⟨v', by simp [no_guard_int, hr], hc φ⟩
theorem shlH_sound {x y : AV} {k : AV → Option β} (h : binH fShl x y k = some r) (t : TypeId) : ∃ v, k v = some r ∧ BinDoes P .shl t x y v := by
  obtain ⟨j, a, rfl, h1⟩ := onInt_eq h
  obtain ⟨j', b, rfl, h2⟩ := onInt_eq h1
  obtain ⟨v, hv, h4⟩ := ob_eq h2
  refine ⟨v, h4, fun φ w u u' ox oy hx hy => ?_⟩
  simp only [CRel] at hx hy; subst hx hy
  obtain ⟨v', hr, hc⟩ := shl_sound (P := P) (k := j') hv w t
  exact ⟨v', by simp [no_guard_int, hr], hc φ⟩
theorem shrH_sound {x y : AV} {k : AV → Option β} (h : binH fShr x y k = some r) (t : TypeId) : ∃ v, k v = some r ∧ BinDoes P .shr t x y v := by
  obtain ⟨j, a, rfl, h1⟩ := onInt_eq h
  obtain ⟨j', b, rfl, h2⟩ := onInt_eq h1
  obtain ⟨v, hv, h4⟩ := ob_eq h2
  refine ⟨v, h4, fun φ w u u' ox oy hx hy => ?_⟩
  simp only [CRel] at hx hy; subst hx hy
  obtain ⟨v', hr, hc⟩ := shr_sound (P := P) (k := j') hv w t
  exact ⟨v', by simp [no_guard_int, hr], hc φ⟩
theorem binS_sound {op : BinOp} {f : SF} (hop : strOp op = some f) {x y : AV} {k : AV → Option β} (h : binS f x y k = some r) (t : TypeId) :
    ∃ v, k v = some r ∧ BinDoes P op t x y v := by
  obtain ⟨a, rfl, h1⟩ := onStr_eq h
  obtain ⟨b, rfl, h2⟩ := onStr_eq h1
  obtain ⟨v, hv, h3⟩ := ob_eq h2
  refine ⟨v, h3, fun φ w u u' ox oy hx hy => ?_⟩
  simp only [CRel] at hx hy
  obtain ⟨p, rfl, rfl⟩ := hx
  obtain ⟨q, rfl, rfl⟩ := hy
  obtain ⟨_, _, v', hr, hc⟩ := strOp_sound (P := P) hop hv w t
  exact ⟨v', by simp [no_guard_str, hr], hc φ⟩

theorem CRel.int_inv {φ : Phi} {x : AV} {j : IntKind} {m : Int} (h : CRel φ x (.int j m)) : x = .int j m := by
  cases x with
  | sl b o n c =>
    cases c <;> simp only [CRel] at h
    · obtain ⟨p, _, h⟩ := h; cases h
    · obtain ⟨p, _, _, ⟨_, h, _⟩ | ⟨_, _, _, h⟩⟩ := h <;> cases h
  | bool _ | int _ _ | nilp | nils | nilm | nilfn => simp only [CRel] at h; cases h <;> rfl
  | str _ => simp only [CRel] at h; obtain ⟨_, h, _⟩ := h; cases h
  | ptr _ _ => simp only [CRel] at h; obtain ⟨_, _, h⟩ := h; cases h
  | mp _ => simp only [CRel] at h; obtain ⟨_, _, h⟩ := h; cases h
  | fn _ _ _ => simp only [CRel] at h; obtain ⟨_, _, h, _⟩ := h; cases h
  | agg _ => simp only [CRel] at h; obtain ⟨_, h, _⟩ := h; cases h
  | tup _ => simp only [CRel] at h; obtain ⟨_, h, _⟩ := h; cases h
theorem CRel.no_float {φ : Phi} {x : AV} {j : FloatKind} {m : Nat} (h : CRel φ x (.float j m)) : False := by
  cases x with
  | sl b o n c =>
    cases c <;> simp only [CRel] at h
    · obtain ⟨p, _, h⟩ := h; cases h
    · obtain ⟨p, _, _, ⟨_, h, _⟩ | ⟨_, _, _, h⟩⟩ := h <;> cases h
  | bool _ | int _ _ | nilp | nils | nilm | nilfn => simp only [CRel] at h; cases h
  | str _ => simp only [CRel] at h; obtain ⟨_, h, _⟩ := h; cases h
  | ptr _ _ => simp only [CRel] at h; obtain ⟨_, _, h⟩ := h; cases h
  | mp _ => simp only [CRel] at h; obtain ⟨_, _, h⟩ := h; cases h
  | fn _ _ _ => simp only [CRel] at h; obtain ⟨_, _, h, _⟩ := h; cases h
  | agg _ => simp only [CRel] at h; obtain ⟨_, h, _⟩ := h; cases h
  | tup _ => simp only [CRel] at h; obtain ⟨_, h, _⟩ := h; cases h
theorem CRel.no_complex {φ : Phi} {x : AV} {j : FloatKind} {m n : Nat} (h : CRel φ x (.complex j m n)) : False := by
  cases x with
  | sl b o n c =>
    cases c <;> simp only [CRel] at h
    · obtain ⟨p, _, h⟩ := h; cases h
    · obtain ⟨p, _, _, ⟨_, h, _⟩ | ⟨_, _, _, h⟩⟩ := h <;> cases h
  | bool _ | int _ _ | nilp | nils | nilm | nilfn => simp only [CRel] at h; cases h
  | str _ => simp only [CRel] at h; obtain ⟨_, h, _⟩ := h; cases h
  | ptr _ _ => simp only [CRel] at h; obtain ⟨_, _, h⟩ := h; cases h
  | mp _ => simp only [CRel] at h; obtain ⟨_, _, h⟩ := h; cases h
  | fn _ _ _ => simp only [CRel] at h; obtain ⟨_, _, h, _⟩ := h; cases h
  | agg _ => simp only [CRel] at h; obtain ⟨_, h, _⟩ := h; cases h
  | tup _ => simp only [CRel] at h; obtain ⟨_, h, _⟩ := h; cases h
theorem CRel.str_inv {φ : Phi} {x : AV} {m : ByteArray} (h : CRel φ x (.string m)) : ∃ s, x = .str s := by
  cases x with
  | sl b o n c =>
    cases c <;> simp only [CRel] at h
    · obtain ⟨p, _, h⟩ := h; cases h
    · obtain ⟨p, _, _, ⟨_, h, _⟩ | ⟨_, _, _, h⟩⟩ := h <;> cases h
  | bool _ | int _ _ | nilp | nils | nilm | nilfn => simp only [CRel] at h; cases h
  | str _ => exact ⟨_, rfl⟩
  | ptr _ _ => simp only [CRel] at h; obtain ⟨_, _, h⟩ := h; cases h
  | mp _ => simp only [CRel] at h; obtain ⟨_, _, h⟩ := h; cases h
  | fn _ _ _ => simp only [CRel] at h; obtain ⟨_, _, h, _⟩ := h; cases h
  | agg _ => simp only [CRel] at h; obtain ⟨_, h, _⟩ := h; cases h
  | tup _ => simp only [CRel] at h; obtain ⟨_, h, _⟩ := h; cases h

/-- Neither ints nor strings are compared at another type. -/
theorem eqT_shape {d : Nat} {t : TypeId} {f : EF} {D : TypeDesc} (hf : eqT P d t = some f) (ht : P.underlying t = some D) (h1 : ∀ k, D ≠ .int k) (h2 : D ≠ .string) {x y : AV} {b : Bool} (h : f x y = some b) :
    (∀ k n, x ≠ .int k n) ∧ ∀ s, x ≠ .str s := by
  cases d with
  | zero => simp [eqT] at hf
  | succ d =>
    unfold eqT at hf
    rw [ht] at hf
    have bool : eBool x y = some b → (∀ k n, x ≠ .int k n) ∧ ∀ s, x ≠ .str s := by
      intro h; obtain ⟨_, rfl, _⟩ := onBool_eq h; exact ⟨nofun, nofun⟩
    cases D <;> simp only [reduceCtorEq] at hf
    case int k => exact absurd rfl (h1 k)
    case string => exact absurd rfl h2
    case bool => cases hf; exact bool h
    case struct fs =>
      split at hf
      · cases hf; obtain ⟨_, rfl, _⟩ := onAgg_eq h; exact ⟨nofun, nofun⟩
      · cases hf
    case array n e =>
      split at hf
      · cases hf; obtain ⟨_, rfl, _⟩ := onAgg_eq h; exact ⟨nofun, nofun⟩
      · cases hf
    case slice e => cases hf; rcases onSl_eq h with ⟨rfl, _⟩ | ⟨_, _, _, _, rfl, _⟩ <;> exact ⟨nofun, nofun⟩
    case pointer e =>
      cases hf
      rcases bt_eq2 h with ⟨h1, _⟩ | ⟨_, h2⟩
      · have := isNilp_eq h1; subst this; exact ⟨nofun, nofun⟩
      · obtain ⟨_, _, rfl, _⟩ := onPtr_eq h2; exact ⟨nofun, nofun⟩
    case map k e => cases hf; rcases onMap_eq h with ⟨rfl, _⟩ | ⟨_, rfl, _⟩ <;> exact ⟨nofun, nofun⟩
    case func a c e =>
      cases hf
      rcases bt_eq2 h with ⟨h1, _⟩ | ⟨_, h2⟩
      · have := isNilf_eq h1; subst this; exact ⟨nofun, nofun⟩
      · obtain ⟨_, _, _, rfl, _⟩ := onFn_eq h2; exact ⟨nofun, nofun⟩

theorem eqOp_sound {t : TypeId} {f : EF} {D : TypeDesc} (hg : P.eqGuardType P.depth t = false) (hf : eqT P eqDepth t = some f) (ht : P.underlying t = some D) (h1 : ∀ k, D ≠ .int k) (h2 : D ≠ .string)
    {x y : AV} {k : AV → Option β} (neg : Bool) (h : eqOp neg f x y k = some r) : ∃ v, k v = some r ∧ BinDoes P (if neg then .neq else .eql) t x y v := by
  obtain ⟨b, hb, h⟩ := ob_eq h
  refine ⟨_, h, fun φ w u u' ox oy hx hy => ?_⟩
  have he : (Op.equal t u u').run P w = .ok b w := eqT_ok eqDepth t f hf _ (by decide) x y b hb φ u u' w hx hy
  obtain ⟨n1, n2⟩ := eqT_shape hf ht h1 h2 hb
  have ho : ∀ op, (eqGuard op t ox oy u u').run P w = .ok () w := fun op => run_eqGuard_ok hg op ox oy u u' hx.no_iface w
  obtain ⟨e1, e2⟩ := run_eq_any he (fun j m k n eu ev => n1 j m (by subst eu; exact hx.int_inv)) (fun m n eu ev => by subst eu; obtain ⟨s, hs⟩ := hx.str_inv; exact n2 s hs)
    (fun j m k n eu ev => by subst eu; exact hx.no_float) (fun j m n k p q eu ev => by subst eu; exact hx.no_complex)
  cases neg with
  | false => exact ⟨.bool b, by simp [ho, e1], by simp only [CRel, bt_false]⟩
  | true => exact ⟨.bool (!b), by simp [ho, e2], by simp only [CRel, bt_true, bt_not]⟩

/-! ### Small operations -/

theorem pickA_sound {c a b : AV} {k : AV → Option β} (h : pickA c a b k = some r) :
    ∃ v, k v = some r ∧ ∀ φ w c' a' b', CRel φ c c' → CRel φ a a' → CRel φ b b' → ∃ v', (do pure (if ← asBool c' then a' else b') : Sem Value).run P w = .ok v' w ∧ CRel φ v v' := by
  obtain ⟨t, rfl, h⟩ := onBool_eq h
  cases t with
  | true => exact ⟨a, h, fun φ w c' a' b' hc ha hb => ⟨a', by simp only [CRel] at hc; subst hc; simp [asBool], ha⟩⟩
  | false => exact ⟨b, h, fun φ w c' a' b' hc ha hb => ⟨b', by simp only [CRel] at hc; subst hc; simp [asBool], hb⟩⟩
theorem extA_sound {i : Nat} {x : AV} {k : AV → Option β} (h : extA i x k = some r) :
    ∃ v, k v = some r ∧ ∀ φ w u, CRel φ x u → ∃ v', (Instr.extract u i).run P w = .ok v' w ∧ CRel φ v v' := by
  obtain ⟨l, rfl, h⟩ := onTup_eq h
  obtain ⟨v, hv, h⟩ := ob_eq h
  rw [nth_eq] at hv
  refine ⟨v, h, fun φ w u hx => ?_⟩
  simp only [CRel] at hx
  obtain ⟨vs, rfl, hl⟩ := hx
  obtain ⟨v', hv', hr⟩ := hl.get i v hv
  exact ⟨v', by simp [Instr.extract, show vs[i]? = some v' by simpa using hv'], hr⟩
theorem notA_sound {x : AV} {k : AV → Option β} (h : notA x k = some r) : ∃ v, k v = some r ∧ ∀ φ w u, CRel φ x u → ∃ v', (Op.unary .not u).run P w = .ok v' w ∧ CRel φ v v' := by
  obtain ⟨b, rfl, h⟩ := onBool_eq h
  refine ⟨_, h, fun φ w u hx => ?_⟩
  simp only [CRel] at hx; subst hx
  exact ⟨.bool !b, by simp [Op.unary], by simp only [CRel, bt_not]⟩
theorem negA_sound {x : AV} {k : AV → Option β} (h : negA x k = some r) : ∃ v, k v = some r ∧ ∀ φ w u, CRel φ x u → ∃ v', (Op.unary .neg u).run P w = .ok v' w ∧ CRel φ v v' := by
  obtain ⟨j, n, rfl, h⟩ := onInt_eq h
  refine ⟨_, h, fun φ w u hx => ?_⟩
  simp only [CRel] at hx; subst hx
  exact ⟨.int j (j.wrap (0 - n)), by simp [Op.unary, Op.intArith], by simp only [CRel, wrapA_eq, subI_eq]; rfl⟩
theorem chkA_sound {x : AV} {k : AV → Option β} (h : chkA x k = some r) : k x = some r ∧ ((∃ b o, x = .ptr b o) ∨ ∃ g a b, x = .fn g a b) := by
  obtain ⟨hb, h⟩ := bt_eq h
  refine ⟨h, ?_⟩
  cases x <;> first | exact .inl ⟨_, _, rfl⟩ | exact .inr ⟨_, _, _, rfl⟩ | (simp [onPtr, onFn] at hb)
theorem cvA_sound {s d : TypeId} {S : TypeDesc} {j : IntKind} (hs : P.underlying s = some S) (hd : P.underlying d = some (.int j)) {x : AV} {k : AV → Option β} (h : cvA j x k = some r) :
    ∃ v, k v = some r ∧ ∀ φ w u, CRel φ x u → ∃ v', (convert s d u).run P w = .ok v' w ∧ CRel φ v v' := by
  obtain ⟨j', n, rfl, h⟩ := onInt_eq h
  refine ⟨_, h, fun φ w u hx => ?_⟩
  simp only [CRel] at hx; subst hx
  exact ⟨.int j (j.wrap n), by simp [convert, run_underlying hs, run_underlying hd, Conv.intToInt], by simp only [CRel, wrapA_eq]⟩
theorem lenStrA_sound {t : TypeId} {ty : TypeId} {ts : List TypeId} (ht : P.underlying t = some .string) {x : AV} {k : AV → Option β} (h : lenStrA x k = some r) :
    ∃ v, k v = some r ∧ ∀ φ w u, CRel φ x u → ∃ v', (Builtin.len_ (t :: ts).toArray ty #[u]).run P w = .ok v' w ∧ CRel φ v v' := by
  obtain ⟨s, rfl, h⟩ := onStr_eq h
  refine ⟨_, h, fun φ w u hx => ?_⟩
  simp only [CRel] at hx; obtain ⟨b, rfl, rfl⟩ := hx
  refine ⟨goInt b.size, by simp [Builtin.len_, run_underlying ht], ?_⟩
  simp only [CRel, lenL_eq, List.length_map, Array.length_toList]; rfl
theorem slice_len {φ : Phi} {b o n : Nat} {c : ACap} {u : Value} (h : CRel φ (.sl b o n c) u) : ∃ a m, u = .slice (some a) n m := by
  cases c <;> simp only [CRel] at h
  · obtain ⟨p, _, rfl⟩ := h; exact ⟨_, _, rfl⟩
  · obtain ⟨p, _, _, ⟨m, rfl, _⟩ | ⟨rfl, _, a, rfl⟩⟩ := h
    · exact ⟨_, _, rfl⟩
    · exact ⟨_, _, rfl⟩
theorem lenSA_sound {t e : TypeId} {ty : TypeId} {ts : List TypeId} (ht : P.underlying t = some (.slice e)) {x : AV} {k : AV → Option β} (h : lenSA x k = some r) :
    ∃ v, k v = some r ∧ ∀ φ w u, CRel φ x u → ∃ v', (Builtin.len_ (t :: ts).toArray ty #[u]).run P w = .ok v' w ∧ CRel φ v v' := by
  rcases onSl_eq h with ⟨rfl, h⟩ | ⟨b, o, n, c, rfl, h⟩
  · refine ⟨_, h, fun φ w u hx => ?_⟩
    simp only [CRel] at hx; subst hx
    exact ⟨goInt 0, by simp [Builtin.len_, run_underlying ht], by simp only [CRel]; rfl⟩
  · refine ⟨_, h, fun φ w u hx => ?_⟩
    obtain ⟨a, m, rfl⟩ := slice_len hx
    exact ⟨goInt n, by simp [Builtin.len_, run_underlying ht], by simp only [CRel]; rfl⟩
theorem capA_sound {t e : TypeId} {ty : TypeId} {ts : List TypeId} (ht : P.underlying t = some (.slice e)) {x : AV} {k : AV → Option β} (h : capA x k = some r) :
    ∃ v, k v = some r ∧ ∀ φ w u, CRel φ x u → ∃ v', (Builtin.cap_ (t :: ts).toArray ty #[u]).run P w = .ok v' w ∧ CRel φ v v' := by
  rcases onSl_eq h with ⟨rfl, h⟩ | ⟨b, o, n, c, rfl, h⟩
  · refine ⟨_, h, fun φ w u hx => ?_⟩
    simp only [CRel] at hx; subst hx
    exact ⟨goInt 0, by simp [Builtin.cap_, run_underlying ht], by simp only [CRel]; rfl⟩
  · rcases onCap_eq h with ⟨m, rfl, h⟩ | ⟨_, rfl, h⟩
    · refine ⟨_, h, fun φ w u hx => ?_⟩
      simp only [CRel] at hx; obtain ⟨p, _, rfl⟩ := hx
      exact ⟨goInt m, by simp [Builtin.cap_, run_underlying ht], by simp only [CRel]; rfl⟩
    · cases h
theorem lenC_sound {t e : TypeId} {n : Nat} {ty : TypeId} {ts : List TypeId} (ht : P.underlying t = some (.array n e)) (φ : Phi) (w : World) (u : Value) :
    ∃ v', (Builtin.len_ (t :: ts).toArray ty #[u]).run P w = .ok v' w ∧ CRel φ (.int .i64 (.ofNat n)) v' :=
  ⟨goInt n, by simp [Builtin.len_, run_underlying ht], by simp only [CRel]; rfl⟩

/-- The object of a map. -/
theorem RelO.map {φ : Phi} {H : AH} {w : World} (h : RelO φ H w) {m c : Nat} {es : List (AV × AV × Nat)} {p : Pl} (hb : H.get m = some (.map es c)) (hp : φ m = some p) :
    ∃ fs, w.heap[p.c]? = some (.map fs c) ∧ EntRel φ es fs.toList ∧ p.d = 0 := by
  obtain ⟨o, ho, h0, fs, rfl, he⟩ := h.obj m _ p hb hp
  exact ⟨fs, ho, he, h0⟩
theorem run_getObj_at {w : World} {i : Nat} {o : Obj} (h : w.heap[i]? = some o) (hc : ∀ a b c, o ≠ .cells a b c) : (getObj i).run P w = .ok o w := by
  cases o <;> first | exact absurd rfl (hc _ _ _) | simp [getObj, Sem.run, h]
theorem run_setObj_at {w : World} {i : Nat} {o o' : Obj} (h : w.heap[i]? = some o) (hc : ∀ a b c, o ≠ .cells a b c) : (setObj i o').run P w = .ok () { w with heap := w.heap.setIfInBounds i o' } := by
  cases o <;> first | exact absurd rfl (hc _ _ _) | simp [setObj, Sem.run, h]
theorem lenMA_sound {t a e : TypeId} {ty : TypeId} {ts : List TypeId} (ht : P.underlying t = some (.map a e)) {H : AH} {x : AV} {k : AV → Option β} (h : lenMA H x k = some r) :
    ∃ v, k v = some r ∧ ∀ φ w u, RelO φ H w → CRel φ x u → ∃ v', (Builtin.len_ (t :: ts).toArray ty #[u]).run P w = .ok v' w ∧ CRel φ v v' := by
  rcases onMap_eq h with ⟨rfl, h⟩ | ⟨m, rfl, h⟩
  · refine ⟨_, h, fun φ w u _ hx => ?_⟩
    simp only [CRel] at hx; subst hx
    exact ⟨goInt 0, by simp [Builtin.len_, run_underlying ht], by simp only [CRel]; rfl⟩
  · obtain ⟨es, c, hm, h⟩ := onEntries_eq h
    refine ⟨_, h, fun φ w u hR hx => ?_⟩
    simp only [CRel] at hx; obtain ⟨p, hp, rfl⟩ := hx
    obtain ⟨fs, hfs, he, _⟩ := hR.map hm hp
    refine ⟨goInt fs.size, by simp [Builtin.len_, run_underlying ht, run_getObj_at hfs (fun _ _ _ e => by cases e)], ?_⟩
    have := he.length
    simp only [CRel, lenL_eq, ← this, Array.length_toList]; rfl

/-! ### min, max -/

def FoldOk (P : Program) (f : AV → AV → Option AV) (g : Value → Value → Sem Value) : Prop :=
  ∀ x y v, f x y = some v → ∀ φ w a b, CRel φ x a → CRel φ y b → ∃ v', (g a b).run P w = .ok v' w ∧ CRel φ v v'
theorem minI_ok : FoldOk P minI Builtin.min2 := by
  intro x y v h φ w a b hx hy
  obtain ⟨j, m, rfl, h1⟩ := onInt_eq h
  obtain ⟨k, n, rfl, h2⟩ := onInt_eq h1
  simp only [CRel] at hx hy; subst hx hy
  cases h2
  refine ⟨.int j (if n < m then n else m), by simp [Builtin.min2], ?_⟩
  simp only [CRel, ltA_eq]
  by_cases hnm : n < m <;> simp [hnm]
theorem maxI_ok : FoldOk P maxI Builtin.max2 := by
  intro x y v h φ w a b hx hy
  obtain ⟨j, m, rfl, h1⟩ := onInt_eq h
  obtain ⟨k, n, rfl, h2⟩ := onInt_eq h1
  simp only [CRel] at hx hy; subst hx hy
  cases h2
  refine ⟨.int j (if n > m then n else m), by simp [Builtin.max2], ?_⟩
  simp only [CRel, ltA_eq]
  by_cases hnm : m < n <;> simp [hnm]
theorem foldA_ok {f : AV → AV → Option AV} {g : Value → Value → Sem Value} (hf : FoldOk P f g) : ∀ (l : List AV) (x v : AV), foldA f x l = some v → ∀ φ w a us, CRel φ x a → CRelL φ l us →
    ∃ v', (us.foldlM g a).run P w = .ok v' w ∧ CRel φ v v'
  | [], x, v, h, φ, w, a, us, hx, hl => by
    simp only [CRelL] at hl; subst hl
    cases h; exact ⟨a, by simp, hx⟩
  | y :: l, x, v, h, φ, w, a, us, hx, hl => by
    simp only [CRelL] at hl
    obtain ⟨b, us, rfl, hb, hl⟩ := hl
    obtain ⟨z, hz, h⟩ := ob_eq h
    obtain ⟨c, hc, hr⟩ := hf x y z hz φ w a b hx hb
    obtain ⟨v', hv', hr'⟩ := foldA_ok hf l z v h φ w c us hr hl
    exact ⟨v', by simp [hc, hv'], hr'⟩
theorem minL_sound {f : AV → AV → Option AV} {g : Value → Value → Sem Value} (hf : FoldOk P f g) {l : List AV} {k : AV → Option β} (h : minL f l k = some r) :
    ∃ v, k v = some r ∧ ∀ φ w us, CRelL φ l us → ∃ x xs v', us = x :: xs ∧ (xs.foldlM g x).run P w = .ok v' w ∧ CRel φ v v' := by
  cases l with
  | nil => cases h
  | cons x l =>
    obtain ⟨v, hv, h⟩ := ob_eq h
    refine ⟨v, h, fun φ w us hl => ?_⟩
    simp only [CRelL] at hl
    obtain ⟨a, us, rfl, ha, hl⟩ := hl
    obtain ⟨v', h1, h2⟩ := foldA_ok hf l x v hv φ w a us ha hl
    exact ⟨a, us, v', rfl, h1, h2⟩

/-! ### Parts -/

theorem fldA_sound {t : TypeId} {fs : Array Field} {i : Nat} {f : Field} {s : Option Nat} (ht : P.underlying t = some (.struct fs)) (hf : fs[i]? = some f) (hs : shapeA P f.type = some s)
    {x : AV} {k : AV → Option β} (h : fldA s f.offset x k = some r) : ∃ v, k v = some r ∧ ∀ φ w u, CRel φ x u → ∃ v', (Instr.field t u i).run P w = .ok v' w ∧ CRel φ v v' := by
  obtain ⟨cs, rfl, h⟩ := onAgg_eq h
  obtain ⟨v, hv, h⟩ := ob_eq h
  refine ⟨v, h, fun φ w u hx => ?_⟩
  simp only [CRel] at hx
  obtain ⟨us, rfl, hl⟩ := hx
  obtain ⟨v', h1, h2⟩ := partF_sound hs hv hl w
  exact ⟨v', by simpa [Instr.field, run_underlying ht, hf, asAgg] using h1, h2⟩
theorem eltA_sound {t e : TypeId} {len n : Nat} {s : Option Nat} (ht : P.underlying t = some (.array len e)) (hn : sizeA P e = some n) (hs : shapeA P e = some s)
    {x i : AV} {k : AV → Option β} (h : eltA len n s x i k = some r) : ∃ v, k v = some r ∧ ∀ φ w u j, CRel φ x u → CRel φ i j → ∃ v', (Instr.index t u j).run P w = .ok v' w ∧ CRel φ v v' := by
  obtain ⟨cs, rfl, h1⟩ := onAgg_eq h
  obtain ⟨kd, m, rfl, h2⟩ := onInt_eq h1
  obtain ⟨m, rfl, h3⟩ := nat_eq h2
  obtain ⟨hlt, h4⟩ := bt_eq h3
  have hlt := lt_of_blt hlt
  obtain ⟨v, hv, h5⟩ := ob_eq h4
  refine ⟨v, h5, fun φ w u j hx hi => ?_⟩
  simp only [CRel] at hx hi
  obtain ⟨us, rfl, hl⟩ := hx
  subst hi
  obtain ⟨v', h6, h7⟩ := partF_sound hs hv hl w
  refine ⟨v', ?_, h7⟩
  have h6' : (part e us (m * n)).run P w = .ok v' w := by simpa using h6
  simp [Instr.index, run_underlying ht, asIntOf, hlt, run_sizeOf hn, h6']
theorem chrA_sound {t : TypeId} (ht : P.underlying t = some .string) {x i : AV} {k : AV → Option β} (h : chrA x i k = some r) :
    ∃ v, k v = some r ∧ ∀ φ w u j, CRel φ x u → CRel φ i j → ∃ v', (Instr.index t u j).run P w = .ok v' w ∧ CRel φ v v' := by
  obtain ⟨s, rfl, h1⟩ := onStr_eq h
  obtain ⟨kd, m, rfl, h2⟩ := onInt_eq h1
  obtain ⟨m, rfl, h3⟩ := nat_eq h2
  obtain ⟨c, hc, h4⟩ := ob_eq h3
  refine ⟨_, h4, fun φ w u j hx hi => ?_⟩
  simp only [CRel] at hx hi
  obtain ⟨b, rfl, rfl⟩ := hx
  subst hi
  rw [nth_eq, List.getElem?_map] at hc
  cases hb : b.data.toList[m]? with
  | none => simp [hb] at hc
  | some y =>
    simp only [hb, Option.map_some, Option.some.injEq] at hc
    subst hc
    have hb' : b[m]? = some y := by
      obtain ⟨hm, hy⟩ := List.getElem?_eq_some_iff.1 hb
      have hm' : m < b.size := by simpa using hm
      rw [getElem?_pos b m hm']
      congr 1
    refine ⟨.int .u8 (y.toNat : Int), by simp [Instr.index, run_underlying ht, asIntOf, hb'], by simp only [CRel]; rfl⟩
end pure

end Go.Ev

/- One operation of the evaluator is what the model does: constants, slices of slices and strings. -/
namespace Go.Ev
open Go

section consts
variable {P : Program}

theorem constA_mapM {d : Nat} (ih : ∀ (v : Value) (x : AV), constA d v = some x → ∀ φ, CRel φ x v) (φ : Phi) : ∀ (vs : List Value) (xs : List AV), vs.mapM (constA d) = some xs → CRelL φ xs vs
  | [], xs, h => by simp at h; subst h; exact CRelL.nil φ
  | v :: vs, xs, h => by
    rw [List.mapM_cons] at h
    cases hv : constA d v with
    | none => simp [hv] at h
    | some x =>
      cases hr : vs.mapM (constA d) with
      | none => simp [hv, hr] at h
      | some r =>
        simp [hv, hr] at h
        subst h
        exact CRelL.cons (ih v x hv φ) (constA_mapM ih φ vs r hr)
theorem constA_rel : ∀ (d : Nat) (v : Value) (x : AV), constA d v = some x → ∀ φ, CRel φ x v
  | 0, v, x, h, _ => by simp [constA] at h
  | d + 1, v, x, h, φ => by
    unfold constA at h
    split at h
    · cases h; simp only [CRel]
    · cases h; simp only [CRel]
    · cases h; simp only [CRel]; exact ⟨_, rfl, rfl⟩
    · cases h; simp only [CRel]
    · cases h; simp only [CRel]
    · cases h; simp only [CRel]
    · cases h; simp only [CRel]
    · rename_i cs
      cases hr : cs.toList.mapM (constA d) with
      | none => simp [hr] at h
      | some r =>
        simp [hr] at h; subst h
        simp only [CRel]; exact ⟨cs, rfl, constA_mapM (constA_rel d) φ _ _ hr⟩
    · rename_i cs
      cases hr : cs.toList.mapM (constA d) with
      | none => simp [hr] at h
      | some r =>
        simp [hr] at h; subst h
        simp only [CRel]; exact ⟨cs, rfl, constA_mapM (constA_rel d) φ _ _ hr⟩
    · cases h
theorem zeroA_eq {t : TypeId} {z : AV} (h : zeroA P t = some z) : ∃ i v, P.info? t = some i ∧ i.zero = some v ∧ ∀ φ, CRel φ z v := by
  unfold zeroA at h
  cases hi : P.info? t with
  | none => simp [hi] at h
  | some i =>
    cases hz : i.zero with
    | none => simp [hi, hz] at h
    | some v => simp [hi, hz] at h; exact ⟨i, v, rfl, hz, constA_rel 4 v z h⟩
theorem run_zero {t : TypeId} {z : AV} (h : zeroA P t = some z) (w : World) : ∃ v, (zeroValue t).run P w = .ok v w ∧ ∀ φ, CRel φ z v := by
  obtain ⟨i, v, hi, hz, hc⟩ := zeroA_eq h
  exact ⟨v, by simp [zeroValue, typeInfo, hi, hz], hc⟩
theorem cells_size {φ : Phi} {x : AV} {v : Value} (h : CRel φ x v) : v.cells.size = (cellsOf x).length := by
  have := h.cells.length
  simpa using this
end consts

/-! ### Slices -/
section slices
variable {P : Program} {β : Type} {r : β}

def OptRel (φ : Phi) : Option AV → Option Value → Prop
  | none, v => v = none
  | some x, v => ∃ u, v = some u ∧ CRel φ x u

theorem bound_sound {y d i : Nat} {x : Option AV} (h : boundA y x d = some i) :
    (x = none ∧ i = d) ∨ (∃ v, x = some v ∧ i ≤ y ∧ ∀ φ w u code, CRel φ v u → (Instr.sliceBound u y code).run P w = .ok i w) := by
  cases x with
  | none => cases h; exact .inl ⟨rfl, rfl⟩
  | some v =>
    obtain ⟨j, n, rfl, h1⟩ := onInt_eq h
    obtain ⟨m, rfl, h2⟩ := nat_eq h1
    obtain ⟨hle, h3⟩ := bt_eq h2
    have hle := le_of_ble hle
    cases h3
    refine .inr ⟨_, rfl, hle, fun φ w u code hu => ?_⟩
    simp only [CRel] at hu; subst hu
    simp [Instr.sliceBound, asIntOf, hle]

/-- The bounds of a slice expression without a limit. -/
theorem run_bounds {isSlice : Bool} {len cap h l : Nat} {lo hi : Option AV} {lim : Nat} (hlim : lim ≤ cap) (hh : boundA lim hi len = some h) (hl : boundA h lo 0 = some l) (φ : Phi) (w : World) {LO HI : Option Value} (rlo : OptRel φ lo LO) (rhi : OptRel φ hi HI) :
    (Instr.sliceBounds isSlice len cap LO HI none).run P w = .ok (l, h, cap) w := by
  have key : ∀ u, HI = some u → (∀ code, (Instr.sliceBound u cap code).run P w = .ok h w) := by
    intro u hu code
    cases hi with
    | none => simp only [OptRel] at rhi; rw [rhi] at hu; cases hu
    | some v =>
      simp only [OptRel] at rhi
      obtain ⟨u', e, hv⟩ := rhi
      rw [hu] at e; cases e
      obtain ⟨j, n, rfl, h1⟩ := onInt_eq (show onInt (fun _ n => nat n fun i => bt (Nat.ble i lim) (some i) none) v = some h from hh)
      obtain ⟨m, rfl, h2⟩ := nat_eq h1
      obtain ⟨hle, h3⟩ := bt_eq h2
      have hle := le_of_ble hle
      cases h3
      simp only [CRel] at hv; subst hv
      have : h ≤ cap := Nat.le_trans hle hlim
      simp [Instr.sliceBound, asIntOf, this]
  have hd : HI = none → len = h := by
    intro e
    cases hi with
    | none => cases hh; rfl
    | some v => simp only [OptRel] at rhi; obtain ⟨u, e', _⟩ := rhi; rw [e] at e'; cases e'
  rcases bound_sound (P := P) hl with ⟨rfl, rfl⟩ | ⟨v, rfl, hle, hb⟩
  · simp only [OptRel] at rlo; subst rlo
    cases HI with
    | none => have := hd rfl; subst this; simp [Instr.sliceBounds]
    | some u => simp [Instr.sliceBounds, key u rfl]
  · simp only [OptRel] at rlo; obtain ⟨u', rfl, hv⟩ := rlo
    cases HI with
    | none => have := hd rfl; subst this; simp [Instr.sliceBounds, hb φ w u' _ hv]
    | some u => simp [Instr.sliceBounds, key u rfl, hb φ w u' _ hv]
theorem run_bounds3 {len cap m h l : Nat} {lo : Option AV} {hi mx : AV} {lim : Nat} (hlim : lim ≤ cap) (hm : boundA lim (some mx) 0 = some m) (hh : boundA m (some hi) 0 = some h) (hl : boundA h lo 0 = some l) (φ : Phi) (w : World) {LO : Option Value} {HI MX : Value}
    (rlo : OptRel φ lo LO) (rhi : CRel φ hi HI) (rmx : CRel φ mx MX) : (Instr.sliceBounds true len cap LO (some HI) (some MX)).run P w = .ok (l, h, m) w := by
  have hM : ∀ code, (Instr.sliceBound MX cap code).run P w = .ok m w := by
    intro code
    obtain ⟨j, n, rfl, h1⟩ := onInt_eq (show onInt (fun _ n => nat n fun i => bt (Nat.ble i lim) (some i) none) mx = some m from hm)
    obtain ⟨q, rfl, h2⟩ := nat_eq h1
    obtain ⟨hle, h3⟩ := bt_eq h2
    have hle := le_of_ble hle
    cases h3
    simp only [CRel] at rmx; subst rmx
    have : m ≤ cap := Nat.le_trans hle hlim
    simp [Instr.sliceBound, asIntOf, this]
  rcases bound_sound (P := P) hh with ⟨e, _⟩ | ⟨v, e, hle, hb⟩
  · cases e
  · cases e
    rcases bound_sound (P := P) hl with ⟨rfl, rfl⟩ | ⟨v, rfl, hle, hb'⟩
    · simp only [OptRel] at rlo; subst rlo
      simp [Instr.sliceBounds, hM, hb φ w HI _ rhi]
    · simp only [OptRel] at rlo; obtain ⟨u', rfl, hv⟩ := rlo
      simp [Instr.sliceBounds, hM, hb φ w HI _ rhi, hb' φ w u' _ hv]
theorem bound_le {y d i : Nat} {x : Option AV} (h : boundA y x d = some i) : i ≤ y ∨ i = d := by
  rcases bound_sound (P := default) h with ⟨_, h⟩ | ⟨_, _, h, _⟩
  · exact .inr h
  · exact .inl h

def SliceDoes (P : Program) (t : TypeId) (x : AV) (lo hi mx : Option AV) (v : AV) : Prop :=
  ∀ φ w u LO HI MX, CRel φ x u → OptRel φ lo LO → OptRel φ hi HI → OptRel φ mx MX → ∃ v', (Instr.slice t u LO HI MX).run P w = .ok v' w ∧ CRel φ v v'

theorem slStrA_sound {t : TypeId} (ht : P.underlying t = some .string) {x : AV} {lo hi : Option AV} {k : AV → Option β} (h : slStrA x lo hi k = some r) :
    ∃ v, k v = some r ∧ SliceDoes P t x lo hi none v := by
  obtain ⟨s, rfl, h1⟩ := onStr_eq h
  obtain ⟨e, he, h2⟩ := ob_eq h1
  obtain ⟨l, hl, h3⟩ := ob_eq h2
  obtain ⟨q, hq, h4⟩ := ob_eq h3
  refine ⟨_, h4, fun φ w u LO HI MX hx rlo rhi rmx => ?_⟩
  simp only [CRel] at hx
  obtain ⟨b, rfl, rfl⟩ := hx
  simp only [OptRel] at rmx; subst rmx
  have hs : lenL (b.data.toList.map UInt8.toNat) = b.size := by rw [lenL_eq]; simp
  rw [hs] at he
  have hbd := run_bounds (P := P) (isSlice := false) (Nat.le_refl b.size) he hl φ w rlo rhi
  refine ⟨.string (b.extract l e), by simp [Instr.slice, run_underlying ht, hbd], ?_⟩
  simp only [CRel]
  refine ⟨_, rfl, ?_⟩
  obtain ⟨_, rfl⟩ := cut_eq _ hq
  simp [ByteArray.data_extract, ← List.map_drop, ← List.map_take]

theorem slA_sound {t e : TypeId} {n : Nat} (ht : P.underlying t = some (.slice e)) (hn : sizeA P e = some n) {x : AV} {lo hi : Option AV} {k : AV → Option β} (h : slA n x lo hi k = some r) :
    ∃ v, k v = some r ∧ SliceDoes P t x lo hi none v := by
  rcases onSl_eq h with ⟨rfl, h1⟩ | ⟨b, off, len, c, rfl, h1⟩
  · obtain ⟨q, hq, h2⟩ := ob_eq h1
    obtain ⟨l, hl, h3⟩ := ob_eq h2
    refine ⟨_, h3, fun φ w u LO HI MX hx rlo rhi rmx => ?_⟩
    simp only [CRel] at hx; subst hx
    simp only [OptRel] at rmx; subst rmx
    have hbd := run_bounds (P := P) (isSlice := true) (Nat.le_refl 0) hq hl φ w rlo rhi
    have q0 : q = 0 := by rcases bound_le hq with h | h <;> omega
    have l0 : l = 0 := by rcases bound_le hl with h | h <;> omega
    subst q0 l0
    exact ⟨.slice none 0 0, by simp [Instr.slice, run_underlying ht, hbd, run_sizeOf hn], by simp only [CRel]⟩
  · rcases onCap_eq h1 with ⟨m, rfl, h2⟩ | ⟨s, rfl, h2⟩
    · obtain ⟨q, hq, h3⟩ := ob_eq h2
      obtain ⟨l, hl, h4⟩ := ob_eq h3
      obtain ⟨hqm, h5⟩ := bt_eq h4
      refine ⟨_, h5, fun φ w u LO HI MX hx rlo rhi rmx => ?_⟩
      simp only [CRel] at hx
      obtain ⟨p, hp, rfl⟩ := hx
      simp only [OptRel] at rmx; subst rmx
      have hbd := run_bounds (P := P) (isSlice := true) (Nat.le_refl m) hq hl φ w rlo rhi
      by_cases hml : m = l
      · subst hml
        refine ⟨.slice (some ⟨p.c, p.d + off, none⟩) (q - m) (m - m), by simp [Instr.slice, run_underlying ht, hbd, run_sizeOf hn], ?_⟩
        simp only [CRel, slOff, beq_yes rfl, bt_true]
        exact ⟨p, hp, rfl⟩
      · refine ⟨.slice (some ⟨p.c, p.d + (off + l * n), none⟩) (q - l) (m - l), by simp [Instr.slice, run_underlying ht, hbd, run_sizeOf hn, hml, Addr.add_mk, Nat.add_assoc], ?_⟩
        simp only [CRel, slOff, beq_no hml, bt_false]
        exact ⟨p, hp, rfl⟩
    · obtain ⟨q, hq, h3⟩ := ob_eq h2
      obtain ⟨l, hl, h4⟩ := ob_eq h3
      obtain ⟨hsn, h5⟩ := bt_eq h4
      have hsn := eq_of_beq' hsn
      subst hsn
      refine ⟨_, h5, fun φ w u LO HI MX hx rlo rhi rmx => ?_⟩
      simp only [CRel] at hx
      obtain ⟨p, hp, hs, ⟨cap, rfl, hc1, hc2⟩ | ⟨rfl, hc, a, rfl⟩⟩ := hx
      · simp only [OptRel] at rmx; subst rmx
        have hbd := run_bounds (P := P) (isSlice := true) hc2 hq hl φ w rlo rhi
        have hq' : q ≤ len := by rcases bound_le hq with h | h <;> omega
        have hl' : l ≤ q := by rcases bound_le hl with h | h <;> omega
        by_cases hml : cap = l
        · subst hml
          have e1 : q = cap := by omega
          subst e1
          refine ⟨.slice (some ⟨p.c, p.d + off, none⟩) 0 0, by simp [Instr.slice, run_underlying ht, hbd, run_sizeOf hn], ?_⟩
          simp only [CRel]
          exact ⟨p, hp, hs, .inr ⟨Nat.sub_self _, by show p.d + (off + q * s) = p.n; omega, _, rfl⟩⟩
        · refine ⟨.slice (some ⟨p.c, p.d + (off + l * s), none⟩) (q - l) (cap - l), by simp [Instr.slice, run_underlying ht, hbd, run_sizeOf hn, hml, Addr.add_mk, Nat.add_assoc], ?_⟩
          simp only [CRel]
          refine ⟨p, hp, hs, .inl ⟨cap - l, rfl, ?_, by show q - l ≤ cap - l; omega⟩⟩
          show p.d + (off + l * s) + (cap - l) * s = p.n
          rw [Nat.sub_mul]
          have : l * s ≤ cap * s := Nat.mul_le_mul_right _ (by omega)
          omega
      · simp only [OptRel] at rmx; subst rmx
        have hbd := run_bounds (P := P) (isSlice := true) (Nat.le_refl 0) hq hl φ w rlo rhi
        have q0 : q = 0 := by rcases bound_le hq with h | h <;> omega
        have l0 : l = 0 := by rcases bound_le hl with h | h <;> omega
        subst q0 l0
        refine ⟨.slice (some a) 0 0, by simp [Instr.slice, run_underlying ht, hbd, run_sizeOf hn], ?_⟩
        simp only [CRel]
        exact ⟨p, hp, hs, .inr ⟨by first | trivial | rfl, by show p.d + (off + 0 * s) = p.n; omega, a, rfl⟩⟩

theorem sl3A_sound {t e : TypeId} {n : Nat} (ht : P.underlying t = some (.slice e)) (hn : sizeA P e = some n) {x : AV} {lo : Option AV} {hi mx : AV} {k : AV → Option β} (h : sl3A n x lo hi mx k = some r) :
    ∃ v, k v = some r ∧ SliceDoes P t x lo (some hi) (some mx) v := by
  rcases onSl_eq h with ⟨rfl, h1⟩ | ⟨b, off, len, c, rfl, h1⟩
  · cases h1
  · obtain ⟨lim, hlim, h2⟩ := ob_eq h1
    obtain ⟨m, hm, h3⟩ := ob_eq h2
    obtain ⟨q, hq, h4⟩ := ob_eq h3
    obtain ⟨l, hl, h5⟩ := ob_eq h4
    refine ⟨_, h5, fun φ w u LO HI MX hx rlo rhi rmx => ?_⟩
    simp only [OptRel] at rhi rmx
    obtain ⟨HI, rfl, rhi⟩ := rhi
    obtain ⟨MX, rfl, rmx⟩ := rmx
    have key : ∃ p cap, φ b = some p ∧ u = .slice (some ⟨p.c, p.d + off, none⟩) len cap ∧ lim ≤ cap := by
      rcases onCap_eq hlim with ⟨q, rfl, h6⟩ | ⟨s, rfl, h6⟩
      · cases h6
        simp only [CRel] at hx
        obtain ⟨p, hp, rfl⟩ := hx
        exact ⟨p, _, hp, rfl, Nat.le_refl _⟩
      · obtain ⟨h7, h8⟩ := bt_ne h6
        cases h8
        have h7 := ne_of_beq' h7
        simp only [CRel] at hx
        obtain ⟨p, hp, hs, ⟨cap, rfl, hc1, hc2⟩ | ⟨h0, _⟩⟩ := hx
        · exact ⟨p, cap, hp, rfl, hc2⟩
        · exact absurd h0 h7
    obtain ⟨p, cap, hp, rfl, hcap⟩ := key
    have hbd := run_bounds3 (P := P) (len := len) hcap hm hq hl φ w rlo rhi rmx
    by_cases hml : m = l
    · subst hml
      refine ⟨.slice (some ⟨p.c, p.d + off, none⟩) (q - m) (m - m), by simp [Instr.slice, run_underlying ht, hbd, run_sizeOf hn], ?_⟩
      simp only [CRel, slOff, beq_yes rfl, bt_true]
      exact ⟨p, hp, rfl⟩
    · refine ⟨.slice (some ⟨p.c, p.d + (off + l * n), none⟩) (q - l) (m - l), by simp [Instr.slice, run_underlying ht, hbd, run_sizeOf hn, hml, Addr.add_mk, Nat.add_assoc], ?_⟩
      simp only [CRel, slOff, beq_no hml, bt_false]
      exact ⟨p, hp, rfl⟩
theorem run_sliceAt {t : TypeId} {D : TypeDesc} (ht : P.underlying t = some D) (h : ∀ n e, D ≠ .array n e) (x : Value) (lo hi mx : Option Value) (w : World) :
    (Instr.sliceAt t x lo hi mx).run P w = (Instr.slice t x lo hi mx).run P w := by
  cases D <;> first | exact absurd rfl (h _ _) | simp [Instr.sliceAt, run_underlying ht]
end slices

end Go.Ev

/- One operation of the evaluator is what the model does: maps. -/
namespace Go.Ev
open Go

section maps
variable {P : Program} {β : Type} {r : β}

/-! ### Entries -/

theorem EntRel.get {φ : Phi} : ∀ {l : List (AV × AV × Nat)} {es : List MapEntry}, EntRel φ l es → ∀ (i : Nat) (e : AV × AV × Nat), l[i]? = some e → ∃ f, es[i]? = some f ∧ CRel φ e.1 f.key ∧ CRel φ e.2.1 f.val ∧ f.born = e.2.2
  | [], _, _, i, e, he => by simp at he
  | x :: l, es, h, i, e, he => by
    obtain ⟨f, fs, rfl, h1, h2, h3, h4⟩ := h
    cases i with
    | zero => simp at he; subst he; exact ⟨f, by simp, h1, h2, h3⟩
    | succ i => simp at he; obtain ⟨g, hg, hr⟩ := EntRel.get h4 i e he; exact ⟨g, by simpa using hg, hr⟩
theorem EntRel.append {φ : Phi} : ∀ {l m : List (AV × AV × Nat)} {es fs : List MapEntry}, EntRel φ l es → EntRel φ m fs → EntRel φ (l ++ m) (es ++ fs)
  | [], m, es, fs, h, h' => by cases h; simpa using h'
  | x :: l, m, es, fs, h, h' => by
    obtain ⟨f, gs, rfl, h1, h2, h3, h4⟩ := h
    exact ⟨f, gs ++ fs, rfl, h1, h2, h3, EntRel.append h4 h'⟩
theorem setAt_cons (k v : AV) (e : AV × AV × Nat) (es : List (AV × AV × Nat)) (i : Nat) : setAt k v (e :: es) i = if i = 0 then some ((k, v, e.2.2) :: es) else ob (setAt k v es (i - 1)) fun r => some (e :: r) := by
  show (Bool.rec (ob (setAt k v es (Nat.sub i 1)) fun r => some (e :: r)) (some ((k, v, e.2.2) :: es)) (Nat.beq i 0) : Option (List (AV × AV × Nat))) = _
  by_cases h : i = 0
  · subst h; rfl
  · rw [beq_no h, if_neg h]; rfl
theorem EntRel.set {φ : Phi} {k v : AV} {kv vv : Value} (hk : CRel φ k kv) (hv : CRel φ v vv) : ∀ {l l' : List (AV × AV × Nat)} {es : List MapEntry} {i : Nat}, EntRel φ l es → setAt k v l i = some l' →
    EntRel φ l' (es.modify i fun e => { e with key := kv, val := vv })
  | [], l', es, i, h, hs => by cases hs
  | x :: l, l', es, i, h, hs => by
    obtain ⟨f, fs, rfl, h1, h2, h3, h4⟩ := h
    rw [setAt_cons] at hs
    split at hs
    · rename_i h0; subst h0; cases hs
      exact ⟨{ f with key := kv, val := vv }, fs, by simp, hk, hv, h3, h4⟩
    · obtain ⟨q, hq, hr⟩ := ob_eq hs
      cases hr
      cases i with
      | zero => omega
      | succ i => exact ⟨f, _, by simp, h1, h2, h3, EntRel.set hk hv h4 hq⟩

/-! ### Finding a key -/

theorem findA_cons (eq : EF) (k : AV) (e : AV × AV × Nat) (es : List (AV × AV × Nat)) (i : Nat) : findA eq k (e :: es) i = ob (eq k e.1) fun r => bt r (some (some (i, e.2.1))) (findA eq k es (i + 1)) := rfl

def FoundRel (φ : Phi) : Option (Nat × AV) → Option (Nat × Value) → Prop
  | none, q => q = none
  | some p, q => ∃ v, q = some (p.1, v) ∧ CRel φ p.2 v

theorem run_findAsking {kt : TypeId} {d : Nat} {eq : EF} (he : EqOk P d kt eq) (hd : d ≤ Op.maxDepth) {φ : Phi} {k : AV} {kv : Value} (hk : CRel φ k kv) (w : World) : ∀ {es : List (AV × AV × Nat)} {fs : List MapEntry} {i : Nat} {q : Option (Nat × AV)},
    EntRel φ es fs → findA eq k es i = some q → ∃ q', (Instr.findAsking kt kv fs i).run P w = .ok q' w ∧ FoundRel φ q q'
  | [], fs, i, q, h, hf => by
    cases h; cases hf
    exact ⟨none, by simp [Instr.findAsking], by simp only [FoundRel]⟩
  | e :: es, fs, i, q, h, hf => by
    obtain ⟨f, fs, rfl, h1, h2, h3, h4⟩ := h
    rw [findA_cons] at hf
    obtain ⟨b, hb, hf⟩ := ob_eq hf
    have hq : (Op.equal kt kv f.key).run P w = .ok b w := he _ hd k e.1 b hb φ kv f.key w hk h1
    cases b with
    | true =>
      cases hf
      exact ⟨some (i, f.val), by simp [Instr.findAsking, hq], by simp only [FoundRel]; exact ⟨_, rfl, h2⟩⟩
    | false =>
      obtain ⟨q', h5, h6⟩ := run_findAsking he hd hk w h4 hf
      exact ⟨q', by simp [Instr.findAsking, hq, h5], h6⟩

theorem sameNow_equal {kt : TypeId} {D : TypeDesc} (ht : P.underlying kt = some D) {x y : Value} {b : Bool} (h : Instr.sameNow D x y = some b) (w : World) : (Op.equal kt x y).run P w = .ok b w := by
  unfold Instr.sameNow at h
  split at h
  · rename_i k j m k' n
    split at h
    · rename_i e; subst e
      cases h
      exact run_equalIn_int w _ kt _ _ m n ht
    · cases h
  · rename_i m n
    cases h
    have := run_equalIn_string w (Op.maxDepth - 1) kt m n ht
    rw [show Op.maxDepth - 1 + 1 = Op.maxDepth by decide] at this
    show (Op.equalIn Op.maxDepth kt _ _).run P w = _
    rw [this]
    congr 1
    rw [ByteArray.toList_eq, ByteArray.toList_eq]
    have e0 : (m == n) = (m.data == n.data) := by cases m; cases n; rfl
    rw [e0]
    by_cases e : m.data = n.data
    · rw [e]; simp
    · have e2 : ¬ m.data.toList = n.data.toList := fun h => e (Array.ext' h)
      rw [beq_eq_false_iff_ne.2 e2, beq_eq_false_iff_ne.2 e]
  · rename_i m n
    cases h
    exact run_equalIn_bool' w _ kt m n ht
  · cases h
theorem findNow_asking {kt : TypeId} {D : TypeDesc} (ht : P.underlying kt = some D) (k : Value) (w : World) : ∀ (es : List MapEntry) (i : Nat) (q : Option (Nat × Value)), Instr.findNow D k es i = some q → (Instr.findAsking kt k es i).run P w = .ok q w
  | [], i, q, h => by cases h; simp [Instr.findAsking]
  | e :: es, i, q, h => by
    unfold Instr.findNow at h
    split at h
    · rename_i hs; cases h; simp [Instr.findAsking, sameNow_equal ht hs w]
    · rename_i hs; simp [Instr.findAsking, sameNow_equal ht hs w, findNow_asking ht k w es (i + 1) q h]
    · cases h
theorem run_findKey_asking {kt : TypeId} {D : TypeDesc} (ht : P.underlying kt = some D) (k : Value) (w : World) (es : List MapEntry) : (Instr.findKey kt k es).run P w = (Instr.findAsking kt k es).run P w := by
  cases h : Instr.findNow D k es 0 with
  | none => simp [Instr.findKey, run_underlying ht, h]
  | some q => simp [Instr.findKey, run_underlying ht, h, findNow_asking ht k w es 0 q h]

/-! ### Keys -/

def KeyOk (P : Program) (d : Nat) (t : TypeId) (f : KF) : Prop :=
  ∀ D, d ≤ D → ∀ x, f x = true → ∀ φ u w e, CRel φ x u → (Instr.checkKey e D t u).run P w = .ok () w

theorem oc_some_true {α : Type} {x : Option α} {f : α → Bool} (h : oc x false f = true) : ∃ a, x = some a ∧ f a = true := by
  cases x with
  | none => cases h
  | some a => exact ⟨a, rfl, h⟩
theorem bt_true' {b x : Bool} (h : bt b x false = true) : b = true ∧ x = true := by
  cases b with
  | false => cases h
  | true => exact ⟨rfl, h⟩

theorem kFields_ok {d : Nat} {ok : TypeId → Option KF} (hok : ∀ t f, ok t = some f → KeyOk P d t f) : ∀ {fs : List Field} {r : List FieldKey}, fieldKeys ok P fs = some r → ∀ D, d ≤ D → ∀ xs, kFields r xs = true →
    ∀ φ us w e, CRelL φ xs us → (Sem.run P (forIn fs () fun f _ => do
      if f.name ≠ "_" then Instr.checkKey e D f.type (← part f.type us.toArray f.offset)
      pure (ForInStep.yield ())) w) = .ok () w
  | [], r, hr, D, hD, xs, h, φ, us, w, e, hx => by simp
  | f :: fs, r, hr, D, hD, xs, h, φ, us, w, e, hx => by
    simp only [fieldKeys] at hr
    cases hq : fieldKeys ok P fs with
    | none => simp [hq] at hr
    | some q =>
      simp only [hq] at hr
      by_cases hn : f.name = "_"
      · simp only [hn, decide_true, Option.some.injEq] at hr
        subst hr
        have ih := kFields_ok hok hq D hD xs h φ us w e hx
        simp only [List.forIn_cons, hn, ne_eq, not_true_eq_false, if_false, Sem.run_bind, Sem.run_pure, Result.andThen_ok]
        exact ih
      · simp only [hn, decide_false] at hr
        cases hs : shapeA P f.type with
        | none => simp [hs] at hr
        | some s =>
          cases he : ok f.type with
          | none => simp [hs, he] at hr
          | some g =>
            simp only [hs, he, Option.some.injEq] at hr
            subst hr
            have h' : oc (partF s xs f.offset) false (fun a => bt (g a) (kFields q xs) false) = true := h
            obtain ⟨a, ha, h1⟩ := oc_some_true h'
            obtain ⟨h2, h3⟩ := bt_true' h1
            obtain ⟨u, hu, ru⟩ := partF_sound hs ha hx w
            have hb := hok _ _ he D hD a h2 φ u w e ru
            have ih := kFields_ok hok hq D hD xs h3 φ us w e hx
            simp only [List.forIn_cons, hn, ne_eq, not_false_eq_true, if_true, Sem.run_bind, hu, Result.andThen_ok, hb, Sem.run_pure]
            exact ih

theorem kElems_ok {d n : Nat} {el : TypeId} {q : KF} {s : Option Nat} (hq : KeyOk P d el q) (hs : shapeA P el = some s) (hn : sizeA P el = some n) {D : Nat} (hD : d ≤ D) {xs : List AV} {φ : Phi} {us : List Value} (hx : CRelL φ xs us) (e : Bool) :
    ∀ (c i : Nat) (w : World), kElems q s n xs c i = true → Sem.run P (forIn (List.range' i c) () fun i _ => do
      Instr.checkKey e D el (← part el us.toArray (i * (← sizeOf el)))
      pure (ForInStep.yield ())) w = .ok () w
  | 0, i, w, h => by simp
  | c + 1, i, w, h => by
    have h' : oc (partF s xs (i * n)) false (fun a => bt (q a) (kElems q s n xs c (i + 1)) false) = true := h
    obtain ⟨a, ha, h1⟩ := oc_some_true h'
    obtain ⟨h2, h3⟩ := bt_true' h1
    obtain ⟨u, hu, ru⟩ := partF_sound hs ha hx w
    have hb := hq D hD a h2 φ u w e ru
    have ih := kElems_ok hq hs hn hD hx e c (i + 1) w h3
    simp only [List.range'_succ, List.forIn_cons, Sem.run_bind, run_sizeOf hn, hu, Result.andThen_ok, hb, Sem.run_pure]
    exact ih

theorem keyT_ok : ∀ (d : Nat) (t : TypeId) (f : KF), keyT P d t = some f → KeyOk P d t f
  | 0, t, f, h => by simp [keyT] at h
  | d + 1, t, f, h => by
    intro D hD x hx φ u w e hu
    obtain ⟨D, rfl⟩ : ∃ m, D = m + 1 := ⟨D - 1, by omega⟩
    unfold keyT at h
    split at h
    · rename_i k ht
      cases h
      obtain ⟨_, h1, _⟩ := oc_some_true (show oc (onInt (fun _ _ => some ()) x) false (fun _ => true) = true from hx)
      obtain ⟨_, _, rfl, _⟩ := onInt_eq h1
      simp only [CRel] at hu; subst hu
      simp [Instr.checkKey, run_underlying ht]
    · rename_i ht
      cases h
      obtain ⟨_, h1, _⟩ := oc_some_true (show oc (onBool (fun _ => some ()) x) false (fun _ => true) = true from hx)
      obtain ⟨_, rfl, _⟩ := onBool_eq h1
      simp only [CRel] at hu; subst hu
      simp [Instr.checkKey, run_underlying ht]
    · rename_i ht
      cases h
      obtain ⟨_, h1, _⟩ := oc_some_true (show oc (onStr (fun _ => some ()) x) false (fun _ => true) = true from hx)
      obtain ⟨_, rfl, _⟩ := onStr_eq h1
      simp only [CRel] at hu; obtain ⟨_, rfl, _⟩ := hu
      simp [Instr.checkKey, run_underlying ht]
    · rename_i fs ht
      split at h
      · rename_i q hq
        cases h
        obtain ⟨b, h1, h2⟩ := oc_some_true (show oc (onAgg (fun xs => some (kFields q xs)) x) false (fun b => b) = true from hx)
        obtain ⟨xs, rfl, h3⟩ := onAgg_eq h1
        cases h3
        simp only [CRel] at hu
        obtain ⟨us, rfl, hl⟩ := hu
        have := kFields_ok (keyT_ok d) hq D (by omega) xs h2 φ us.toList w e hl
        simp only [Instr.checkKey, run_underlying ht, Sem.run_bind, Result.andThen_ok]
        rw [← Array.forIn_toList]
        simpa using congrArg (fun r => r.andThen fun _ w' => Result.ok () w') this
      · cases h
    · rename_i len el ht
      split at h
      · rename_i q s n h1 h2 h3
        cases h
        obtain ⟨b, h4, h5⟩ := oc_some_true (show oc (onAgg (fun xs => some (kElems q s n xs len 0)) x) false (fun b => b) = true from hx)
        obtain ⟨xs, rfl, h6⟩ := onAgg_eq h4
        cases h6
        simp only [CRel] at hu
        obtain ⟨us, rfl, hl⟩ := hu
        have := kElems_ok (keyT_ok d el q h1) h2 h3 (by omega : d ≤ D) hl e len 0 w h5
        simp only [Instr.checkKey, run_underlying ht, Sem.run_bind, Result.andThen_ok]
        rw [Std.Legacy.Range.forIn_eq_forIn_range']
        simp only [Std.Legacy.Range.size, Nat.sub_zero, Nat.add_sub_cancel, Nat.div_one]
        simpa using congrArg (fun r => r.andThen fun _ w' => Result.ok () w') this
      · cases h
    · cases h

theorem mapT_eq {t kt et : TypeId} (h : mapT P t = some (kt, et)) : P.underlying t = some (.map kt et) := by
  unfold mapT at h
  split at h
  · rename_i k e ht; cases h; exact ht
  · cases h
theorem keyT_under {d : Nat} {t : TypeId} {f : KF} (h : keyT P d t = some f) : ∃ D, P.underlying t = some D := by
  cases d with
  | zero => simp [keyT] at h
  | succ d =>
    unfold keyT at h
    cases ht : P.underlying t with
    | none => rw [ht] at h; cases h
    | some D => exact ⟨D, rfl⟩

/-! ### Lookups -/

theorem lookA_sound {t kt et : TypeId} {ok : KF} {eq : EF} {z : AV} (ht : P.underlying t = some (.map kt et)) (hz : zeroA P et = some z) (hk : keyT P eqDepth kt = some ok) (he : eqT P eqDepth kt = some eq) (two : Bool)
    {H : AH} {x key : AV} {k : AV → Option β} (h : lookA ok eq z two H x key k = some r) :
    ∃ v, k v = some r ∧ ∀ φ w u kv, RelO φ H w → CRel φ x u → CRel φ key kv → ∃ v', (Instr.lookup t u kv two).run P w = .ok v' w ∧ CRel φ v v' := by
  obtain ⟨hok, h1⟩ := bt_eq h
  obtain ⟨q, hq, h2⟩ := ob_eq h1
  obtain ⟨D, hD⟩ := keyT_under hk
  refine ⟨oc q (bt two (.tup [z, .bool false]) z) fun p => bt two (.tup [p.2, .bool true]) p.2, ?_, fun φ w u kv hR hx hkv => ?_⟩
  · cases q with
    | none => exact h2
    | some p => exact h2
  · have hchk : ∀ e, (Instr.checkKey e 10000 kt kv).run P w = .ok () w := fun e => keyT_ok eqDepth kt ok hk 10000 (by decide) key hok φ kv w e hkv
    obtain ⟨zv, hzr, hzc⟩ := run_zero hz w
    have tup : ∀ (a : AV) (v : Value) (b : Bool), CRel φ a v → CRel φ (bt two (.tup [a, .bool b]) a) (if two then .tuple #[v, .bool b] else v) := by
      intro a v b hc
      cases two with
      | true =>
        simp only [bt_true, if_true, CRel]
        exact ⟨_, rfl, CRelL.cons hc (CRelL.one (by simp only [CRel]))⟩
      | false => simpa using hc
    rcases onMap_eq hq with ⟨rfl, h3⟩ | ⟨m, rfl, h3⟩
    · simp only [CRel] at hx; subst hx
      cases h3
      have hf : (Instr.findKey kt kv []).run P w = .ok none w := by simp [run_findKey_asking hD, Instr.findAsking]
      exact ⟨_, by simp [Instr.lookup, run_underlying ht, hchk, hf, hzr], tup z zv false (hzc φ)⟩
    · simp only [CRel] at hx; obtain ⟨p, hp, rfl⟩ := hx
      obtain ⟨es, c, hm, h4⟩ := onEntries_eq h3
      obtain ⟨fs, hfs, hent, _⟩ := hR.map hm hp
      obtain ⟨q', hq', hr⟩ := run_findAsking (eqT_ok eqDepth kt eq he) (by decide) hkv w hent h4
      rw [← run_findKey_asking hD] at hq'
      have hg := run_getObj_at (P := P) hfs (fun _ _ _ e => by cases e)
      cases q with
      | none =>
        simp only [FoundRel] at hr; subst hr
        exact ⟨_, by simp [Instr.lookup, run_underlying ht, hg, hchk, hq', hzr], tup z zv false (hzc φ)⟩
      | some p =>
        simp only [FoundRel] at hr
        obtain ⟨v, rfl, hv⟩ := hr
        exact ⟨_, by simp [Instr.lookup, run_underlying ht, hg, hchk, hq'], tup p.2 v true hv⟩

/-- The object of an iterator. -/
theorem RelO.iter {φ : Phi} {H : AH} {w : World} (h : RelO φ H w) {b m since stepped : Nat} {seen : List Nat} {p : Pl} (hb : H.get b = some (.iter m since seen stepped)) (hp : φ b = some p) :
    ∃ q, φ m = some q ∧ w.heap[p.c]? = some (.mapIter (some q.c) since seen.toArray stepped) ∧ p.d = 0 := by
  obtain ⟨o, ho, h0, q, hq, rfl⟩ := h.obj b _ p hb hp
  exact ⟨q, hq, ho, h0⟩

theorem entryA_sound {H : AH} {x : AV} {k : AV → Option β} (h : entryA H x k = some r) :
    ∃ v, k v = some r ∧ ∀ φ w u, RelO φ H w → CRel φ x u → ∃ v', (Instr.entry u).run P w = .ok v' w ∧ CRel φ v v' := by
  obtain ⟨b, off, rfl, h1⟩ := onPtr_eq h
  obtain ⟨h0, h2⟩ := bt_eq h1
  have h0 := eq_of_beq' h0
  subst h0
  obtain ⟨m, since, seen, stepped, hb, h3⟩ := onIter_eq h2
  obtain ⟨es, c, hm, h4⟩ := onEntries_eq h3
  split at h4
  · rename_i e s
    obtain ⟨h5, h6⟩ := bt_eq h4
    obtain ⟨h7, h8⟩ := bt_eq h6
    have h5 := eq_of_beq' h5
    have h7 := eq_of_beq' h7
    refine ⟨_, h8, fun φ w u hR hx => ?_⟩
    simp only [CRel] at hx
    obtain ⟨p, hp, rfl⟩ := hx
    obtain ⟨q, hq, ho, hd⟩ := hR.iter hb hp
    obtain ⟨fs, hfs, hent, _⟩ := hR.map hm hq
    obtain ⟨f, gs, e1, e2, e3, e4, e5⟩ := hent
    cases e5
    have hfs' : fs = #[f] := by apply Array.ext'; simpa using e1
    subst hfs'
    refine ⟨.tuple #[f.key, f.val], ?_, ?_⟩
    · have hs : f.born = s := by rw [e4, h5]
      simp [Instr.entry, hd, run_getObj_at ho (fun _ _ _ e => by cases e), run_getObj_at hfs (fun _ _ _ e => by cases e), h7, hs]
    · simp only [CRel]
      exact ⟨_, rfl, CRelL.cons e2 (CRelL.one e3)⟩
  · cases h4

end maps

end Go.Ev

