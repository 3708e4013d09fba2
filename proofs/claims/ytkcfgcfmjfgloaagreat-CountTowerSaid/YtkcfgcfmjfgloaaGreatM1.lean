/- natural.Mul and the multiplication of the reference give the limbs of the product, on valid numbers. -/
import Derived.Test.YtkcfgcfmjfgloaaGreatE5
import Derived.Test.YtkcfgcfmjfgloaaGreatT1
namespace Go.Ev.Tw
open Go Go.Ev

def validB (l : List Nat) : Bool := decide (l.length ≤ 1024) && (l.getLast? != some 0)

theorem beq_len {l : List Nat} : ((l.length : Int) == 0) = decide (l = []) := by
  cases l with
  | nil => rfl
  | cons x l => simp; omega

theorem valid53 {H : AH} {v : AV} {l : List Nat} (h : Lim H v l) (lf : Nat) (rec : Rec) : F53 lf rec v H = some (.bool (validB l), H) := by
  unfold F53
  rw [h.len, leq_k]
  by_cases hl : l.length ≤ 1024
  · have e1 : decide ((l.length : Int) ≤ Int.ofNat 1024) = true := by simp <;> omega
    rw [e1]
    simp only [gd_tt]
    rw [h.len]
    rw [show Int.ofNat 0 = (0 : Int) from rfl, eql_k, beq_len]
    cases l with
    | nil => simp [gd_ft, pick_true, validB]
    | cons x l =>
      have e2 : decide (x :: l = []) = false := by simp
      rw [e2]
      simp only [gd_ff]
      rw [h.len, sub_k, wrap_i64 (by simp <;> omega) (by simp at hl ⊢ <;> omega)]
      have e3 : (((x :: l).length : Int) - Int.ofNat 1) = ((l.length : Nat) : Int) := by simp
      rw [e3]
      obtain ⟨n, hn⟩ : ∃ n, (x :: l)[l.length]? = some n := ⟨_, List.getElem?_eq_getElem (by simp)⟩
      obtain ⟨p, hp1, hp2⟩ := h.at hn
      rw [hp1, hp2, neq_k]
      rw [pick_false, pick_true]
      have hlast : (x :: l).getLast? = some n := by rw [List.getLast?_eq_getElem?]; simpa using hn
      have e4 : validB (x :: l) = ((n : Int) != 0) := by
        unfold validB
        rw [hlast, decide_eq_true hl, Bool.true_and]
        simp [bne]
        cases n <;> simp
        omega
      rw [e4]
  · have e1 : decide ((l.length : Int) ≤ Int.ofNat 1024) = false := by simp <;> omega
    rw [e1]
    simp [gd_tf, gd_un, pick_false, validB, hl]
theorem valid56 {H : AH} {v : AV} {l : List Nat} (h : Lim H v l) (lf : Nat) (rec : Rec) : F56 lf rec v H = some (.bool (validB l), H) := valid53 h lf rec

/-- How many of the first n limbs are left without zeros at the end. -/
def trimN (l : List Nat) : Nat → Nat
  | 0 => 0
  | n + 1 => if l[n]? = some 0 then trimN l n else n + 1
theorem trimN_le (l : List Nat) : ∀ n, trimN l n ≤ n
  | 0 => Nat.le_refl _
  | n + 1 => by unfold trimN; split; exact Nat.le_succ_of_le (trimN_le l n); exact Nat.le_refl _

theorem trimLoop {H : AH} {v : AV} {l : List Nat} (h : Lim H v l) (hs : l.length ≤ 1000000) (lf : Nat) (rec : Rec) (kx : AV → AH → Ans) : ∀ (n g : Nat), n ≤ l.length → n < g →
    L143_1 lf rec v kx g (.int .i64 (n : Int)) H = kx (.int .i64 (trimN l n : Int)) H
  | 0, g + 1, _, _ => by
    rw [L143_1, gtr_k]
    have e1 : decide (Int.ofNat 0 < ((0 : Nat) : Int)) = false := by simp
    rw [e1]
    simp only [gd_tf, pick_false, ifA_false]
    rfl
  | n + 1, g + 1, hn, hg => by
    rw [L143_1, gtr_k]
    have e1 : decide (Int.ofNat 0 < ((n + 1 : Nat) : Int)) = true := by simp <;> omega
    rw [e1]
    simp only [gd_tt]
    rw [sub_k, wrap_i64 (by simp <;> omega) (by simp <;> omega)]
    have e3 : (((n + 1 : Nat) : Int) - Int.ofNat 1) = (n : Int) := by simp
    rw [e3]
    obtain ⟨x, hx⟩ : ∃ x, l[n]? = some x := ⟨_, List.getElem?_eq_getElem (by omega)⟩
    obtain ⟨p, hp1, hp2⟩ := h.at hx
    rw [hp1, hp2, eql_k, pick_true]
    unfold trimN
    rw [hx]
    by_cases h0 : x = 0
    · subst h0
      have e4 : (((0 : Nat) : Int) == Int.ofNat 0) = true := rfl
      rw [e4, ifA_true, sub_k, wrap_i64 (by simp <;> omega) (by simp <;> omega), e3, if_pos rfl]
      exact trimLoop h hs lf rec kx n g (by omega) (by omega)
    · have e4 : ((x : Int) == Int.ofNat 0) = false := by simpa using h0
      rw [e4, ifA_false, if_neg (by simpa using h0)]

theorem trim143 {H : AH} {v : AV} {l : List Nat} (h : Lim H v l) (hs : l.length ≤ 1000000) {lf : Nat} (hf : l.length < lf) (rec : Rec) :
    F143 lf rec v H = J143_bba lf rec v (.int .i64 (trimN l l.length : Int)) H := by
  unfold F143
  rw [h.len]
  exact trimLoop h hs lf rec _ _ _ (Nat.le_refl _) hf
end Go.Ev.Tw

/- natural.Mul: the loops. -/
namespace Go.Ev.Tw
open Go Go.Ev

abbrev B32 : Nat := 4294967296
def mulIn (x : Nat) : List Nat → Nat → Nat → List Nat → List Nat × Nat
  | [], _, c, L => (L, c)
  | y :: ys, p, c, L => mulIn x ys (p + 1) ((c + (x * y + L.getD p 0)) / B32) (L.set p ((c + (x * y + L.getD p 0)) % B32))
def mulOut (bl : List Nat) : List Nat → Nat → List Nat → List Nat
  | [], _, L => L
  | x :: xs, i, L => mulOut bl xs (i + 1) ((mulIn x bl i 0 L).1.set (i + bl.length) ((mulIn x bl i 0 L).2))
def Small (l : List Nat) : Prop := ∀ z ∈ l, z < B32
theorem Small.set {l : List Nat} (h : Small l) {p z : Nat} (hz : z < B32) : Small (l.set p z) := by
  intro y hy
  rcases List.mem_or_eq_of_mem_set hy with h1 | rfl
  · exact h y h1
  · exact hz
theorem Small.getD {l : List Nat} (h : Small l) (p : Nat) : l.getD p 0 < B32 := by
  by_cases hp : p < l.length
  · rw [List.getD_eq_getElem?_getD, List.getElem?_eq_getElem hp]; exact h _ (List.getElem_mem hp)
  · rw [List.getD_eq_getElem?_getD, List.getElem?_eq_none (by omega)]; show 0 < B32; decide
theorem step_bd {x y c z : Nat} (hx : x < B32) (hy : y < B32) (hc : c < B32) (hz : z < B32) : c + (x * y + z) < B32 * B32 := by
  have h1 : x * y ≤ (B32 - 1) * (B32 - 1) := Nat.mul_le_mul (by omega) (by omega)
  have h2 : (B32 - 1) * (B32 - 1) + B32 + B32 = B32 * B32 + 1 := by decide
  omega
theorem mulIn_len (x : Nat) : ∀ (ys : List Nat) (p c : Nat) (L : List Nat), (mulIn x ys p c L).1.length = L.length
  | [], _, _, _ => rfl
  | y :: ys, p, c, L => by unfold mulIn; rw [mulIn_len x ys]; simp
theorem mulIn_small (x : Nat) (hx : x < B32) : ∀ (ys : List Nat) (p c : Nat) (L : List Nat), Small ys → c < B32 → Small L → Small (mulIn x ys p c L).1 ∧ (mulIn x ys p c L).2 < B32
  | [], _, _, _, _, hc, hL => ⟨hL, hc⟩
  | y :: ys, p, c, L, hy, hc, hL => by
    unfold mulIn
    have hb := step_bd hx (hy y (by simp)) hc (hL.getD p)
    exact mulIn_small x hx ys _ _ _ (fun z hz => hy z (by simp [hz])) (Nat.div_lt_of_lt_mul hb) (hL.set (Nat.mod_lt _ (by decide)))

/-- The heap in the loops: a block n above a heap H0, that holds the limbs L. -/
def St (H0 : AH) (L : List Nat) (H : AH) : Prop := H.next = H0.next + 1 ∧ H.get H0.next = some (.cells (L.map U)) ∧ ∀ b, b ≠ H0.next → H.get b = H0.get b
def WF (H : AH) : Prop := ∀ b o, H.get b = some o → b < H.next
theorem St.lim {H0 H : AH} {L : List Nat} (h : St H0 L H) (hw : WF H0) {v : AV} {l : List Nat} (hl : Lim H0 v l) : Lim H v l :=
  hl.mono fun b o hb => by rw [h.2.2 b (by have := hw b o hb; omega)]; exact hb
theorem St.put {H0 H : AH} {L : List Nat} (h : St H0 L H) {p z : Nat} : St H0 (L.set p z) (H.put H0.next (.cells ((L.map U).set p (U z)))) := by
  refine ⟨h.1, ?_, fun b hb => ?_⟩
  · rw [AH.get_put, if_pos rfl, List.map_set]
  · rw [AH.get_put, if_neg hb]; exact h.2.2 b hb

theorem nth_map {L : List Nat} {p : Nat} (hp : p < L.length) : nth (L.map U) p = some (U (L.getD p 0)) := by
  rw [nth_eq, List.getElem?_map, List.getElem?_eq_getElem hp, List.getD_eq_getElem?_getD, List.getElem?_eq_getElem hp]; rfl

theorem rdA_ld {H : AH} {p w : AV} (h : ∀ {β : Type} (k : AV → Option β), ldA H p k = k w) : rdA (fun k => ldA H p fun v => k v H) = some w := by
  show ob (ldA H p fun v => some (v, H)) (fun r => un r fun v _ => some v) = _
  rw [h]; rfl

theorem inner121 {H0 : AH} (hw : WF H0) {a b : AV} {al bl : List Nat} (ha : Lim H0 a al) (hb : Lim H0 b bl) (hsa : al.length ≤ 1024) (hsb : bl.length ≤ 1024) (hxa : Small al) (hxb : Small bl)
    {i x : Nat} (hi : al[i]? = some x) (lf : Nat) (rec : Rec) (t25 t26 : AV) (kx : AV → AH → Ans) (cap : ACap) : ∀ (ys : List Nat) (j c : Nat) (L : List Nat) (H : AH) (g : Nat),
    bl.drop j = ys → St H0 L H → L.length = al.length + bl.length → Small L → c < B32 → j + ys.length = bl.length → ys.length < g →
    ∃ H', St H0 (mulIn x ys (i + j) c L).1 H' ∧ L121_2 lf rec a b (.sl H0.next 0 (al.length + bl.length) cap) (.int .i64 (i : Int)) t25 t26 (.int .i64 (bl.length : Int)) kx g (.int .u64 (c : Int)) (.int .i64 (j : Int)) H = kx (.int .u64 ((mulIn x ys (i + j) c L).2 : Int)) H'
  | [], j, c, L, H, g + 1, hd, hS, hL, hsL, hc, hj, hg => by
    refine ⟨H, hS, ?_⟩
    rw [L121_2, lss_k]
    have e1 : decide ((j : Int) < (bl.length : Int)) = false := by simp at hj ⊢; omega
    rw [e1, ifA_false]; rfl
  | y :: ys, j, c, L, H, g + 1, hd, hS, hL, hsL, hc, hj, hg => by
    simp only [List.length_cons] at hj hg
    have hjl : j < bl.length := by omega
    have hil : i < al.length := (List.getElem?_eq_some_iff.1 hi).1
    have hbj : bl[j]? = some y := by
      have := congrArg (fun l => l[0]?) hd
      simpa using this
    have hdr : bl.drop (j + 1) = ys := by
      have := congrArg List.tail hd
      simpa [List.tail_drop] using this
    have hx : x < B32 := hxa x (List.mem_of_getElem? hi)
    have hy : y < B32 := hxb y (List.mem_of_getElem? hbj)
    have hz := hsL.getD (i + j)
    have hbd := step_bd hx hy hc hz
    have hp : i + j < L.length := by omega
    obtain ⟨H', hS', hrun⟩ := inner121 hw ha hb hsa hsb hxa hxb hi lf rec t25 t26 kx cap ys (j + 1) ((c + (x * y + L.getD (i + j) 0)) / B32) (L.set (i + j) ((c + (x * y + L.getD (i + j) 0)) % B32))
      (H.put H0.next (.cells ((L.map U).set (i + j) (U ((c + (x * y + L.getD (i + j) 0)) % B32))))) g hdr hS.put (by simp [hL]) (hsL.set (Nat.mod_lt _ (by decide))) (Nat.div_lt_of_lt_mul hbd) (by omega) (by omega)
    refine ⟨H', by unfold mulIn; exact hS', ?_⟩
    obtain ⟨pa, pa1, pa2⟩ := (hS.lim hw ha).at hi
    obtain ⟨pb, pb1, pb2⟩ := (hS.lim hw hb).at hbj
    rw [L121_2, lss_k]
    have e1 : decide ((j : Int) < (bl.length : Int)) = true := by simp; omega
    rw [e1, ifA_true, pa1, pa2]
    rw [pendR_of (w := U x) (rdA_ld pa2)]
    rw [cv_k, pb1, pb2]
    rw [pendR_of (w := U y) (rdA_ld pb2)]
    rw [cv_k, mul_k, add_k, wrap_i64 (n := (i : Int) + (j : Int)) (by omega) (by omega)]
    have e2 : (i : Int) + (j : Int) = ((i + j : Nat) : Int) := by omega
    rw [e2, ixs_sl (by omega)]
    have e3 : 0 + (i + j) * 1 = i + j := by omega
    rw [e3]
    have hld : ∀ {β : Type} (k : AV → Option β), ldA H (.ptr H0.next (i + j)) k = k (U (L.getD (i + j) 0)) := fun k => ld_get hS.2.1 (nth_map hp) k
    rw [hld]
    rw [pendR_of (w := U (L.getD (i + j) 0)) (rdA_ld hld)]
    rw [cv_k, add_k, add_k]
    have hx' : x < 4294967296 := hx
    have hy' : y < 4294967296 := hy
    have hz' : L.getD (i + j) 0 < 4294967296 := hz
    have hc' : c < 4294967296 := hc
    have hBB : B32 * B32 = 18446744073709551616 := by decide
    rw [hBB] at hbd
    have w1 : IntKind.u64.wrap (x : Int) = (x : Int) := by rw [wrap_u64]; omega
    have w2 : IntKind.u64.wrap (y : Int) = (y : Int) := by rw [wrap_u64]; omega
    have w3 : IntKind.u64.wrap ((L.getD (i + j) 0 : Nat) : Int) = ((L.getD (i + j) 0 : Nat) : Int) := by rw [wrap_u64]; omega
    have w4 : IntKind.u64.wrap ((x : Int) * (y : Int)) = ((x * y : Nat) : Int) := by rw [wrap_u64, ← Int.natCast_mul]; omega
    have w5 : IntKind.u64.wrap (((x * y : Nat) : Int) + ((L.getD (i + j) 0 : Nat) : Int)) = ((x * y + L.getD (i + j) 0 : Nat) : Int) := by rw [wrap_u64]; omega
    have w6 : IntKind.u64.wrap ((c : Int) + ((x * y + L.getD (i + j) 0 : Nat) : Int)) = ((c + (x * y + L.getD (i + j) 0) : Nat) : Int) := by rw [wrap_u64]; omega
    rw [w1, w2, w3, w4, w5, w6, add_k, wrap_i64 (n := (i : Int) + (j : Int)) (by omega) (by omega), cv_k, wrap_u32, e2, ixs_sl (by omega), e3]
    have e4 : (((c + (x * y + L.getD (i + j) 0) : Nat) : Int) % 4294967296) = (((c + (x * y + L.getD (i + j) 0)) % B32 : Nat) : Int) := by simp
    rw [e4]
    show stA 1 H (.ptr H0.next (i + j)) [U ((c + (x * y + L.getD (i + j) 0)) % B32)] _ = _
    rw [st_one hS.2.1 (by simpa using hp) rfl]
    rw [show (Int.ofNat 32) = ((32 : Nat) : Int) from rfl, shr_k _ _ _ _ (by decide), show (Int.ofNat 1) = (1 : Int) from rfl, add_k, wrap_i64 (by omega) (by omega)]
    have e5 : 2 ^ (min 32 IntKind.u64.bits) = B32 := by decide
    have e6 : (j : Int) + 1 = ((j + 1 : Nat) : Int) := by simp
    rw [e5, e6]
    have e7 : i + j + 1 = i + (j + 1) := by omega
    rw [show mulIn x (y :: ys) (i + j) c L = mulIn x ys (i + j + 1) ((c + (x * y + L.getD (i + j) 0)) / B32) (L.set (i + j) ((c + (x * y + L.getD (i + j) 0)) % B32)) from rfl, e7]
    exact hrun

theorem J121_of {H0 : AH} {a b : AV} {bl : List Nat} {H : AH} {L : List Nat} (hS : St H0 L H) (hb : Lim H b bl) (lf : Nat) (rec : Rec) (t25 : AV) (c : AV → AH → Ans) (kx0 : AH → Ans) {i n : Nat} (hi : i + bl.length < L.length) (hL : L.length = n) (hn : n ≤ 2048) (cap : ACap) {z : Nat} (hz : z < B32) :
    J121_bbbabklbbakbba lf rec a b (.sl H0.next 0 n cap) t25 c kx0 (.int .i64 (i : Int)) (.int .u64 (z : Int)) (.int .i64 (i : Int)) H = c (.int .i64 ((i + 1 : Nat) : Int)) (H.put H0.next (.cells ((L.map U).set (i + bl.length) (U z)))) := by
  unfold J121_bbbabklbbakbba
  rw [hb.len, add_k, wrap_i64 (by omega) (by omega), cv_k, wrap_u32]
  have e1 : (i : Int) + (bl.length : Int) = ((i + bl.length : Nat) : Int) := by omega
  have e2 : (z : Int) % 4294967296 = (z : Int) := by have : z < 4294967296 := hz; omega
  rw [e1, e2, ixs_sl (by omega)]
  show stA 1 H (.ptr H0.next (0 + (i + bl.length) * 1)) [U z] _ = _
  rw [show 0 + (i + bl.length) * 1 = i + bl.length from by omega, st_one hS.2.1 (by simpa using hi) rfl, show (Int.ofNat 1) = (1 : Int) from rfl, add_k, wrap_i64 (by omega) (by omega)]
  rfl

theorem outer121 {H0 : AH} (hw : WF H0) {a b : AV} {al bl : List Nat} (ha : Lim H0 a al) (hb : Lim H0 b bl) (hsa : al.length ≤ 1024) (hsb : bl.length ≤ 1024) (hxa : Small al) (hxb : Small bl)
    {lf : Nat} (hlf : bl.length < lf) (rec : Rec) (kx : AH → Ans) (cap : ACap) : ∀ (xs : List Nat) (i : Nat) (L : List Nat) (H : AH) (g : Nat),
    al.drop i = xs → St H0 L H → L.length = al.length + bl.length → Small L → i + xs.length = al.length → xs.length < g →
    ∃ H', St H0 (mulOut bl xs i L) H' ∧ L121_1 lf rec a b (.sl H0.next 0 (al.length + bl.length) cap) (.int .i64 (al.length : Int)) kx g (.int .i64 (i : Int)) H = kx H'
  | [], i, L, H, g + 1, hd, hS, hL, hsL, hi, hg => by
    refine ⟨H, hS, ?_⟩
    rw [L121_1, lss_k]
    have e1 : decide ((i : Int) < (al.length : Int)) = false := by simp at hi ⊢; omega
    rw [e1, ifA_false]
  | x :: xs, i, L, H, g + 1, hd, hS, hL, hsL, hi, hg => by
    simp only [List.length_cons] at hi hg
    have hxi : al[i]? = some x := by
      have := congrArg (fun l => l[0]?) hd
      simpa using this
    have hdr : al.drop (i + 1) = xs := by
      have := congrArg List.tail hd
      simpa [List.tail_drop] using this
    have hx : x < B32 := hxa x (List.mem_of_getElem? hxi)
    have hsm := mulIn_small x hx bl i 0 L hxb (by decide) hsL
    have hlen := mulIn_len x bl i 0 L
    rw [L121_1, lss_k]
    have e1 : decide ((i : Int) < (al.length : Int)) = true := by simp; omega
    rw [e1, ifA_true, (hS.lim hw hb).len]
    obtain ⟨H1, hS1, hr1⟩ := inner121 hw ha hb hsa hsb hxa hxb hxi lf rec (.int .i64 (al.length : Int)) (.int .i64 (i : Int))
      (fun w8 H => J121_bbbabklbbakbba lf rec a b (.sl H0.next 0 (al.length + bl.length) cap) (.int .i64 (al.length : Int)) (L121_1 lf rec a b (.sl H0.next 0 (al.length + bl.length) cap) (.int .i64 (al.length : Int)) kx g) kx (.int .i64 (i : Int)) w8 (.int .i64 (i : Int)) H)
      cap bl 0 0 L H lf (by simp) hS hL hsL (by decide) (by omega) hlf
    simp only [Nat.add_zero] at hS1 hr1
    obtain ⟨H2, hS2, hr2⟩ := outer121 hw ha hb hsa hsb hxa hxb hlf rec kx cap xs (i + 1) ((mulIn x bl i 0 L).1.set (i + bl.length) ((mulIn x bl i 0 L).2))
      (H1.put H0.next (.cells (((mulIn x bl i 0 L).1.map U).set (i + bl.length) (U (mulIn x bl i 0 L).2)))) g hdr hS1.put (by simp [hlen, hL]) (hsm.1.set hsm.2) (by omega) (by omega)
    refine ⟨H2, hS2, ?_⟩
    rw [← hr2]
    refine Eq.trans hr1 ?_
    exact J121_of hS1 (hS1.lim hw hb) lf rec _ _ _ (by rw [hlen]; omega) (by rw [hlen]; omega) (by omega) cap hsm.2
end Go.Ev.Tw

/- The limbs of a product. -/
namespace Go.Ev.Tw
open Go Go.Ev

def val : List Nat → Nat
  | [] => 0
  | x :: l => x + B32 * val l
def toL : Nat → Nat → List Nat
  | 0, _ => []
  | k + 1, n => n % B32 :: toL k (n / B32)
theorem toL_val : ∀ (l : List Nat), Small l → toL l.length (val l) = l
  | [], _ => rfl
  | x :: l, h => by
    have hx : x < B32 := h x (by simp)
    have e1 : (x + B32 * val l) % B32 = x := by rw [Nat.add_mul_mod_self_left, Nat.mod_eq_of_lt hx]
    have e2 : (x + B32 * val l) / B32 = val l := by rw [Nat.add_mul_div_left _ _ (by decide), Nat.div_eq_of_lt hx, Nat.zero_add]
    show (x + B32 * val l) % B32 :: toL l.length ((x + B32 * val l) / B32) = _
    rw [e1, e2, toL_val l fun z hz => h z (by simp [hz])]
theorem val_set : ∀ (l : List Nat) (p z : Nat), p < l.length → val (l.set p z) + B32 ^ p * l.getD p 0 = val l + B32 ^ p * z
  | [], p, z, h => by simp at h
  | x :: l, 0, z, _ => by simp [val]; omega
  | x :: l, p + 1, z, h => by
    have ih := val_set l p z (by simpa using h)
    have e1 : B32 * (val (l.set p z) + B32 ^ p * l.getD p 0) = B32 * (val l + B32 ^ p * z) := by rw [ih]
    simp only [List.set_cons_succ, val, List.getD_cons_succ, Nat.pow_succ]
    rw [Nat.mul_add, Nat.mul_add] at e1
    have e2 : B32 ^ p * B32 * l.getD p 0 = B32 * (B32 ^ p * l.getD p 0) := by rw [Nat.mul_comm (B32 ^ p) B32, Nat.mul_assoc]
    have e3 : B32 ^ p * B32 * z = B32 * (B32 ^ p * z) := by rw [Nat.mul_comm (B32 ^ p) B32, Nat.mul_assoc]
    rw [e2, e3]
    omega
theorem val_replicate : ∀ n, val (List.replicate n 0) = 0
  | 0 => rfl
  | n + 1 => by simp [List.replicate_succ, val, val_replicate n]

theorem mulIn_val (x : Nat) : ∀ (ys : List Nat) (p c : Nat) (L : List Nat), p + ys.length ≤ L.length →
    val (mulIn x ys p c L).1 + B32 ^ (p + ys.length) * (mulIn x ys p c L).2 = val L + B32 ^ p * (c + x * val ys)
  | [], p, c, L, _ => by simp [mulIn, val]
  | y :: ys, p, c, L, h => by
    simp only [List.length_cons] at h
    have ih := mulIn_val x ys (p + 1) ((c + (x * y + L.getD p 0)) / B32) (L.set p ((c + (x * y + L.getD p 0)) % B32)) (by simp; omega)
    have hs := val_set L p ((c + (x * y + L.getD p 0)) % B32) (by omega)
    have hd := Nat.mod_add_div (c + (x * y + L.getD p 0)) B32
    unfold mulIn
    simp only [List.length_cons, val]
    have e0 : p + (ys.length + 1) = p + 1 + ys.length := by omega
    rw [e0, ih]
    generalize (c + (x * y + L.getD p 0)) % B32 = m at *
    generalize (c + (x * y + L.getD p 0)) / B32 = q at *
    generalize val (L.set p m) = v1 at *
    generalize L.getD p 0 = t at *
    have e1 : B32 ^ (p + 1) * (q + x * val ys) = B32 ^ p * (B32 * q) + B32 ^ p * (B32 * (x * val ys)) := by
      rw [Nat.pow_succ, Nat.mul_assoc, Nat.mul_add, Nat.mul_add]
    have e2 : B32 ^ p * (c + x * (y + B32 * val ys)) = B32 ^ p * (c + x * y) + B32 ^ p * (B32 * (x * val ys)) := by
      rw [← Nat.mul_add]; congr 1; rw [Nat.mul_add, Nat.mul_left_comm x B32]; omega
    rw [e1, e2]
    have e3 : B32 ^ p * m + B32 ^ p * (B32 * q) = B32 ^ p * (c + x * y) + B32 ^ p * t := by
      rw [← Nat.mul_add, ← Nat.mul_add, hd]; congr 1; omega
    omega
theorem mulIn_getD (x : Nat) : ∀ (ys : List Nat) (p c : Nat) (L : List Nat) (r : Nat), p + ys.length ≤ r → (mulIn x ys p c L).1.getD r 0 = L.getD r 0
  | [], _, _, _, _, _ => rfl
  | y :: ys, p, c, L, r, h => by
    simp only [List.length_cons] at h
    unfold mulIn
    rw [mulIn_getD x ys _ _ _ r (by omega)]
    rw [List.getD_eq_getElem?_getD, List.getElem?_set_ne (by omega), ← List.getD_eq_getElem?_getD]
theorem mulOut_val (bl : List Nat) : ∀ (xs : List Nat) (i : Nat) (L : List Nat), i + xs.length + bl.length ≤ L.length → (∀ r, i + bl.length ≤ r → L.getD r 0 = 0) →
    val (mulOut bl xs i L) = val L + B32 ^ i * (val xs * val bl)
  | [], i, L, _, _ => by simp [mulOut, val]
  | x :: xs, i, L, h, h0 => by
    simp only [List.length_cons] at h
    have hv := mulIn_val x bl i 0 L (by omega)
    have hlen := mulIn_len x bl i 0 L
    have hg := mulIn_getD x bl i 0 L
    unfold mulOut
    generalize (mulIn x bl i 0 L).1 = R at *
    generalize (mulIn x bl i 0 L).2 = c at *
    have hs := val_set R (i + bl.length) c (by omega)
    rw [hg _ (Nat.le_refl _), h0 _ (Nat.le_refl _), Nat.mul_zero, Nat.add_zero] at hs
    rw [mulOut_val bl xs (i + 1) _ (by simp; omega) (by
      intro r hr
      rw [List.getD_eq_getElem?_getD, List.getElem?_set_ne (by omega), ← List.getD_eq_getElem?_getD, hg r (by omega), h0 r (by omega)])]
    rw [hs, hv]
    simp only [val, Nat.zero_add]
    have e1 : B32 ^ (i + 1) * (val xs * val bl) = B32 ^ i * (B32 * val xs * val bl) := by
      rw [Nat.pow_succ, Nat.mul_assoc, Nat.mul_assoc B32]
    rw [e1, Nat.add_assoc, ← Nat.mul_add, ← Nat.add_mul]
theorem mulOut_len (bl : List Nat) : ∀ (xs : List Nat) (i : Nat) (L : List Nat), (mulOut bl xs i L).length = L.length
  | [], _, _ => rfl
  | x :: xs, i, L => by unfold mulOut; rw [mulOut_len bl xs]; simp [mulIn_len]
theorem mulOut_small (bl : List Nat) (hb : Small bl) : ∀ (xs : List Nat) (i : Nat) (L : List Nat), Small xs → Small L → Small (mulOut bl xs i L)
  | [], _, _, _, hL => hL
  | x :: xs, i, L, hx, hL => by
    unfold mulOut
    have h := mulIn_small x (hx x (by simp)) bl i 0 L hb (by decide) hL
    exact mulOut_small bl hb xs _ _ (fun z hz => hx z (by simp [hz])) (h.1.set h.2)
theorem Small.replicate (n : Nat) : Small (List.replicate n 0) := by
  intro z hz
  rw [(List.mem_replicate.1 hz).2]; decide
/-- The limbs of the product. -/
def prodL (al bl : List Nat) : List Nat := toL (al.length + bl.length) (val al * val bl)
theorem mulOut_eq {al bl : List Nat} (ha : Small al) (hb : Small bl) : mulOut bl al 0 (List.replicate (al.length + bl.length) 0) = prodL al bl := by
  have hs := mulOut_small bl hb al 0 _ ha (Small.replicate (al.length + bl.length))
  have hl := mulOut_len bl al 0 (List.replicate (al.length + bl.length) 0)
  have hv := mulOut_val bl al 0 (List.replicate (al.length + bl.length) 0) (by simp) (by
    intro r _
    rw [List.getD_eq_getElem?_getD, List.getElem?_replicate]
    split <;> rfl)
  rw [val_replicate] at hv
  have e := toL_val _ hs
  rw [hl, hv, List.length_replicate] at e
  simpa [prodL] using e.symm
theorem prodL_len (al bl : List Nat) : (prodL al bl).length = al.length + bl.length := by
  unfold prodL
  generalize val al * val bl = n
  generalize al.length + bl.length = k
  induction k generalizing n with
  | zero => rfl
  | succ k ih => simp [toL, ih]
end Go.Ev.Tw

/- natural.Mul. -/
namespace Go.Ev.Tw
open Go Go.Ev Go.Proofs

/-- What Mul gives back: the value, the error. -/
def mulV (n la lb m : Nat) : AV := if 1024 < m then .tup [.nils, .int .i64 2] else .tup [.sl n 0 m (.ex (la + lb)), .int .i64 0]

theorem slOff0 (m n : Nat) : slOff m 0 0 n = 0 := by
  show bt (Nat.beq m 0) 0 (0 + 0 * n) = 0
  cases Nat.beq m 0
  · show 0 + 0 * n = 0; omega
  · rfl
theorem St.out {H0 H : AH} {L : List Nat} (h : St H0 L H) (cap : ACap) : Lim H (.sl H0.next 0 L.length cap) L :=
  .inr ⟨H0.next, 0, cap, _, rfl, h.2.1, fun i n hi => by
    have hlt := (List.getElem?_eq_some_iff.1 hi).1
    rw [Nat.zero_add, nth_map hlt, List.getD_eq_getElem?_getD, hi]; rfl⟩

theorem J143_of {H : AH} (n c m : Nat) (hm : m ≤ c) (lf : Nat) (rec : Rec) :
    J143_bba lf rec (.sl n 0 c (.ex c)) (.int .i64 (m : Int)) H = some ((if 1024 < m then .tup [.nils, .int .i64 2] else .tup [.sl n 0 m (.ex c), .int .i64 0]), H) := by
  unfold J143_bba
  rw [gtr_k]
  by_cases h : 1024 < m
  · have e1 : decide (Int.ofNat 1024 < (m : Int)) = true := by simp; omega
    rw [e1, ifA_true, if_pos h]; rfl
  · have e1 : decide (Int.ofNat 1024 < (m : Int)) = false := by simp; omega
    rw [e1, ifA_false, slA_ex _ _ _ _ _ _ hm, slOff0, if_neg h]; rfl

theorem mul121 {H : AH} (hw : WF H) {a b : AV} {al bl : List Nat} (ha : Lim H a al) (hb : Lim H b bl) (hxa : Small al) (hxb : Small bl) (hva : validB al = true) (hvb : validB bl = true)
    {lf : Nat} (hlf : 2100 ≤ lf) {rec rec2 : Rec} (h53 : ∀ v H, rec 53 [v] H = F53 lf rec2 v H) (h143 : ∀ v H, rec 143 [v] H = F143 lf rec2 v H) :
    ∃ H', St H (prodL al bl) H' ∧ F121 lf rec a b H = some (mulV H.next al.length bl.length (trimN (prodL al bl) (prodL al bl).length), H') := by
  have hsa : al.length ≤ 1024 := by simp [validB] at hva; omega
  have hsb : bl.length ≤ 1024 := by simp [validB] at hvb; omega
  have hS0 : St H (List.replicate (al.length + bl.length) 0) (H.ext (.cells (List.replicate (al.length + bl.length) (U 0)))) := by
    refine ⟨rfl, ?_, fun b hb => ?_⟩
    · rw [AH.get_ext, if_pos rfl, List.map_replicate]
    · rw [AH.get_ext, if_neg hb]
  obtain ⟨H', hS', hrun⟩ := outer121 hw ha hb hsa hsb hxa hxb (lf := lf) (by omega) rec (fun H1 => J121_bbba lf rec (.sl H.next 0 (al.length + bl.length) (.ex (al.length + bl.length))) H1) (.ex (al.length + bl.length))
    al 0 _ _ lf (by simp) hS0 (by simp) (Small.replicate _) (by simp) (by omega)
  rw [mulOut_eq hxa hxb] at hS'
  refine ⟨H', hS', ?_⟩
  unfold F121
  rw [callF_of (h53 a H ▸ valid53 ha lf rec2), hva, not_k]
  simp only [Bool.not_true, gd_ff]
  rw [callF_of (h53 b H ▸ valid53 hb lf rec2), hvb, not_k]
  simp only [Bool.not_true, pick_false, ifA_false]
  rw [ha.len, hb.len, add_k, wrap_i64 (by omega) (by omega)]
  have e1 : (al.length : Int) + (bl.length : Int) = ((al.length + bl.length : Nat) : Int) := by omega
  rw [e1, show (Int.ofNat 0) = ((0 : Nat) : Int) from rfl, mks_one (Nat.le_refl _) (by omega)]
  rw [(hS0.lim hw ha).len]
  refine Eq.trans hrun ?_
  show J121_bbba lf rec _ H' = _
  unfold J121_bbba
  have hl := prodL_len al bl
  have ho := hS'.out (.ex (al.length + bl.length))
  rw [hl] at ho
  have h2 := trim143 ho (by omega) (lf := lf) (by omega) rec2
  rw [J143_of _ _ _ (by have := trimN_le (prodL al bl) (prodL al bl).length; omega)] at h2
  rw [callF_of ((h143 _ H').trans h2)]
  unfold mulV
  by_cases hm : 1024 < trimN (prodL al bl) (prodL al bl).length
  · simp only [if_pos hm]; rfl
  · simp only [if_neg hm]; rfl

/-- Mul, of the evaluator. -/
theorem ev_mul121 {H : AH} (hw : WF H) {a b : AV} {al bl : List Nat} (ha : Lim H a al) (hb : Lim H b bl) (hxa : Small al) (hxb : Small bl) (hva : validB al = true) (hvb : validB bl = true)
    {lf : Nat} (hlf : 2100 ≤ lf) (fuel : Nat) :
    ∃ H', St H (prodL al bl) H' ∧ ev Tryz.prog lf noRec (fuel + 2) 121 [a, b] H = some (mulV H.next al.length bl.length (trimN (prodL al bl) (prodL al bl).length), H') := by
  rw [F121_eq]
  exact mul121 hw ha hb hxa hxb hva hvb hlf (rec2 := ev Tryz.prog lf noRec fuel) (fun v H => F53_eq lf fuel v H) (fun v H => F143_eq lf fuel v H)
end Go.Ev.Tw

/- The reference's Mul. -/
namespace Go.Ev.Tw
open Go Go.Ev Go.Proofs

theorem limb83 {H : AH} {v : AV} {l : List Nat} (h : Lim H v l) (hs : Small l) {i x : Nat} (hi : l[i]? = some x) (lf : Nat) (rec : Rec) : F83 lf rec v (.int .i64 (i : Int)) H = some (.int .u64 (x : Int), H) := by
  unfold F83
  have hlt : i < l.length := (List.getElem?_eq_some_iff.1 hi).1
  rw [h.len, lss_k]
  have e1 : decide ((i : Int) < (l.length : Int)) = true := by simp; omega
  rw [e1, ifA_true]
  obtain ⟨p, hp1, hp2⟩ := h.at hi
  have hx : x < 4294967296 := hs x (List.mem_of_getElem? hi)
  rw [hp1, hp2, cv_k, wrap_u64]
  have e2 : (x : Int) % 18446744073709551616 = (x : Int) := by omega
  rw [e2]

theorem trimLoop55 {H : AH} {v : AV} {l : List Nat} (h : Lim H v l) (hs : l.length ≤ 1000000) (lf : Nat) (rec : Rec) (kx : AV → AH → Ans) : ∀ (n g : Nat), n ≤ l.length → n < g →
    L55_1 lf rec v kx g (.int .i64 (n : Int)) H = kx (.int .i64 (trimN l n : Int)) H
  | 0, g + 1, _, _ => by
    rw [L55_1, gtr_k]
    have e1 : decide (Int.ofNat 0 < ((0 : Nat) : Int)) = false := by simp
    rw [e1]
    simp only [gd_tf, pick_false, ifA_false]
    rfl
  | n + 1, g + 1, hn, hg => by
    rw [L55_1, gtr_k]
    have e1 : decide (Int.ofNat 0 < ((n + 1 : Nat) : Int)) = true := by simp <;> omega
    rw [e1]
    simp only [gd_tt]
    rw [sub_k, wrap_i64 (by simp <;> omega) (by simp <;> omega)]
    have e3 : (((n + 1 : Nat) : Int) - Int.ofNat 1) = (n : Int) := by simp
    rw [e3]
    obtain ⟨x, hx⟩ : ∃ x, l[n]? = some x := ⟨_, List.getElem?_eq_getElem (by omega)⟩
    obtain ⟨p, hp1, hp2⟩ := h.at hx
    rw [hp1, hp2, eql_k, pick_true]
    unfold trimN
    rw [hx]
    by_cases h0 : x = 0
    · subst h0
      have e4 : (((0 : Nat) : Int) == Int.ofNat 0) = true := rfl
      rw [e4, ifA_true, sub_k, wrap_i64 (by simp <;> omega) (by simp <;> omega), e3, if_pos rfl]
      exact trimLoop55 h hs lf rec kx n g (by omega) (by omega)
    · have e4 : ((x : Int) == Int.ofNat 0) = false := by simpa using h0
      rw [e4, ifA_false, if_neg (by simpa using h0)]

/-- trim of a slice that begins a block. -/
theorem trim55 {H : AH} {l : List Nat} {n : Nat} (h : Lim H (.sl n 0 l.length (.ex l.length)) l) (hs : l.length ≤ 1000000) {lf : Nat} (hf : l.length < lf) (rec : Rec) :
    F55 lf rec (.sl n 0 l.length (.ex l.length)) H = some (.sl n 0 (trimN l l.length) (.ex l.length), H) := by
  unfold F55
  rw [h.len]
  refine (trimLoop55 h hs lf rec _ _ _ (Nat.le_refl _) hf).trans ?_
  unfold J55_bba
  rw [slA_ex _ _ _ _ _ _ (trimN_le _ _), slOff0]

theorem fit84 {H : AH} {l : List Nat} {n : Nat} (h : Lim H (.sl n 0 l.length (.ex l.length)) l) (hs : l.length ≤ 1000000) {lf : Nat} (hf : l.length < lf) {rec rec2 : Rec} (h55 : ∀ v H, rec 55 [v] H = F55 lf rec2 v H) :
    F84 lf rec (.sl n 0 l.length (.ex l.length)) H = some ((if 1024 < trimN l l.length then .tup [.nils, .int .i64 2] else .tup [.sl n 0 (trimN l l.length) (.ex l.length), .int .i64 0]), H) := by
  unfold F84
  rw [callF_of ((h55 _ H).trans (trim55 h hs hf rec2)), lenSA_sl, gtr_k]
  by_cases hm : 1024 < trimN l l.length
  · have e1 : decide (Int.ofNat 1024 < ((trimN l l.length : Nat) : Int)) = true := by simp; omega
    rw [e1, ifA_true, if_pos hm]; rfl
  · have e1 : decide (Int.ofNat 1024 < ((trimN l l.length : Nat) : Int)) = false := by simp; omega
    rw [e1, ifA_false, if_neg hm]; rfl

theorem inner27 {H0 : AH} (hw : WF H0) {a b : AV} {al bl : List Nat} (ha : Lim H0 a al) (hb : Lim H0 b bl) (hsa : al.length ≤ 1024) (hsb : bl.length ≤ 1024) (hxa : Small al) (hxb : Small bl)
    {i x : Nat} (hi : al[i]? = some x) (lf : Nat) {rec rec2 : Rec} (h83 : ∀ v x H, rec 83 [v, x] H = F83 lf rec2 v x H) (kx : AV → AH → Ans) (cap : ACap) : ∀ (ys : List Nat) (j c : Nat) (L : List Nat) (H : AH) (g : Nat),
    bl.drop j = ys → St H0 L H → L.length = al.length + bl.length → Small L → c < B32 → j + ys.length = bl.length → ys.length < g →
    ∃ H', St H0 (mulIn x ys (i + j) c L).1 H' ∧ L27_2 lf rec a b (.sl H0.next 0 (al.length + bl.length) cap) (.int .i64 (i : Int)) kx g (.int .u64 (c : Int)) (.int .i64 (j : Int)) H = kx (.int .u64 ((mulIn x ys (i + j) c L).2 : Int)) H'
  | [], j, c, L, H, g + 1, hd, hS, hL, hsL, hc, hj, hg => by
    refine ⟨H, hS, ?_⟩
    rw [L27_2, (hS.lim hw hb).len, lss_k]
    have e1 : decide ((j : Int) < (bl.length : Int)) = false := by simp at hj ⊢; omega
    rw [e1, ifA_false]; rfl
  | y :: ys, j, c, L, H, g + 1, hd, hS, hL, hsL, hc, hj, hg => by
    simp only [List.length_cons] at hj hg
    have hjl : j < bl.length := by omega
    have hil : i < al.length := (List.getElem?_eq_some_iff.1 hi).1
    have hbj : bl[j]? = some y := by
      have := congrArg (fun l => l[0]?) hd
      simpa using this
    have hdr : bl.drop (j + 1) = ys := by
      have := congrArg List.tail hd
      simpa [List.tail_drop] using this
    have hx : x < B32 := hxa x (List.mem_of_getElem? hi)
    have hy : y < B32 := hxb y (List.mem_of_getElem? hbj)
    have hz := hsL.getD (i + j)
    have hbd := step_bd hx hy hc hz
    have hp : i + j < L.length := by omega
    have hLo : L[i + j]? = some (L.getD (i + j) 0) := by rw [List.getD_eq_getElem?_getD, List.getElem?_eq_getElem hp]; rfl
    obtain ⟨H', hS', hrun⟩ := inner27 hw ha hb hsa hsb hxa hxb hi lf h83 kx cap ys (j + 1) ((c + (x * y + L.getD (i + j) 0)) / B32) (L.set (i + j) ((c + (x * y + L.getD (i + j) 0)) % B32))
      (H.put H0.next (.cells ((L.map U).set (i + j) (U ((c + (x * y + L.getD (i + j) 0)) % B32))))) g hdr hS.put (by simp [hL]) (hsL.set (Nat.mod_lt _ (by decide))) (Nat.div_lt_of_lt_mul hbd) (by omega) (by omega)
    refine ⟨H', by unfold mulIn; exact hS', ?_⟩
    have ho := hS.out cap
    rw [hL] at ho
    rw [L27_2, (hS.lim hw hb).len, lss_k]
    have e1 : decide ((j : Int) < (bl.length : Int)) = true := by simp; omega
    rw [e1, ifA_true]
    rw [callF_of ((h83 _ _ H).trans (limb83 (hS.lim hw ha) hxa hi lf rec2)), callF_of ((h83 _ _ H).trans (limb83 (hS.lim hw hb) hxb hbj lf rec2)), mul_k, add_k, wrap_i64 (n := (i : Int) + (j : Int)) (by omega) (by omega)]
    have e2 : (i : Int) + (j : Int) = ((i + j : Nat) : Int) := by omega
    rw [e2, callF_of ((h83 _ _ H).trans (limb83 ho hsL hLo lf rec2)), add_k, add_k]
    have hx' : x < 4294967296 := hx
    have hy' : y < 4294967296 := hy
    have hz' : L.getD (i + j) 0 < 4294967296 := hz
    have hc' : c < 4294967296 := hc
    have hBB : B32 * B32 = 18446744073709551616 := by decide
    rw [hBB] at hbd
    have w4 : IntKind.u64.wrap ((x : Int) * (y : Int)) = ((x * y : Nat) : Int) := by rw [wrap_u64, ← Int.natCast_mul]; omega
    have w5 : IntKind.u64.wrap (((x * y : Nat) : Int) + ((L.getD (i + j) 0 : Nat) : Int)) = ((x * y + L.getD (i + j) 0 : Nat) : Int) := by rw [wrap_u64]; omega
    have w6 : IntKind.u64.wrap (((x * y + L.getD (i + j) 0 : Nat) : Int) + (c : Int)) = ((c + (x * y + L.getD (i + j) 0) : Nat) : Int) := by rw [wrap_u64]; omega
    rw [w4, w5, w6, add_k, wrap_i64 (n := (i : Int) + (j : Int)) (by omega) (by omega), e2]
    rw [show Int.ofNat 4294967296 = ((4294967296 : Nat) : Int) from rfl, rem_k _ _ _ (by decide), cv_k, wrap_u32, ixs_sl (by omega)]
    have e3 : 0 + (i + j) * 1 = i + j := by omega
    rw [e3]
    have e4 : (((c + (x * y + L.getD (i + j) 0) : Nat) : Int).tmod ((4294967296 : Nat) : Int) % 4294967296) = (((c + (x * y + L.getD (i + j) 0)) % B32 : Nat) : Int) := by
      rw [← Int.ofNat_tmod]; simp
    rw [e4]
    show stA 1 H (.ptr H0.next (i + j)) [U ((c + (x * y + L.getD (i + j) 0)) % B32)] _ = _
    rw [st_one hS.2.1 (by simpa using hp) rfl]
    rw [quo_k _ _ _ (by decide), show (Int.ofNat 1) = (1 : Int) from rfl, add_k, wrap_i64 (by omega) (by omega)]
    have e5 : IntKind.u64.wrap (((c + (x * y + L.getD (i + j) 0) : Nat) : Int).tdiv ((4294967296 : Nat) : Int)) = (((c + (x * y + L.getD (i + j) 0)) / B32 : Nat) : Int) := by
      rw [← Int.ofNat_tdiv, wrap_u64]
      have : (c + (x * y + L.getD (i + j) 0)) / 4294967296 < 4294967296 := by omega
      show (((c + (x * y + L.getD (i + j) 0)) / 4294967296 : Nat) : Int) % 18446744073709551616 = (((c + (x * y + L.getD (i + j) 0)) / 4294967296 : Nat) : Int)
      omega
    have e6 : (j : Int) + 1 = ((j + 1 : Nat) : Int) := by simp
    rw [e5, e6]
    have e7 : i + j + 1 = i + (j + 1) := by omega
    rw [show mulIn x (y :: ys) (i + j) c L = mulIn x ys (i + j + 1) ((c + (x * y + L.getD (i + j) 0)) / B32) (L.set (i + j) ((c + (x * y + L.getD (i + j) 0)) % B32)) from rfl, e7]
    exact hrun

theorem J27_of {H0 : AH} {a b : AV} {bl : List Nat} {H : AH} {L : List Nat} (hS : St H0 L H) (hb : Lim H b bl) (lf : Nat) (rec : Rec) (c : AV → AH → Ans) (kx0 : AH → Ans) {i n : Nat} (hi : i + bl.length < L.length) (hL : L.length = n) (hn : n ≤ 2048) (cap : ACap) {z : Nat} (hz : z < B32) :
    J27_bbbabklbakba lf rec a b (.sl H0.next 0 n cap) c kx0 (.int .i64 (i : Int)) (.int .u64 (z : Int)) H = c (.int .i64 ((i + 1 : Nat) : Int)) (H.put H0.next (.cells ((L.map U).set (i + bl.length) (U z)))) := by
  unfold J27_bbbabklbakba
  rw [hb.len, add_k, wrap_i64 (by omega) (by omega), cv_k, wrap_u32]
  have e1 : (i : Int) + (bl.length : Int) = ((i + bl.length : Nat) : Int) := by omega
  have e2 : (z : Int) % 4294967296 = (z : Int) := by have : z < 4294967296 := hz; omega
  rw [e1, e2, ixs_sl (by omega)]
  show stA 1 H (.ptr H0.next (0 + (i + bl.length) * 1)) [U z] _ = _
  rw [show 0 + (i + bl.length) * 1 = i + bl.length from by omega, st_one hS.2.1 (by simpa using hi) rfl, show (Int.ofNat 1) = (1 : Int) from rfl, add_k, wrap_i64 (by omega) (by omega)]
  rfl

theorem outer27 {H0 : AH} (hw : WF H0) {a b : AV} {al bl : List Nat} (ha : Lim H0 a al) (hb : Lim H0 b bl) (hsa : al.length ≤ 1024) (hsb : bl.length ≤ 1024) (hxa : Small al) (hxb : Small bl)
    {lf : Nat} (hlf : bl.length < lf) {rec rec2 : Rec} (h83 : ∀ v x H, rec 83 [v, x] H = F83 lf rec2 v x H) (kx : AH → Ans) (cap : ACap) : ∀ (xs : List Nat) (i : Nat) (L : List Nat) (H : AH) (g : Nat),
    al.drop i = xs → St H0 L H → L.length = al.length + bl.length → Small L → i + xs.length = al.length → xs.length < g →
    ∃ H', St H0 (mulOut bl xs i L) H' ∧ L27_1 lf rec a b (.sl H0.next 0 (al.length + bl.length) cap) kx g (.int .i64 (i : Int)) H = kx H'
  | [], i, L, H, g + 1, hd, hS, hL, hsL, hi, hg => by
    refine ⟨H, hS, ?_⟩
    rw [L27_1, (hS.lim hw ha).len, lss_k]
    have e1 : decide ((i : Int) < (al.length : Int)) = false := by simp at hi ⊢; omega
    rw [e1, ifA_false]
  | x :: xs, i, L, H, g + 1, hd, hS, hL, hsL, hi, hg => by
    simp only [List.length_cons] at hi hg
    have hxi : al[i]? = some x := by
      have := congrArg (fun l => l[0]?) hd
      simpa using this
    have hdr : al.drop (i + 1) = xs := by
      have := congrArg List.tail hd
      simpa [List.tail_drop] using this
    have hx : x < B32 := hxa x (List.mem_of_getElem? hxi)
    have hsm := mulIn_small x hx bl i 0 L hxb (by decide) hsL
    have hlen := mulIn_len x bl i 0 L
    rw [L27_1, (hS.lim hw ha).len, lss_k]
    have e1 : decide ((i : Int) < (al.length : Int)) = true := by simp; omega
    rw [e1, ifA_true]
    obtain ⟨H1, hS1, hr1⟩ := inner27 hw ha hb hsa hsb hxa hxb hxi lf h83
      (fun w8 H => J27_bbbabklbakba lf rec a b (.sl H0.next 0 (al.length + bl.length) cap) (L27_1 lf rec a b (.sl H0.next 0 (al.length + bl.length) cap) kx g) kx (.int .i64 (i : Int)) w8 H)
      cap bl 0 0 L H lf (by simp) hS hL hsL (by decide) (by omega) hlf
    simp only [Nat.add_zero] at hS1 hr1
    obtain ⟨H2, hS2, hr2⟩ := outer27 hw ha hb hsa hsb hxa hxb hlf h83 kx cap xs (i + 1) ((mulIn x bl i 0 L).1.set (i + bl.length) ((mulIn x bl i 0 L).2))
      (H1.put H0.next (.cells (((mulIn x bl i 0 L).1.map U).set (i + bl.length) (U (mulIn x bl i 0 L).2)))) g hdr hS1.put (by simp [hlen, hL]) (hsm.1.set hsm.2) (by omega) (by omega)
    refine ⟨H2, hS2, ?_⟩
    rw [← hr2]
    refine Eq.trans hr1 ?_
    exact J27_of hS1 (hS1.lim hw hb) lf rec _ _ (by rw [hlen]; omega) (by rw [hlen]; omega) (by omega) cap hsm.2

theorem mul27 {H : AH} (hw : WF H) {a b : AV} {al bl : List Nat} (ha : Lim H a al) (hb : Lim H b bl) (hxa : Small al) (hxb : Small bl) (hva : validB al = true) (hvb : validB bl = true)
    {lf : Nat} (hlf : 2100 ≤ lf) {rec rec2 rec3 : Rec} (h56 : ∀ v H, rec 56 [v] H = F56 lf rec2 v H) (h84 : ∀ v H, rec 84 [v] H = F84 lf rec2 v H) (h55 : ∀ v H, rec2 55 [v] H = F55 lf rec3 v H) (h83 : ∀ v x H, rec 83 [v, x] H = F83 lf rec2 v x H) :
    ∃ H', St H (prodL al bl) H' ∧ F27 lf rec a b H = some (mulV H.next al.length bl.length (trimN (prodL al bl) (prodL al bl).length), H') := by
  have hsa : al.length ≤ 1024 := by simp [validB] at hva; omega
  have hsb : bl.length ≤ 1024 := by simp [validB] at hvb; omega
  have hS0 : St H (List.replicate (al.length + bl.length) 0) (H.ext (.cells (List.replicate (al.length + bl.length) (U 0)))) := by
    refine ⟨rfl, ?_, fun b hb => ?_⟩
    · rw [AH.get_ext, if_pos rfl, List.map_replicate]
    · rw [AH.get_ext, if_neg hb]
  obtain ⟨H', hS', hrun⟩ := outer27 hw ha hb hsa hsb hxa hxb (lf := lf) (by omega) h83 (fun H1 => J27_bbba lf rec (.sl H.next 0 (al.length + bl.length) (.ex (al.length + bl.length))) H1) (.ex (al.length + bl.length))
    al 0 _ _ lf (by simp) hS0 (by simp) (Small.replicate _) (by simp) (by omega)
  rw [mulOut_eq hxa hxb] at hS'
  refine ⟨H', hS', ?_⟩
  unfold F27
  rw [callF_of (h56 a H ▸ valid56 ha lf rec2), hva, not_k]
  simp only [Bool.not_true, gd_ff]
  rw [callF_of (h56 b H ▸ valid56 hb lf rec2), hvb, not_k]
  simp only [Bool.not_true, pick_false, ifA_false]
  rw [ha.len, hb.len, add_k, wrap_i64 (by omega) (by omega)]
  have e1 : (al.length : Int) + (bl.length : Int) = ((al.length + bl.length : Nat) : Int) := by omega
  rw [e1, show (Int.ofNat 0) = ((0 : Nat) : Int) from rfl, mks_one (Nat.le_refl _) (by omega)]
  refine Eq.trans hrun ?_
  show J27_bbba lf rec _ H' = _
  unfold J27_bbba
  have hl := prodL_len al bl
  have ho := hS'.out (.ex (prodL al bl).length)
  have h2 := fit84 ho (by omega) (lf := lf) (by omega) (rec := rec2) h55
  rw [hl] at h2
  rw [callF_of ((h84 _ H').trans h2)]
  unfold mulV
  rw [hl]
  by_cases hm : 1024 < trimN (prodL al bl) (al.length + bl.length)
  · simp only [if_pos hm]; rfl
  · simp only [if_neg hm]; rfl

theorem ev_mul27 {H : AH} (hw : WF H) {a b : AV} {al bl : List Nat} (ha : Lim H a al) (hb : Lim H b bl) (hxa : Small al) (hxb : Small bl) (hva : validB al = true) (hvb : validB bl = true)
    {lf : Nat} (hlf : 2100 ≤ lf) (fuel : Nat) :
    ∃ H', St H (prodL al bl) H' ∧ ev Tryz.prog lf noRec (fuel + 3) 27 [a, b] H = some (mulV H.next al.length bl.length (trimN (prodL al bl) (prodL al bl).length), H') := by
  rw [F27_eq]
  exact mul27 hw ha hb hxa hxb hva hvb hlf (rec2 := ev Tryz.prog lf noRec (fuel + 1)) (rec3 := ev Tryz.prog lf noRec fuel) (fun v H => F56_eq lf (fuel + 1) v H) (fun v H => F84_eq lf (fuel + 1) v H) (fun v H => F55_eq lf fuel v H) (fun v x H => F83_eq lf (fuel + 1) v x H)
end Go.Ev.Tw

/- Both Muls as an oracle of the evaluator. -/
namespace Go.Ev.Tw
open Go Go.Ev Go.Proofs

noncomputable section
def intsA (l : List AV) : Option (List Nat) :=
  List.rec (motive := fun _ => Option (List Nat)) (some []) (fun v _ ih => onInt (fun k n => bt (kindEq k .u32) (nat n fun m => bt (Nat.blt m 4294967296) (ob ih fun r => some (m :: r)) none) none) v) l
def limbsA (H : AH) (v : AV) (k : List Nat → Ans) : Ans :=
  onSl (k []) (fun b off len _ => onCells (fun vs => ob (cut vs off len) fun l => ob (intsA l) k) (H.get b)) v
def mulGo (a b : AV) (H : AH) : Ans :=
  limbsA H a fun al => limbsA H b fun bl => bt (validB al) (bt (validB bl)
    (some (mulV (onH (fun n _ => n) H) al.length bl.length (trimN (prodL al bl) (al.length + bl.length)), onH (fun n t => ⟨Nat.succ n, t.put (some (.cells (mapL (fun z => AV.int .u32 (.ofNat z)) (prodL al bl)))) n⟩) H)) none) none
def mulOrc : Rec := fun f args H => bt (bt (Nat.beq f 121) true (Nat.beq f 27))
  (List.rec (motive := fun _ => Ans) none (fun a l _ => List.rec (motive := fun _ => Ans) none (fun b l _ => List.rec (motive := fun _ => Ans) (mulGo a b H) (fun _ _ _ => none) l) l) args) none
end

theorem intsA_eq : ∀ {l : List AV} {r : List Nat}, intsA l = some r → l = r.map U ∧ Small r
  | [], r, h => by cases h; exact ⟨rfl, nofun⟩
  | v :: l, r, h => by
    have h' : onInt (fun k n => bt (kindEq k .u32) (nat n fun m => bt (Nat.blt m 4294967296) (ob (intsA l) fun r => some (m :: r)) none) none) v = some r := h
    cases v with
    | int k n =>
      obtain ⟨h1, h2⟩ := bt_eq (show bt (kindEq k .u32) (nat n fun m => bt (Nat.blt m 4294967296) (ob (intsA l) fun r => some (m :: r)) none) none = some r from h')
      cases n with
      | ofNat m =>
        obtain ⟨h3, h4⟩ := bt_eq (show bt (Nat.blt m 4294967296) (ob (intsA l) fun r => some (m :: r)) none = some r from h2)
        obtain ⟨q, hq, h5⟩ := ob_eq h4
        cases h5
        obtain ⟨e1, e2⟩ := intsA_eq hq
        have hk : k = .u32 := by cases k <;> first | rfl | cases h1
        subst hk
        refine ⟨by rw [e1]; rfl, ?_⟩
        intro z hz
        rcases List.mem_cons.1 hz with rfl | hz
        · rw [blt_eq] at h3; exact of_decide_eq_true h3
        · exact e2 z hz
      | negSucc m => cases h2
    | _ => cases h'
theorem limbsA_eq {H : AH} {v : AV} {k : List Nat → Ans} {r : AV × AH} (h : limbsA H v k = some r) : ∃ l, Lim H v l ∧ Small l ∧ k l = some r := by
  have h' : onSl (k []) (fun b off len _ => onCells (fun vs => ob (cut vs off len) fun l => ob (intsA l) k) (H.get b)) v = some r := h
  cases v with
  | nils => exact ⟨[], .inl ⟨rfl, rfl⟩, nofun, h'⟩
  | sl b off len c =>
    have h1 : onCells (fun vs => ob (cut vs off len) fun l => ob (intsA l) k) (H.get b) = some r := h'
    cases hb : H.get b with
    | none => rw [hb] at h1; cases h1
    | some o =>
      rw [hb] at h1
      cases o with
      | cells vs =>
        obtain ⟨l, hl, h2⟩ := ob_eq (show ob (cut vs off len) (fun l => ob (intsA l) k) = some r from h1)
        obtain ⟨q, hq, h3⟩ := ob_eq h2
        obtain ⟨e1, e2⟩ := intsA_eq hq
        have hlen := cut_len hl
        subst e1
        rw [List.length_map] at hlen
        subst hlen
        refine ⟨q, .inr ⟨b, off, c, vs, rfl, hb, fun i n hi => ?_⟩, e2, h3⟩
        have hlt := (List.getElem?_eq_some_iff.1 hi).1
        have := cut_get hl i hlt
        rw [nth_eq, ← this, List.getElem?_map, hi]; rfl
      | map es c => cases h1
      | iter a b c d => cases h1
  | _ => cases h'

theorem St.sound {P : Program} {f : FuncId} {args : List AV} {H : AH} {L : List Nat} {v : AV} (hS : WF H → ∃ H', St H L H' ∧ CallSound P f args H v H') : CallSound P f args H v (H.ext (.cells (L.map U))) := by
  intro φ w args' hR hargs
  obtain ⟨H', hS', hc⟩ := hS (fun b o h => hR.live b o h)
  refine (hc.part (Hp := H) (H2 := H.ext (.cells (L.map U))) (fun b o h => h) rfl (by rw [AH.next_ext, hS'.1]) ?_ ?_ ?_) φ w args' hR hargs
  · intro b hb _; rw [AH.get_ext, if_neg (by omega)]
  · intro b o hb _; rw [AH.get_ext, if_neg (by omega), hS'.2.2 b (by omega)]
  · intro b o hb h
    rw [AH.get_ext] at h
    split at h
    · rename_i e; subst e; rw [hS'.2.1]; exact h
    · rw [hS'.2.2 b (by assumption)]; exact h

theorem mapL_map {α β : Type} (f : α → β) : ∀ l : List α, mapL f l = l.map f
  | [] => rfl
  | x :: l => by show f x :: mapL f l = _; rw [mapL_map f l]; rfl

theorem mulOrc_ok (hmix : Tryz.prog.follows .mixedOrders = true) : RecOk Tryz.prog mulOrc := by
  have key : ∀ f args H r, mulOrc f args H = some r → (f = 121 ∨ f = 27) ∧ ∃ a b, args = [a, b] ∧ mulGo a b H = some r := by
    intro f args H r h
    obtain ⟨h1, h2⟩ := bt_eq (show bt (bt (Nat.beq f 121) true (Nat.beq f 27)) _ none = some r from h)
    refine ⟨?_, ?_⟩
    · cases h3 : Nat.beq f 121 with
      | true => exact .inl (eq_of_beq' h3)
      | false => rw [h3] at h1; exact .inr (eq_of_beq' h1)
    · cases args with
      | nil => cases h2
      | cons a l =>
        cases l with
        | nil => cases h2
        | cons b l =>
          cases l with
          | nil => exact ⟨a, b, rfl, h2⟩
          | cons x l => cases h2
  refine ⟨fun f args H r h => ?_, fun f args H v H' h => ?_⟩
  · obtain ⟨rfl | rfl, _⟩ := key f args H r h
    · exact ⟨Tryz.f121, Tryz.func121, by kernel_rfl, by decide +kernel⟩
    · exact ⟨Tryz.f27, Tryz.func27, by kernel_rfl, by decide +kernel⟩
  · obtain ⟨hf, a, b, rfl, h1⟩ := key f args H _ h
    obtain ⟨al, ha, hxa, h2⟩ := limbsA_eq h1
    obtain ⟨bl, hb, hxb, h3⟩ := limbsA_eq h2
    obtain ⟨hva, h4⟩ := bt_eq h3
    obtain ⟨hvb, h5⟩ := bt_eq h4
    cases h5
    have e1 : (onH (fun n t => (⟨Nat.succ n, t.put (some (.cells (mapL (fun z => AV.int .u32 (.ofNat z)) (prodL al bl)))) n⟩ : AH)) H) = H.ext (.cells ((prodL al bl).map U)) := by
      rw [mapL_map]; rfl
    rw [e1]
    have e2 : (onH (fun n _ => n) H) = H.next := rfl
    rw [e2, ← prodL_len al bl]
    refine St.sound fun hw => ?_
    rcases hf with rfl | rfl
    · obtain ⟨H', hS, hr⟩ := ev_mul121 hw ha hb hxa hxb hva hvb (lf := 3000) (by decide) 0
      exact ⟨H', hS, (ev_sound hmix recOk_none _).call _ _ _ _ _ hr⟩
    · obtain ⟨H', hS, hr⟩ := ev_mul27 hw ha hb hxa hxb hva hvb (lf := 3000) (by decide) 0
      exact ⟨H', hS, (ev_sound hmix recOk_none _).call _ _ _ _ _ hr⟩
end Go.Ev.Tw

