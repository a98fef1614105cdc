/- The reference's object in memory. -/
import Derived.Test.YtainelkenkgppaaDoorPlo
namespace Go.Proofs.YtainelkenkgppaaDoor
open Go.ChangeShapes Go.WideShapes Go.ChangeAt Go.RowKit Go.Lott
open Go.Sort Go.Lott.Stb Go.Lott.Srt Go.Lott.Lm
/-- The cells of the first n players. -/
def flO (S : PSt) (V : Nat → Nat → Value) : Nat → List Value
  | 0 => []
  | n + 1 => flO S V n ++ [.int .i64 (iOf S n), V n 0, V n 1, V n 2]
theorem flO_length (S : PSt) (V : Nat → Nat → Value) : ∀ n, (flO S V n).length = n * 4
  | 0 => rfl
  | n + 1 => by unfold flO; rw [List.length_append, flO_length S V n]; simp; omega
theorem flO_get (S : PSt) (V : Nat → Nat → Value) : ∀ n k, k < n → (flO S V n)[k * 4]? = some (.int .i64 (iOf S k)) ∧ (flO S V n)[k * 4 + 1]? = some (V k 0) ∧ (flO S V n)[k * 4 + 1 + 1]? = some (V k 1) ∧ (flO S V n)[k * 4 + 1 + 2]? = some (V k 2)
  | 0, k, h => by omega
  | n + 1, k, h => by
    have hl := flO_length S V n
    unfold flO
    by_cases c : k < n
    · obtain ⟨h1, h2, h3, h4⟩ := flO_get S V n k c
      rw [List.getElem?_append_left (by omega), List.getElem?_append_left (by omega), List.getElem?_append_left (by omega), List.getElem?_append_left (by omega)]
      exact ⟨h1, h2, h3, h4⟩
    · obtain rfl : k = n := by omega
      rw [List.getElem?_append_right (by omega), List.getElem?_append_right (by omega), List.getElem?_append_right (by omega), List.getElem?_append_right (by omega), hl]
      refine ⟨?_, ?_, ?_, ?_⟩
      · rw [Nat.sub_self]; rfl
      · rw [show k * 4 + 1 - k * 4 = 1 by omega]; rfl
      · rw [show k * 4 + 1 + 1 - k * 4 = 2 by omega]; rfl
      · rw [show k * 4 + 1 + 2 - k * 4 = 3 by omega]; rfl
theorem flO_congr {S S' : PSt} {V V' : Nat → Nat → Value} : ∀ n, (∀ k, k < n → iOf S k = iOf S' k ∧ V k 0 = V' k 0 ∧ V k 1 = V' k 1 ∧ V k 2 = V' k 2) → flO S V n = flO S' V' n
  | 0, _ => rfl
  | n + 1, h => by
    obtain ⟨h1, h2, h3, h4⟩ := h n (by omega)
    unfold flO
    rw [flO_congr n (fun k hk => h k (by omega)), h1, h2, h3, h4]
/-- One row of one player turned. -/
theorem flO_set (S : PSt) (V : Nat → Nat → Value) (K f : Nat) (v : Value) (hf : f < 3) : ∀ n, K < n → flO S (fun k j => if k = K ∧ j = f then v else V k j) n = (flO S V n).set (K * 4 + (1 + f)) v
  | 0, h => by omega
  | n + 1, h => by
    have hl := flO_length S V n
    have e : ∀ V', flO S V' (n + 1) = flO S V' n ++ [.int .i64 (iOf S n), V' n 0, V' n 1, V' n 2] := fun _ => rfl
    rw [e, e]
    by_cases c : K < n
    · rw [flO_set S V K f v hf n c, List.set_append_left _ _ (by rw [hl]; omega)]
      have : n ≠ K := by omega
      simp [this]
    · obtain rfl : K = n := by omega
      rw [List.set_append_right _ _ (by rw [hl]; omega), hl, show K * 4 + (1 + f) - K * 4 = 1 + f by omega]
      congr 1
      · exact flO_congr K fun k hk => by have : k ≠ K := by omega
                                         simp [this]
      · rcases (show f = 0 ∨ f = 1 ∨ f = 2 by omega) with rfl | rfl | rfl <;> simp
structure QObj (w : World) (B : Nat) (τ : Rl) (p : Nat) (S : PSt) (vl : Value) (V : Nat → Nat → Value) : Prop where
  low : ∀ b, τ b ≠ none → B ≤ b ∧ b < w.heap.size
  tp : τ p = some (0, 0)
  cp : Cel w p #[vl, .int .i64 S.now] 82
  rl : w.ownsRow B 99 4 vl S.rs.length (flO S V S.rs.length)
  tl : ∀ g, vl.ownBlock = some g → τ g = some (1, 0)
  rw : ∀ k f, k < S.rs.length → f < 3 → RecF w B f (rOf S k) (V k f)
  tv : ∀ k f g, k < S.rs.length → f < 3 → (V k f).ownBlock = some g → τ g = some (3 + f, k)
def QO (w : World) (B : Nat) (τ : Rl) (p : Nat) (S : PSt) : Prop := ∃ vl V, QObj w B τ p S vl V
section
variable {w w1 w3 : World} {B p : Nat} {τ σ : Rl} {S : PSt} {vl : Value} {V : Nat → Nat → Value}
theorem QObj.fr (h : QObj w B τ p S vl V) (hf : Fr σ w w1) (hd : ∀ b, τ b ≠ none → σ b = none) : QObj w1 B τ p S vl V where
  low := fun b hb => ⟨(h.low b hb).1, Nat.lt_of_lt_of_le (h.low b hb).2 hf.size⟩
  tp := h.tp
  cp := h.cp.fr hf (hd _ (by rw [h.tp]; simp))
  rl := owns_fr h.rl hf (fun g hg => hd _ (by rw [h.tl g hg]; simp))
  tl := h.tl
  rw := fun k f hk hf3 => (h.rw k f hk hf3).fr hf (fun g hg => hd _ (by rw [h.tv k f g hk hf3 hg]; simp))
  tv := h.tv
theorem QObj.below (h : QObj w B τ p S vl V) (hb : Below w.heap.size w w1) : QObj w1 B τ p S vl V := h.fr (σ := fun _ => none) (Fr.of_below hb) (fun _ _ => rfl)
theorem QO.fr (h : QO w B τ p S) (hf : Fr σ w w1) (hd : ∀ b, τ b ≠ none → σ b = none) : QO w1 B τ p S := by
  obtain ⟨vl, V, h⟩ := h; exact ⟨vl, V, h.fr hf hd⟩
theorem QO.below (h : QO w B τ p S) (hb : Below w.heap.size w w1) : QO w1 B τ p S := by
  obtain ⟨vl, V, h⟩ := h; exact ⟨vl, V, h.below hb⟩
theorem QO.low (h : QO w B τ p S) : ∀ b, τ b ≠ none → B ≤ b ∧ b < w.heap.size := by obtain ⟨vl, V, h⟩ := h; exact h.low
theorem QObj.push (h : QObj w B τ p S vl V) {id t : Int} (hk : knw S id = true) {f g l cap : Nat} (hf : f < 3) {r : PRec} {v : Value} (hvl : vl = .slice (some ⟨l, 0, none⟩) S.rs.length cap)
    (hg : w.grownBy w3 (V (fnd S.rs id) f).ownBlock) (hv : v.ownBlock = some g) (hat : (V (fnd S.rs id) f).ownBlock = some g ∨ g = w.heap.size) (hgB : B ≤ g) (hlt : g < w3.heap.size)
    (hr : RecF w3 B f r v) (ho : ∀ f', f' < 3 → f' ≠ f → ∀ w v, RecF w B f' (thr S id) v → RecF w B f' r v) :
    QObj ((w3.setCell ⟨l, fnd S.rs id * 4 + (1 + f), none⟩ v).setCell ⟨p, 1, none⟩ (.int .i64 t)) B (tg τ g (3 + f, fnd S.rs id)) p (upd S id r t) vl (fun k j => if k = fnd S.rs id ∧ j = f then v else V k j) := by
  have hkl := knw_iff.1 hk
  obtain ⟨K, hK⟩ : ∃ K, K = fnd S.rs id := ⟨_, rfl⟩
  rw [← hK] at hg hat hkl ⊢
  have hth : thr S id = rOf S K := by rw [hK]; exact (rOf_thr S id).symm
  rw [hth] at ho
  have hgw : w.heap.size ≤ w3.heap.size := hg.size
  have tl : τ l = some (1, 0) := h.tl l (by rw [hvl]; rfl)
  have hgτ : ∀ x, τ x ≠ none → x ≠ g ∨ τ x = some (3 + f, K) := fun x hx => by
    by_cases c : x = g
    · right
      subst c
      rcases hat with ha | ha
      · exact h.tv K f x hkl hf ha
      · exact absurd (h.low x hx).2 (by omega)
    · exact .inl c
  have tgne : ∀ x u, τ x = some u → u ≠ (3 + f, K) → tg τ g (3 + f, K) x = some u := fun x u hx hu => by
    rw [tg_ne _ (by rcases hgτ x (by rw [hx]; simp) with c | c; exact c; rw [hx] at c; exact absurd (Option.some.inj c) hu)]; exact hx
  have far : ∀ x u, τ x = some u → u ≠ (3 + f, K) → (V K f).ownBlock ≠ some x := fun x u hx hu c => by
    have := h.tv K f x hkl hf c
    rw [hx] at this
    exact hu (Option.some.inj this)
  have pne : l ≠ p := fun c => by have := tl; rw [c, h.tp] at this; simp at this
  refine ⟨fun b hb => ?_, tgne _ _ h.tp (by simp; omega), ?_, ?_, fun g' hg' => tgne _ _ (h.tl g' hg') (by simp; omega), fun k f' hk' hf' => ?_, fun k f' g' hk' hf' hg' => ?_⟩
  · have e2 : ((w3.setCell ⟨l, K * 4 + (1 + f), none⟩ v).setCell ⟨p, 1, none⟩ (.int .i64 t)).heap.size = w3.heap.size := by simp [World.setCell]
    rw [e2]
    by_cases c : b = g
    · rw [c]; exact ⟨hgB, hlt⟩
    · rw [tg_ne _ c] at hb; have := h.low b hb; exact ⟨this.1, by omega⟩
  · have c1 := (h.cp.grow hg (far _ _ h.tp (by simp; omega))).other (a := ⟨l, K * 4 + (1 + f), none⟩) (fun c => pne c.symm) v
    have := c1.set 1 (.int .i64 t)
    simpa [upd] using this
  · rw [len_upd]
    have r1 := h.rl.kept hg (.inr (fun c => far l _ tl (by simp; omega) (by rw [← c, hvl]; rfl)))
    rw [hvl] at r1 ⊢
    have r2 := (r1.stored (K * 4 + (1 + f)) v).1
    rw [← flO_set S V K f v hf _ hkl] at r2
    have e : flO (upd S id r t) (fun k j => if k = K ∧ j = f then v else V k j) S.rs.length = flO S (fun k j => if k = K ∧ j = f then v else V k j) S.rs.length := flO_congr _ fun k _ => ⟨iOf_upd hk k, rfl, rfl, rfl⟩
    rw [e]
    exact owns_set r2 (a := ⟨p, 1, none⟩) (fun c => pne (by simpa [Value.ownBlock] using c)) _
  · rw [len_upd] at hk'
    rw [rOf_upd hk, ← hK]
    have key : ∀ (r' : PRec) (u : Value), RecF w3 B f' r' u → (∀ x, u.ownBlock = some x → x ≠ l ∧ x ≠ p) → RecF ((w3.setCell ⟨l, K * 4 + (1 + f), none⟩ v).setCell ⟨p, 1, none⟩ (.int .i64 t)) B f' r' u := fun r' u hu hx =>
      (hu.set (a := ⟨l, K * 4 + (1 + f), none⟩) (fun c => (hx _ c).1 rfl) v).set (a := ⟨p, 1, none⟩) (fun c => (hx _ c).2 rfl) _
    have hrole : ∀ x u, τ x = some u → 3 ≤ u.1 → x ≠ l ∧ x ≠ p := fun x u hx hu =>
      ⟨fun c => by rw [c, tl] at hx; cases hx; simp at hu, fun c => by rw [c, h.tp] at hx; cases hx; simp at hu⟩
    by_cases c : k = K ∧ f' = f
    · obtain ⟨rfl, rfl⟩ := c
      simp only [and_self, if_true]
      refine key _ _ hr fun x hx => ?_
      rw [hv] at hx
      cases hx
      rcases hat with ha | ha
      · exact hrole g _ (h.tv k f' g hkl hf ha) (by simp)
      · exact ⟨fun c => by have := (h.low l (by rw [tl]; simp)).2; omega, fun c => by have := (h.low p (by rw [h.tp]; simp)).2; omega⟩
    · rw [if_neg c]
      have hrow := h.rw k f' hk' hf'
      have hfar : (V k f').ownBlock = none ∨ (V k f').ownBlock ≠ (V K f).ownBlock := by
        cases hvb : (V k f').ownBlock with
        | none => exact .inl rfl
        | some x =>
          right
          intro e
          have h1 := h.tv k f' x hk' hf' hvb
          have h2 := h.tv K f x hkl hf e.symm
          rw [h1] at h2
          simp at h2
          exact c ⟨h2.2, by omega⟩
      have h3 := hrow.grow hg hfar
      have hx : ∀ x, (V k f').ownBlock = some x → x ≠ l ∧ x ≠ p := fun x hx => hrole x _ (h.tv k f' x hk' hf' hx) (by simp)
      by_cases c2 : k = K
      · subst c2
        rw [if_pos rfl]
        exact key _ _ (ho f' hf' (fun e => c ⟨rfl, e⟩) _ _ h3) hx
      · rw [if_neg c2]
        exact key _ _ h3 hx
  · rw [len_upd] at hk'
    by_cases c : k = K ∧ f' = f
    · obtain ⟨rfl, rfl⟩ := c
      simp only [and_self, if_true] at hg'
      rw [hv] at hg'
      cases hg'
      exact tg_same _ _ _
    · simp only [if_neg c] at hg'
      have h1 := h.tv k f' g' hk' hf' hg'
      exact tgne _ _ h1 (by simp; intro e; have : f' = f := by omega
                            intro e2; exact c ⟨e2, this⟩)
/-- A new player. -/
theorem QObj.reg (h : QObj w B τ p S vl V) {id t : Int} {l cap : Nat}
    (hg : w.grownBy w3 vl.ownBlock) (hat : vl.ownBlock = some l ∨ l = w.heap.size) (hlB : B ≤ l) (hlt : l < w3.heap.size)
    (hr : w3.ownsRow B 99 4 (.slice (some ⟨l, 0, none⟩) (S.rs.length + 1) cap) (S.rs.length + 1) (flO S V S.rs.length ++ [.int .i64 id, .slice none 0 0, .slice none 0 0, .slice none 0 0])) :
    QObj ((w3.setCell ⟨p, 0, none⟩ (.slice (some ⟨l, 0, none⟩) (S.rs.length + 1) cap)).setCell ⟨p, 1, none⟩ (.int .i64 t)) B (tg τ l (1, 0)) p (add S id t) (.slice (some ⟨l, 0, none⟩) (S.rs.length + 1) cap) (fun k j => if k = S.rs.length then .slice none 0 0 else V k j) := by
  have hlen : (add S id t).rs.length = S.rs.length + 1 := by simp [add]
  have hgw : w.heap.size ≤ w3.heap.size := hg.size
  have hlτ : ∀ x, τ x ≠ none → x ≠ l ∨ τ x = some (1, 0) := fun x hx => by
    by_cases c : x = l
    · right
      subst c
      rcases hat with ha | ha
      · exact h.tl x ha
      · exact absurd (h.low x hx).2 (by omega)
    · exact .inl c
  have tgne : ∀ x u, τ x = some u → u ≠ (1, 0) → tg τ l (1, 0) x = some u := fun x u hx hu => by
    rw [tg_ne _ (by rcases hlτ x (by rw [hx]; simp) with c | c; exact c; rw [hx] at c; exact absurd (Option.some.inj c) hu)]; exact hx
  have far : ∀ x u, τ x = some u → u ≠ (1, 0) → vl.ownBlock ≠ some x := fun x u hx hu c => by
    have := h.tl x c
    rw [hx] at this
    exact hu (Option.some.inj this)
  have lp : l ≠ p := fun c => by
    rcases hat with ha | ha
    · exact far p _ h.tp (by simp) (by rw [ha, c])
    · have := (h.low p (by rw [h.tp]; simp)).2; omega
  have hro : ∀ k, k < S.rs.length → rOf (add S id t) k = rOf S k ∧ iOf (add S id t) k = iOf S k := fun k hk' => by unfold rOf iOf add; rw [List.getElem?_append_left hk']; exact ⟨rfl, rfl⟩
  have hrn : rOf (add S id t) S.rs.length = rec0 ∧ iOf (add S id t) S.rs.length = id := by unfold rOf iOf add; rw [List.getElem?_append_right (Nat.le_refl _)]; simp
  refine ⟨fun b hb => ?_, tgne _ _ h.tp (by simp), ?_, ?_, fun g' hg' => ?_, fun k f' hk' hf' => ?_, fun k f' g' hk' hf' hg' => ?_⟩
  · have e2 : ((w3.setCell ⟨p, 0, none⟩ (.slice (some ⟨l, 0, none⟩) (S.rs.length + 1) cap)).setCell ⟨p, 1, none⟩ (.int .i64 t)).heap.size = w3.heap.size := by simp [World.setCell]
    rw [e2]
    by_cases c : b = l
    · rw [c]; exact ⟨hlB, hlt⟩
    · rw [tg_ne _ c] at hb; have := h.low b hb; exact ⟨this.1, by omega⟩
  · have := ((h.cp.grow hg (far _ _ h.tp (by simp))).set 0 (.slice (some ⟨l, 0, none⟩) (S.rs.length + 1) cap)).set 1 (.int .i64 t)
    simpa [add] using this
  · rw [hlen]
    have e : flO (add S id t) (fun k j => if k = S.rs.length then .slice none 0 0 else V k j) (S.rs.length + 1) = flO S V S.rs.length ++ [.int .i64 id, .slice none 0 0, .slice none 0 0, .slice none 0 0] := by
      have e0 : ∀ S' V' n, flO S' V' (n + 1) = flO S' V' n ++ [.int .i64 (iOf S' n), V' n 0, V' n 1, V' n 2] := fun _ _ _ => rfl
      rw [e0, hrn.2, flO_congr (S := add S id t) (S' := S) (V' := V) S.rs.length (fun k hk => by
        have : k ≠ S.rs.length := by omega
        simp [this, (hro k hk).2])]
      simp
    rw [e]
    exact owns_set (owns_set hr (a := ⟨p, 0, none⟩) (fun c => lp (by simpa [Value.ownBlock] using c)) _) (a := ⟨p, 1, none⟩) (fun c => lp (by simpa [Value.ownBlock] using c)) _
  · cases hg'; exact tg_same _ _ _
  · rw [hlen] at hk'
    by_cases c : k = S.rs.length
    · simp only [if_pos c]
      rw [c, hrn.1]
      exact RecF.nil _ _ _
    · simp only [if_neg c]
      rw [(hro k (by omega)).1]
      have hvo : ∀ x, (V k f').ownBlock = some x → τ x = some (3 + f', k) := fun x hx => h.tv k f' x (by omega) hf' hx
      refine (((h.rw k f' (by omega) hf').grow hg ?_).set (a := ⟨p, 0, none⟩) (fun e => ?_) _).set (a := ⟨p, 1, none⟩) (fun e => ?_) _
      · cases hvb : (V k f').ownBlock with
        | none => exact .inl rfl
        | some x => exact .inr (fun e => far x _ (hvo x hvb) (by simp; omega) e.symm)
      · have := hvo _ e; rw [h.tp] at this; simp at this; omega
      · have := hvo _ e; rw [h.tp] at this; simp at this; omega
  · rw [hlen] at hk'
    by_cases c : k = S.rs.length
    · simp only [if_pos c] at hg'; cases hg'
    · simp only [if_neg c] at hg'
      exact tgne _ _ (h.tv k f' g' (by omega) hf' hg') (by simp; omega)
end
end Go.Proofs.YtainelkenkgppaaDoor
