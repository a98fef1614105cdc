/- Players: the plain states, what each call answers and what it does to a state. No program stands in this text. -/
import Derived.Test.YtainelkenkgppaaDoorLfa
import Derived.Test.YtainelkenkgppaaDoorChk
import Derived.Test.YtainelkenkgppaaDoorVal
namespace Go.Proofs.YtainelkenkgppaaDoor
open Go.Lott Go.Lott.Lm
structure PRec where
  ch : List Cg
  ex : List (Int × Int)
  hi : List (Int × Int)
def rec0 : PRec := ⟨[], [], []⟩
structure PSt where
  rs : List (Int × PRec)
  now : Int
structure PDo where
  k : Int
  id : Int
  t : Int
  x : Int
  y : Int
  z : Int
def ps0 : PSt := ⟨[], 0⟩
/-- The place of a player, or the number of players. -/
def fnd : List (Int × PRec) → Int → Nat
  | [], _ => 0
  | p :: l, id => if p.1 = id then 0 else fnd l id + 1
theorem fnd_le : ∀ (l : List (Int × PRec)) (id : Int), fnd l id ≤ l.length
  | [], _ => Nat.le_refl _
  | p :: l, id => by
    unfold fnd
    split
    · exact Nat.zero_le _
    · exact Nat.succ_le_succ (fnd_le l id)
theorem fnd_key : ∀ (l : List (Int × PRec)) (id : Int), fnd l id < l.length → ∃ r, l[fnd l id]? = some (id, r)
  | [], _, h => absurd h (by simp [fnd])
  | (i, r) :: l, id, h => by
    unfold fnd at h ⊢
    by_cases c : i = id
    · subst c; exact ⟨r, by simp⟩
    · rw [if_neg c] at h ⊢
      obtain ⟨r', hr⟩ := fnd_key l id (by simpa using h)
      exact ⟨r', by simpa using hr⟩
theorem fnd_before : ∀ (l : List (Int × PRec)) (id : Int) (k : Nat), k < fnd l id → ∀ p, l[k]? = some p → p.1 ≠ id
  | [], _, _, h, _, _ => absurd h (by simp [fnd])
  | (i, r) :: l, id, k, h, p, hp => by
    unfold fnd at h
    by_cases c : i = id
    · rw [if_pos c] at h; omega
    · rw [if_neg c] at h
      cases k with
      | zero => simp at hp; subst hp; exact c
      | succ k => exact fnd_before l id k (by omega) p (by simpa using hp)
theorem fnd_none {l : List (Int × PRec)} {id : Int} (h : ∀ p ∈ l, p.1 ≠ id) : fnd l id = l.length := by
  induction l with
  | nil => rfl
  | cons p l ih =>
    unfold fnd
    rw [if_neg (h p (List.mem_cons_self ..)), ih (fun q hq => h q (List.mem_cons_of_mem _ hq)), List.length_cons]
theorem fnd_set : ∀ (l : List (Int × PRec)) (k : Nat) (i : Int) (r r' : PRec) (j : Int), l[k]? = some (i, r) → fnd (l.set k (i, r')) j = fnd l j
  | [], _, _, _, _, _, h => by simp at h
  | p :: l, 0, i, r, r', j, h => by
    simp at h
    subst h
    simp [fnd]
  | p :: l, k + 1, i, r, r', j, h => by
    have ih := fnd_set l k i r r' j (by simpa using h)
    simp [fnd, ih]
theorem fnd_snoc : ∀ (l : List (Int × PRec)) (i : Int) (r : PRec) (j : Int), fnd (l ++ [(i, r)]) j = if fnd l j < l.length then fnd l j else if i = j then l.length else l.length + 1
  | [], i, r, j => by simp [fnd]
  | p :: l, i, r, j => by
    have ih := fnd_snoc l i r j
    have hle := fnd_le l j
    rw [List.cons_append]
    unfold fnd
    by_cases c : p.1 = j
    · simp [c]
    · rw [if_neg c, if_neg c, ih, List.length_cons]
      by_cases h1 : fnd l j < l.length
      · simp [h1]
      · by_cases h2 : i = j <;> simp [h1, h2]
def knw (S : PSt) (id : Int) : Bool := decide (fnd S.rs id < S.rs.length)
def thr (S : PSt) (id : Int) : PRec := match S.rs[fnd S.rs id]? with | some p => p.2 | none => rec0
theorem knw_iff {S : PSt} {id : Int} : knw S id = true ↔ fnd S.rs id < S.rs.length := by simp [knw]
theorem thr_at {S : PSt} {id : Int} (h : knw S id = true) : S.rs[fnd S.rs id]? = some (id, thr S id) := by
  obtain ⟨r, hr⟩ := fnd_key _ _ (knw_iff.1 h)
  unfold thr
  rw [hr]
theorem thr_not {S : PSt} {id : Int} (h : knw S id = false) : thr S id = rec0 := by
  have : ¬ fnd S.rs id < S.rs.length := fun c => by rw [knw_iff.2 c] at h; cases h
  unfold thr
  rw [List.getElem?_eq_none (by omega)]
def upd (S : PSt) (id : Int) (r : PRec) (t : Int) : PSt := ⟨S.rs.set (fnd S.rs id) (id, r), t⟩
def add (S : PSt) (id t : Int) : PSt := ⟨S.rs ++ [(id, rec0)], t⟩
theorem upd_rs (S : PSt) (id t : Int) (r : PRec) : (upd S id r t).rs = S.rs.set (fnd S.rs id) (id, r) := rfl
theorem fnd_upd {S : PSt} {id t : Int} {r : PRec} (h : knw S id = true) (j : Int) : fnd (upd S id r t).rs j = fnd S.rs j := fnd_set _ _ _ _ _ _ (thr_at h)
theorem knw_upd {S : PSt} {id t : Int} {r : PRec} (h : knw S id = true) (j : Int) : knw (upd S id r t) j = knw S j := by
  unfold knw; rw [fnd_upd h]; simp [upd]
theorem thr_upd {S : PSt} {id t : Int} {r : PRec} (h : knw S id = true) : thr (upd S id r t) id = r := by
  have hk := knw_iff.1 h
  have h' := thr_at (S := upd S id r t) (id := id) (by rw [knw_upd h]; exact h)
  rw [fnd_upd h] at h'
  rw [upd_rs, List.getElem?_set_self hk] at h'
  simpa using (congrArg (fun o => (o.map Prod.snd)) h').symm
theorem thr_upd_ne {S : PSt} {id t j : Int} {r : PRec} (h : knw S id = true) (hj : j ≠ id) : thr (upd S id r t) j = thr S j := by
  by_cases hk : knw S j = true
  · have h1 := thr_at (S := upd S id r t) (id := j) (by rw [knw_upd h]; exact hk)
    have h2 := thr_at hk
    have h3 := thr_at h
    rw [fnd_upd h] at h1
    have hne : fnd S.rs id ≠ fnd S.rs j := fun c => by
      rw [c, h2] at h3
      exact hj (by simpa using (congrArg (fun o => (o.map Prod.fst)) h3))
    rw [upd_rs, List.getElem?_set_ne hne, h2] at h1
    simpa using (congrArg (fun o => (o.map Prod.snd)) h1).symm
  · have hk' : knw S j = false := by simpa using hk
    rw [thr_not hk', thr_not (by rw [knw_upd h]; exact hk')]
theorem knw_add {S : PSt} {id t : Int} (h : knw S id = false) (j : Int) : knw (add S id t) j = (knw S j || decide (id = j)) := by
  have hk : ¬ fnd S.rs id < S.rs.length := fun c => by rw [knw_iff.2 c] at h; cases h
  unfold knw add
  rw [fnd_snoc]
  by_cases h1 : fnd S.rs j < S.rs.length
  · simp [h1]; omega
  · rw [if_neg h1]
    by_cases h2 : id = j
    · simp [h2]
    · simp [h1, h2]
theorem thr_add {S : PSt} {id t : Int} (h : knw S id = false) (j : Int) : thr (add S id t) j = thr S j := by
  have hk : ¬ fnd S.rs id < S.rs.length := fun c => by rw [knw_iff.2 c] at h; cases h
  unfold thr add
  rw [fnd_snoc]
  by_cases h1 : fnd S.rs j < S.rs.length
  · rw [if_pos h1, List.getElem?_append_left h1]
  · have hle := fnd_le S.rs j
    rw [if_neg h1, List.getElem?_eq_none (l := S.rs) (by omega)]
    by_cases h2 : id = j
    · rw [if_pos h2, List.getElem?_append_right (Nat.le_refl _)]; simp [rec0]
    · rw [if_neg h2, List.getElem?_eq_none (by simp)]
/-! What the calls answer. -/
def basE (id t least : Int) : Int := if (1 ≤ id ∧ id ≤ 128) ∧ (0 ≤ t ∧ t ≤ 1073741824) ∧ least ≤ t then 0 else 2
theorem basE_two (id t least : Int) : basE id t least = 0 ∨ basE id t least = 2 := by unfold basE; split <;> simp
theorem basE_iff {id t least : Int} : basE id t least = 0 ↔ (1 ≤ id ∧ id ≤ 128) ∧ (0 ≤ t ∧ t ≤ 1073741824) ∧ least ≤ t := by
  unfold basE; split
  · simp [*]
  · simp [*]
theorem basE_now {id t n : Int} (h : n ≤ t ∨ n ≤ 0) : basE id t n = basE id t 0 := by
  unfold basE
  by_cases c : (1 ≤ id ∧ id ≤ 128) ∧ (0 ≤ t ∧ t ≤ 1073741824) ∧ n ≤ t
  · rw [if_pos c, if_pos ⟨c.1, c.2.1, by omega⟩]
  · rw [if_neg c, if_neg (fun d => c ⟨d.1, d.2.1, by omega⟩)]
def knE (b : Int) (k : Bool) : Int := if b = 0 then (if k then 0 else 5) else 2
def regE (b : Int) (k : Bool) (birth t : Int) : Int := if b = 0 then (if ageE birth (t / 1440) = 0 then (if k then 6 else if ageN birth (t / 1440) < 18 then 21 else 0) else 2) else 2
def setE (b : Int) (k : Bool) (x y z : Int) : Int := if knE b k = 0 then chk x y z else knE b k
def excE (b : Int) (k : Bool) (t x y : Int) : Int := if knE b k = 0 then (if t ≤ x ∧ x ≤ y ∧ y ≤ 1073741824 then 0 else 2) else knE b k
def barred (l : List (Int × Int)) (t : Int) : Bool := l.any fun p => decide (p.1 ≤ t ∧ t ≤ p.2)
def zP (l : List (Int × Int)) (i j : Nat) : Int := if j = 0 then ((l[i]?).getD (0, 0)).1 else ((l[i]?).getD (0, 0)).2
def alE (b : Int) (k : Bool) (r : PRec) (t m : Int) : Int := if knE b k = 0 then (if barred r.ex t then 20 else alN (zP r.hi) r.hi.length (zC r.ch) r.ch.length t m) else knE b k
def rfE (b : Int) (k : Bool) (m : Int) : Int := if knE b k = 0 then (if amB m then 0 else 2) else knE b k
def spL (b : Int) (k : Bool) (r : PRec) (t kind : Int) : Int := if knE b k = 0 then spN (zP r.hi) r.hi.length t kind else 0
def errL (b b0 : Int) (k : Bool) (r : PRec) (d : PDo) : Int :=
  if d.k = 0 then regE b k d.x d.t else if d.k = 1 then setE b k d.x d.y d.z else if d.k = 2 then excE b k d.t d.x d.y
  else if d.k = 3 then alE b k r d.t d.x else if d.k = 4 then alE b k r d.t d.x else if d.k = 5 then rfE b k d.x else knE b0 k
def limL (b0 : Int) (k : Bool) (r : PRec) (d : PDo) (kind : Int) : Int :=
  if d.k = 0 then 0 else if d.k = 1 then 0 else if d.k = 2 then 0 else if d.k = 3 then 0 else if d.k = 4 then 0 else if d.k = 5 then 0 else spL b0 k r d.t kind
def errD (S : PSt) (d : PDo) : Int := errL (basE d.id d.t S.now) (basE d.id d.t 0) (knw S d.id) (thr S d.id) d
def limD (S : PSt) (d : PDo) (kind : Int) : Int := limL (basE d.id d.t 0) (knw S d.id) (thr S d.id) d kind
def stpD (S : PSt) (d : PDo) : PSt :=
  if errD S d = 0 then
    (if d.k = 0 then add S d.id d.t
    else if d.k = 1 then upd S d.id { thr S d.id with ch := (thr S d.id).ch ++ [(d.t, d.x, d.y, d.z)] } d.t
    else if d.k = 2 then upd S d.id { thr S d.id with ex := (thr S d.id).ex ++ [(d.x, d.y)] } d.t
    else if d.k = 4 then upd S d.id { thr S d.id with hi := (thr S d.id).hi ++ [(d.t, d.x)] } d.t
    else if d.k = 5 then upd S d.id { thr S d.id with hi := (thr S d.id).hi ++ [(d.t, -d.x)] } d.t
    else S)
  else S
/-- How large a state is. -/
def Sz (S : PSt) (n : Nat) : Prop := S.rs.length ≤ n ∧ ∀ p ∈ S.rs, p.2.ch.length ≤ n ∧ p.2.ex.length ≤ n ∧ p.2.hi.length ≤ n
theorem Sz.thr {S : PSt} {n : Nat} (h : Sz S n) (id : Int) : (thr S id).ch.length ≤ n ∧ (thr S id).ex.length ≤ n ∧ (thr S id).hi.length ≤ n := by
  by_cases hk : knw S id = true
  · exact h.2 _ (List.mem_of_getElem? (thr_at hk))
  · rw [thr_not (by simpa using hk)]; simp [rec0]
theorem Sz.mono {S : PSt} {n m : Nat} (h : Sz S n) (hm : n ≤ m) : Sz S m := ⟨by have := h.1; omega, fun p hp => by have := h.2 p hp; omega⟩
theorem Sz.upd {S : PSt} {n : Nat} (h : Sz S n) {id t : Int} {r : PRec} (hr : r.ch.length ≤ n ∧ r.ex.length ≤ n ∧ r.hi.length ≤ n) : Sz (upd S id r t) n :=
  ⟨by simpa [Proofs.YtainelkenkgppaaDoor.upd] using h.1, fun p hp => by
    rcases List.mem_or_eq_of_mem_set hp with h1 | h1
    · exact h.2 p h1
    · rw [h1]; exact hr⟩
theorem Sz.add {S : PSt} {n : Nat} (h : Sz S n) {id t : Int} : Sz (add S id t) (n + 1) :=
  ⟨by have := h.1; simp [Proofs.YtainelkenkgppaaDoor.add]; exact this, fun p hp => by
    rcases List.mem_append.1 hp with h1 | h1
    · have := h.2 p h1; omega
    · simp at h1; rw [h1]; simp [rec0]⟩
theorem Sz.stp {S : PSt} {n : Nat} (h : Sz S n) (d : PDo) : Sz (stpD S d) (n + 1) := by
  have ht := h.thr d.id
  have h1 := h.mono (Nat.le_succ n)
  unfold stpD
  split
  · split
    · exact h.add
    · split
      · exact h1.upd (by simp; omega)
      · split
        · exact h1.upd (by simp; omega)
        · split
          · exact h1.upd (by simp; omega)
          · split
            · exact h1.upd (by simp; omega)
            · exact h1
  · exact h1
theorem sz0 : Sz ps0 0 := ⟨Nat.le_refl _, fun p hp => by cases hp⟩
end Go.Proofs.YtainelkenkgppaaDoor
