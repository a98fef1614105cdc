/- TopOnce: the plain states of the three terminals and the register, and what each event keeps. No program stands in this text. -/
import Derived.Test.YtnnocbelgfhecaaGreatDoorKit
namespace Go.Lott.Tp
/-- A ticket: terminal, its number there, the time of sale, and the two numbers. -/
structure Tk where
  tm : Nat
  sq : Nat
  at_ : Nat
  x : Nat
  y : Nat
def Tk.key (t : Tk) : Nat × Nat := (t.tm, t.sq)
/-- The draw that is sold at a time, and the close of a draw. -/
def fst (t : Nat) : Nat := (t + 30) / 10080 + (if 1230 ≤ (t + 30) % 10080 then 1 else 0) + 1
def clo (n : Nat) : Nat := (n - 1) * 10080 + 1200
theorem fst_pos (t : Nat) : 1 ≤ fst t := by unfold fst; omega
theorem fst_open (t : Nat) : t < clo (fst t) := by
  unfold clo fst
  split <;> omega
theorem fst_le {t : Nat} (h : t ≤ 160000) : fst t ≤ 18 := by
  unfold fst
  split <;> omega
def Tk.fr (t : Tk) : Nat := fst t.at_
structure Tm where
  nx : Nat
  on : Bool
  wt : List Tk
def tm0 : Tm := ⟨1, true, []⟩
structure Sy where
  reg : List Tk
  tms : Nat → Tm
def sy0 : Sy := ⟨[], fun _ => tm0⟩
def upT (f : Nat → Tm) (k : Nat) (t : Tm) : Nat → Tm := fun j => if j = k then t else f j
theorem upT_same (f : Nat → Tm) (k : Nat) (t : Tm) : upT f k t k = t := if_pos rfl
theorem upT_ne {f : Nat → Tm} {k j : Nat} (t : Tm) (h : j ≠ k) : upT f k t j = f j := if_neg h
/-- Does the register still take a waiting ticket at a time? -/
def fresh (at_ : Nat) (t : Tk) : Bool := decide (at_ < clo t.fr)
/-- The events. -/
def drop (S : Sy) (k : Nat) : Sy := { S with tms := upT S.tms k { S.tms k with on := false } }
def sold (S : Sy) (k at_ x y : Nat) : Tk := ⟨k + 1, (S.tms k).nx, at_, x, y⟩
def sellOn (S : Sy) (k at_ x y : Nat) : Sy := ⟨S.reg ++ [sold S k at_ x y], upT S.tms k { S.tms k with nx := (S.tms k).nx + 1 }⟩
def sellOff (S : Sy) (k at_ x y : Nat) : Sy := { S with tms := upT S.tms k ⟨(S.tms k).nx + 1, (S.tms k).on, (S.tms k).wt ++ [sold S k at_ x y]⟩ }
def restore (S : Sy) (k at_ : Nat) : Sy := ⟨S.reg ++ (S.tms k).wt.filter (fresh at_), upT S.tms k ⟨(S.tms k).nx, true, []⟩⟩
/-- What holds behind i events: nums: the numbers of all receipts; r: how many were refused; m: the greatest first draw; T: the time. -/
structure Inv (S : Sy) (nums : List (Nat × Nat)) (r m T i : Nat) : Prop where
  nd : nums.Nodup
  ln : nums.length ≤ i
  nx : ∀ k, k < 3 → 1 ≤ (S.tms k).nx ∧ (S.tms k).nx ≤ i + 1
  lt : ∀ p ∈ nums, ∀ k, k < 3 → p.1 = k + 1 → p.2 < (S.tms k).nx
  rg : ∀ t ∈ S.reg, t.key ∈ nums ∧ t.fr ≤ m ∧ t.at_ ≤ T
  wt : ∀ k, k < 3 → ∀ t ∈ (S.tms k).wt, t.key ∈ nums ∧ t.fr ≤ m ∧ t.at_ ≤ T ∧ t.tm = k + 1
  rd : (S.reg.map Tk.key).Nodup
  wd : ∀ k, k < 3 → ((S.tms k).wt.map Tk.key).Nodup
  dj : ∀ k, k < 3 → ∀ t ∈ (S.tms k).wt, ∀ u ∈ S.reg, t.key ≠ u.key
  w5 : ∀ k, k < 3 → (S.tms k).wt.length ≤ 5
  on : ∀ k, k < 3 → (S.tms k).on = true → (S.tms k).wt = []
  ct : S.reg.length + ((S.tms 0).wt.length + (S.tms 1).wt.length + (S.tms 2).wt.length) + r = nums.length
theorem inv0 : Inv sy0 [] 0 0 0 0 where
  nd := List.nodup_nil
  ln := Nat.le_refl _
  nx := fun _ _ => ⟨Nat.le_refl _, Nat.le_refl _⟩
  lt := fun _ h => absurd h (by simp)
  rg := fun _ h => absurd h (by simp [sy0])
  wt := fun _ _ _ h => absurd h (by simp [sy0, tm0])
  rd := List.nodup_nil
  wd := fun _ _ => List.nodup_nil
  dj := fun _ _ _ h => absurd h (by simp [sy0, tm0])
  w5 := fun _ _ => Nat.zero_le _
  on := fun _ _ _ => rfl
  ct := rfl
section
variable {S : Sy} {nums : List (Nat × Nat)} {r m T i : Nat}
/-- Time goes on, and events go by. -/
theorem Inv.later (h : Inv S nums r m T i) {T' : Nat} (hT : T ≤ T') : Inv S nums r m T' (i + 1) where
  nd := h.nd
  ln := by have := h.ln; omega
  nx := fun k hk => by have := h.nx k hk; omega
  lt := h.lt
  rg := fun t ht => by have := h.rg t ht; exact ⟨this.1, this.2.1, by omega⟩
  wt := fun k hk t ht => by have := h.wt k hk t ht; exact ⟨this.1, this.2.1, by omega, this.2.2.2⟩
  rd := h.rd
  wd := h.wd
  dj := h.dj
  w5 := h.w5
  on := h.on
  ct := h.ct
theorem Inv.new (h : Inv S nums r m T i) {k : Nat} (hk : k < 3) : (k + 1, (S.tms k).nx) ∉ nums := fun c => by
  have := h.lt _ c k hk rfl; simp at this
theorem len3 (f : Nat → Tm) {k : Nat} (hk : k < 3) (t : Tm) : (f k).wt.length + ((upT f k t 0).wt.length + (upT f k t 1).wt.length + (upT f k t 2).wt.length) = t.wt.length + ((f 0).wt.length + (f 1).wt.length + (f 2).wt.length) := by
  rcases (show k = 0 ∨ k = 1 ∨ k = 2 by omega) with rfl | rfl | rfl <;> simp [upT] <;> omega
theorem Inv.drop (h : Inv S nums r m T i) {k : Nat} (hk : k < 3) : Inv (drop S k) nums r m T i := by
  have e : ∀ j, ((Tp.drop S k).tms j).nx = (S.tms j).nx ∧ ((Tp.drop S k).tms j).wt = (S.tms j).wt ∧ (((Tp.drop S k).tms j).on = true → (S.tms j).on = true) := fun j => by
    unfold Tp.drop
    by_cases c : j = k
    · subst c; simp [upT_same]
    · simp [upT_ne _ c]
  exact {
    nd := h.nd
    ln := h.ln
    nx := fun j hj => by rw [(e j).1]; exact h.nx j hj
    lt := fun p hp j hj hpj => by rw [(e j).1]; exact h.lt p hp j hj hpj
    rg := h.rg
    wt := fun j hj t ht => h.wt j hj t (by rw [← (e j).2.1]; exact ht)
    rd := h.rd
    wd := fun j hj => by rw [(e j).2.1]; exact h.wd j hj
    dj := fun j hj t ht => h.dj j hj t (by rw [← (e j).2.1]; exact ht)
    w5 := fun j hj => by rw [(e j).2.1]; exact h.w5 j hj
    on := fun j hj c => by rw [(e j).2.1]; exact h.on j hj ((e j).2.2 c)
    ct := by rw [(e 0).2.1, (e 1).2.1, (e 2).2.1]; exact h.ct }
theorem nodup_snoc {α : Type} {l : List α} {a : α} (h : l.Nodup) (ha : a ∉ l) : (l ++ [a]).Nodup := by
  rw [List.nodup_append]
  exact ⟨h, by simp, fun x hx y hy => by simp at hy; subst hy; exact fun e => ha (e ▸ hx)⟩
theorem Inv.sellOn (h : Inv S nums r m T i) {k x y : Nat} (hk : k < 3) (hon : (S.tms k).on = true) : Inv (sellOn S k T x y) (nums ++ [(k + 1, (S.tms k).nx)]) r (max m (fst T)) T (i + 1) := by
  have hn := h.new hk
  have e : ∀ j, ((Tp.sellOn S k T x y).tms j).wt = (S.tms j).wt ∧ ((Tp.sellOn S k T x y).tms j).on = (S.tms j).on ∧ (S.tms j).nx ≤ ((Tp.sellOn S k T x y).tms j).nx ∧ ((Tp.sellOn S k T x y).tms j).nx ≤ (S.tms j).nx + 1 := fun j => by
    unfold Tp.sellOn
    by_cases c : j = k
    · subst c; simp [upT_same]
    · simp [upT_ne _ c]
  have ek : ((Tp.sellOn S k T x y).tms k).nx = (S.tms k).nx + 1 := by unfold Tp.sellOn; simp [upT_same]
  have hw := h.on k hk hon
  exact {
    nd := nodup_snoc h.nd hn
    ln := by have := h.ln; simp; omega
    nx := fun j hj => by have := h.nx j hj; have := (e j).2.2; omega
    lt := fun p hp j hj hpj => by
      rcases List.mem_append.1 hp with c | c
      · have := h.lt p c j hj hpj; have := (e j).2.2.1; omega
      · simp at c
        subst c
        simp at hpj
        subst hpj
        rw [ek]; simp
    rg := fun t ht => by
      rcases List.mem_append.1 ht with c | c
      · have := h.rg t c
        exact ⟨List.mem_append_left _ this.1, by omega, this.2.2⟩
      · simp at c
        subst c
        exact ⟨List.mem_append_right _ (by simp [Tk.key, sold]), by simp [Tk.fr, sold]; omega, Nat.le_refl _⟩
    wt := fun j hj t ht => by
      rw [(e j).1] at ht
      have := h.wt j hj t ht
      exact ⟨List.mem_append_left _ this.1, by omega, this.2.2⟩
    rd := by
      show ((S.reg ++ [_]).map Tk.key).Nodup
      rw [List.map_append]
      exact nodup_snoc h.rd (fun c => by
        obtain ⟨t, ht, hte⟩ := List.mem_map.1 c
        exact hn (by have := (h.rg t ht).1; rw [hte] at this; exact this))
    wd := fun j hj => by rw [(e j).1]; exact h.wd j hj
    dj := fun j hj t ht u hu => by
      rw [(e j).1] at ht
      rcases List.mem_append.1 hu with c | c
      · exact h.dj j hj t ht u c
      · simp at c
        subst c
        exact fun c => hn (by have := (h.wt j hj t ht).1; rw [c] at this; exact this)
    w5 := fun j hj => by rw [(e j).1]; exact h.w5 j hj
    on := fun j hj c => by rw [(e j).1]; exact h.on j hj ((e j).2.1 ▸ c)
    ct := by
      have := h.ct
      rw [(e 0).1, (e 1).1, (e 2).1]
      simp [Tp.sellOn]
      omega }
theorem Inv.sellOff (h : Inv S nums r m T i) {k x y : Nat} (hk : k < 3) (hon : (S.tms k).on = false) (h5 : (S.tms k).wt.length < 5) : Inv (sellOff S k T x y) (nums ++ [(k + 1, (S.tms k).nx)]) r (max m (fst T)) T (i + 1) := by
  have hn := h.new hk
  have e : ∀ j, j ≠ k → (Tp.sellOff S k T x y).tms j = S.tms j := fun j c => by unfold Tp.sellOff; simp [upT_ne _ c]
  have ek : (Tp.sellOff S k T x y).tms k = ⟨(S.tms k).nx + 1, (S.tms k).on, (S.tms k).wt ++ [sold S k T x y]⟩ := by unfold Tp.sellOff; simp [upT_same]
  have hnew : ∀ u : Tk, u.key ∈ nums → u.key ≠ (sold S k T x y).key := fun u hu c => hn (by rw [c] at hu; exact hu)
  exact {
    nd := nodup_snoc h.nd hn
    ln := by have := h.ln; simp; omega
    nx := fun j hj => by
      have := h.nx j hj
      by_cases c : j = k
      · subst c; rw [ek]; simp; omega
      · rw [e j c]; omega
    lt := fun p hp j hj hpj => by
      have hge : (S.tms j).nx ≤ ((Tp.sellOff S k T x y).tms j).nx := by
        by_cases c : j = k
        · subst c; rw [ek]; simp
        · rw [e j c]; exact Nat.le_refl _
      rcases List.mem_append.1 hp with c | c
      · have := h.lt p c j hj hpj; omega
      · simp at c
        subst c
        simp at hpj
        subst hpj
        rw [ek]; simp
    rg := fun t ht => by
      have := h.rg t ht
      exact ⟨List.mem_append_left _ this.1, by omega, this.2.2⟩
    wt := fun j hj t ht => by
      by_cases c : j = k
      · subst c
        rw [ek] at ht
        rcases List.mem_append.1 ht with d | d
        · have := h.wt j hj t d
          exact ⟨List.mem_append_left _ this.1, by omega, this.2.2⟩
        · simp at d
          subst d
          exact ⟨List.mem_append_right _ (by simp [Tk.key, sold]), by simp [Tk.fr, sold]; omega, Nat.le_refl _, rfl⟩
      · rw [e j c] at ht
        have := h.wt j hj t ht
        exact ⟨List.mem_append_left _ this.1, by omega, this.2.2⟩
    rd := h.rd
    wd := fun j hj => by
      by_cases c : j = k
      · subst c
        rw [ek]
        show (((S.tms j).wt ++ [_]).map Tk.key).Nodup
        rw [List.map_append]
        exact nodup_snoc (h.wd j hj) (fun c => by
          obtain ⟨t, ht, hte⟩ := List.mem_map.1 c
          exact hnew t (h.wt j hj t ht).1 hte)
      · rw [e j c]; exact h.wd j hj
    dj := fun j hj t ht u hu => by
      by_cases c : j = k
      · subst c
        rw [ek] at ht
        rcases List.mem_append.1 ht with d | d
        · exact h.dj j hj t d u hu
        · simp at d
          subst d
          exact (hnew u (h.rg u hu).1).symm
      · rw [e j c] at ht
        exact h.dj j hj t ht u hu
    w5 := fun j hj => by
      by_cases c : j = k
      · subst c; rw [ek]; simp; omega
      · rw [e j c]; exact h.w5 j hj
    on := fun j hj c => by
      by_cases d : j = k
      · subst d; rw [ek] at c; simp [hon] at c
      · rw [e j d] at c ⊢; exact h.on j hj c
    ct := by
      have := h.ct
      have h3 := len3 S.tms hk ⟨(S.tms k).nx + 1, (S.tms k).on, (S.tms k).wt ++ [sold S k T x y]⟩
      simp [Tp.sellOff] at h3 ⊢
      omega }
theorem filter_split {α : Type} (l : List α) (p : α → Bool) : (l.filter p).length + (l.filter fun x => !p x).length = l.length := by
  induction l with
  | nil => rfl
  | cons a l ih =>
    by_cases h : p a = true
    · simp [h]; omega
    · simp [h]; omega
theorem Inv.restore (h : Inv S nums r m T i) {k : Nat} (hk : k < 3) : Inv (restore S k T) nums (r + ((S.tms k).wt.filter fun t => !fresh T t).length) m T i := by
  have e : ∀ j, j ≠ k → (Tp.restore S k T).tms j = S.tms j := fun j c => by unfold Tp.restore; simp [upT_ne _ c]
  have ek : (Tp.restore S k T).tms k = ⟨(S.tms k).nx, true, []⟩ := by unfold Tp.restore; simp [upT_same]
  have enx : ∀ j, ((Tp.restore S k T).tms j).nx = (S.tms j).nx := fun j => by
    by_cases c : j = k
    · subst c; rw [ek]
    · rw [e j c]
  exact {
    nd := h.nd
    ln := h.ln
    nx := fun j hj => by rw [enx]; exact h.nx j hj
    lt := fun p hp j hj hpj => by rw [enx]; exact h.lt p hp j hj hpj
    rg := fun t ht => by
      rcases List.mem_append.1 ht with c | c
      · exact h.rg t c
      · have := h.wt k hk t (List.mem_filter.1 c).1
        exact ⟨this.1, this.2.1, this.2.2.1⟩
    wt := fun j hj t ht => by
      by_cases c : j = k
      · subst c; rw [ek] at ht; cases ht
      · rw [e j c] at ht; exact h.wt j hj t ht
    rd := by
      show ((S.reg ++ _).map Tk.key).Nodup
      rw [List.map_append, List.nodup_append]
      refine ⟨h.rd, (h.wd k hk).sublist (List.filter_sublist.map _), fun a ha b hb c => ?_⟩
      obtain ⟨u, hu, rfl⟩ := List.mem_map.1 ha
      obtain ⟨t, ht, rfl⟩ := List.mem_map.1 hb
      exact h.dj k hk t (List.mem_filter.1 ht).1 u hu c.symm
    wd := fun j hj => by
      by_cases c : j = k
      · subst c; rw [ek]; exact List.nodup_nil
      · rw [e j c]; exact h.wd j hj
    dj := fun j hj t ht u hu => by
      by_cases c : j = k
      · subst c; rw [ek] at ht; cases ht
      · rw [e j c] at ht
        rcases List.mem_append.1 hu with d | d
        · exact h.dj j hj t ht u d
        · intro c2
          have h1 := (h.wt j hj t ht).2.2.2
          have h2 := (h.wt k hk u (List.mem_filter.1 d).1).2.2.2
          have h3 : t.tm = u.tm := congrArg Prod.fst c2
          omega
    w5 := fun j hj => by
      by_cases c : j = k
      · subst c; rw [ek]; simp
      · rw [e j c]; exact h.w5 j hj
    on := fun j hj c => by
      by_cases d : j = k
      · subst d; rw [ek]
      · rw [e j d] at c ⊢; exact h.on j hj c
    ct := by
      have := h.ct
      have h3 := len3 S.tms hk ⟨(S.tms k).nx, true, []⟩
      have h4 := filter_split (S.tms k).wt (fresh T)
      simp [Tp.restore] at h3 ⊢
      omega }
end
/-- The tickets of a draw; all of them, draw by draw. -/
def ofDraw (l : List Tk) (n : Nat) : List Tk := l.filter fun t => t.fr == n
def upto (l : List Tk) : Nat → List Tk
  | 0 => []
  | n + 1 => upto l n ++ ofDraw l (n + 1)
theorem upto_mem {l : List Tk} {t : Tk} : ∀ {n : Nat}, t ∈ upto l n ↔ t ∈ l ∧ 1 ≤ t.fr ∧ t.fr ≤ n
  | 0 => by simp [upto]; omega
  | n + 1 => by
    rw [upto, List.mem_append, upto_mem]
    simp [ofDraw]
    by_cases h : t ∈ l <;> simp [h]
    omega
theorem upto_len (l : List Tk) : ∀ n, (upto l n).length = (l.filter fun t => decide (1 ≤ t.fr ∧ t.fr ≤ n)).length
  | 0 => by
    have : (l.filter fun t => decide (1 ≤ t.fr ∧ t.fr ≤ 0)) = [] := by rw [List.filter_eq_nil_iff]; intro t _; simp; omega
    rw [this]; rfl
  | n + 1 => by
    rw [upto, List.length_append, upto_len l n]
    unfold ofDraw
    induction l with
    | nil => rfl
    | cons a l ih =>
      have h1 : (1 ≤ a.fr ∧ a.fr ≤ n + 1) ↔ (1 ≤ a.fr ∧ a.fr ≤ n) ∨ a.fr = n + 1 := by omega
      by_cases h2 : 1 ≤ a.fr ∧ a.fr ≤ n
      · have h3 : ¬ a.fr = n + 1 := by omega
        have h4 : 1 ≤ a.fr ∧ a.fr ≤ n + 1 := by omega
        simp only [List.filter_cons, h2, h4, and_self, decide_true, if_true, List.length_cons, beq_eq_false_iff_ne.2 h3, if_false, Bool.false_eq_true]
        omega
      · by_cases h3 : a.fr = n + 1
        · have h4 : 1 ≤ a.fr ∧ a.fr ≤ n + 1 := by omega
          simp only [List.filter_cons, decide_eq_false h2, decide_eq_true h4, beq_iff_eq.2 h3, if_true, if_false, Bool.false_eq_true, List.length_cons]
          omega
        · have h4 : ¬ (1 ≤ a.fr ∧ a.fr ≤ n + 1) := by omega
          simp only [List.filter_cons, decide_eq_false h2, decide_eq_false h4, beq_eq_false_iff_ne.2 h3, if_false, Bool.false_eq_true]
          omega
theorem upto_all {l : List Tk} {m : Nat} (h : ∀ t ∈ l, t.fr ≤ m) : (upto l m).length = l.length := by
  rw [upto_len]
  congr 1
  rw [List.filter_eq_self]
  intro t ht
  simp
  exact ⟨fst_pos _, h t ht⟩
end Go.Lott.Tp
