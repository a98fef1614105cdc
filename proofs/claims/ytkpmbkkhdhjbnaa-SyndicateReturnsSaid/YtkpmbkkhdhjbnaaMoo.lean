/- money.Split: the program's function. -/
import Derived.Test.YtkpmbkkhdhjbnaaMon
import Derived.BigRegion
namespace Go.Lott.Spl
/-- The quotients, the remainders, what is left. -/
def qv (m t : Int) (ws : Nat → Int) (i : Nat) : Int := m * ws i / t
def rv (m t : Int) (ws : Nat → Int) (i : Nat) : Int := m * ws i % t
def lf (m : Int) (ws : Nat → Int) (n : Nat) : Int := m - sm (qv m (sm ws n) ws) n
structure SOk (m : Int) (ws : Nat → Int) (n : Nat) : Prop where
  m0 : 0 ≤ m
  m1 : m ≤ 1000000000000
  n1 : 1 ≤ n
  n2 : n ≤ 64
  wv : ∀ i, i < n → 0 ≤ ws i ∧ ws i ≤ 1000000000000
  t1 : 1 ≤ sm ws n
theorem SOk.tle {m : Int} {ws : Nat → Int} {n : Nat} (h : SOk m ws n) : sm ws n ≤ 64000000000000 := by
  have := sm_bound (f := ws) (M := 1000000000000) (n := n) (fun k hk => (h.wv k hk).2)
  have := h.n2; omega
theorem SOk.q {m : Int} {ws : Nat → Int} {n : Nat} (h : SOk m ws n) {i : Nat} (hi : i < n) :
    0 ≤ qv m (sm ws n) ws i ∧ qv m (sm ws n) ws i ≤ m ∧ 0 ≤ rv m (sm ws n) ws i ∧ rv m (sm ws n) ws i ≤ sm ws n - 1 ∧ sm ws n * qv m (sm ws n) ws i + rv m (sm ws n) ws i = m * ws i := by
  have hw := h.wv i hi
  have ht := h.t1
  have hp : 0 ≤ m * ws i := Int.mul_nonneg h.m0 hw.1
  have hle := sm_term (fun k hk => (h.wv k hk).1) hi
  unfold qv rv
  refine ⟨Int.ediv_nonneg hp (by omega), ?_, Int.emod_nonneg _ (by omega), ?_, Int.mul_ediv_add_emod _ _⟩
  · have h1 : m * ws i ≤ m * sm ws n := Int.mul_le_mul_of_nonneg_left hle h.m0
    have h2 := Int.ediv_le_ediv (show 0 < sm ws n by omega) h1
    rw [Int.mul_ediv_cancel _ (show sm ws n ≠ 0 by omega)] at h2; exact h2
  · have := Int.emod_lt_of_pos (m * ws i) (show 0 < sm ws n by omega); omega
theorem SOk.sum {m : Int} {ws : Nat → Int} {n : Nat} (h : SOk m ws n) : sm (rv m (sm ws n) ws) n = sm ws n * lf m ws n := by
  have h1 : sm (fun i => sm ws n * qv m (sm ws n) ws i + rv m (sm ws n) ws i) n = sm (fun i => m * ws i) n := sm_congr fun k hk => (h.q hk).2.2.2.2
  rw [sm_add, sm_mul, sm_mul] at h1
  unfold lf
  rw [Int.mul_sub, Int.mul_comm (sm ws n) m]
  omega
theorem SOk.left {m : Int} {ws : Nat → Int} {n : Nat} (h : SOk m ws n) : 0 ≤ lf m ws n ∧ lf m ws n < (n : Int) := by
  have ht := h.t1
  have h1 := h.sum
  have h2 : 0 ≤ sm (rv m (sm ws n) ws) n := sm_nonneg fun k hk => (h.q hk).2.2.1
  have h3 := sm_bound (f := rv m (sm ws n) ws) (M := sm ws n - 1) (n := n) (fun k hk => (h.q hk).2.2.2.1)
  have hn := h.n1
  constructor
  · rcases Int.lt_or_le (lf m ws n) 0 with c | c
    · have := Int.mul_neg_of_pos_of_neg (show 0 < sm ws n by omega) c; omega
    · exact c
  · rcases Int.lt_or_le (lf m ws n) n with c | c
    · exact c
    · have h4 : sm ws n * (n : Int) ≤ sm ws n * lf m ws n := Int.mul_le_mul_of_nonneg_left c (by omega)
      rw [Int.sub_mul, Int.one_mul] at h3
      omega
theorem SOk.part {m : Int} {ws : Nat → Int} {n : Nat} (h : SOk m ws n) {i : Nat} (hi : i ≤ n) : 0 ≤ sm (qv m (sm ws n) ws) i ∧ sm (qv m (sm ws n) ws) i ≤ m := by
  have h1 : 0 ≤ sm (qv m (sm ws n) ws) i := sm_nonneg fun k hk => (h.q (by omega)).1
  have h2 := sm_mono (f := qv m (sm ws n) ws) (n := n) (fun k hk => (h.q hk).1) hi
  have h3 := h.left.1
  unfold lf at h3
  exact ⟨h1, by omega⟩
/-- What each weight gets. -/
def IsSpl (m : Int) (n : Nat) (ws P : Nat → Int) : Prop := ∃ o, Ord (rv m (sm ws n) ws) n o ∧ ∀ i, i < n → P i = qv m (sm ws n) ws i + pick o (lf m ws n).toNat i
theorem IsSpl.unique {m : Int} {n : Nat} {ws P P' : Nat → Int} (h : IsSpl m n ws P) (h' : IsSpl m n ws P') : ∀ i, i < n → P i = P' i := fun i hi => by
  obtain ⟨o, ho, hp⟩ := h
  obtain ⟨o', ho', hp'⟩ := h'
  rw [hp i hi, hp' i hi, ho.unique ho']
/-- The error of a split. -/
def wB (ws : Nat → Int) (n : Nat) : Bool := (List.range n).all fun i => decide (0 ≤ ws i ∧ ws i ≤ 1000000000000)
theorem wB_iff (ws : Nat → Int) (n : Nat) : wB ws n = true ↔ ∀ i, i < n → 0 ≤ ws i ∧ ws i ≤ 1000000000000 := by
  unfold wB; rw [List.all_eq_true]
  constructor
  · intro h i hi; exact of_decide_eq_true (h i (List.mem_range.2 hi))
  · intro h i hi; exact decide_eq_true (h i (List.mem_range.1 hi))
def splE (m : Int) (n : Nat) (ws : Nat → Int) : Int :=
  if ¬ (0 ≤ m ∧ m ≤ 1000000000000) then 2 else if n = 0 ∨ 64 < n then 3 else if wB ws n then (if sm ws n = 0 then 10 else 0) else 2
theorem splE_am {m : Int} {n : Nat} {ws : Nat → Int} (h : ¬ (0 ≤ m ∧ m ≤ 1000000000000)) : splE m n ws = 2 := by unfold splE; rw [if_pos h]
theorem splE_len {m : Int} {n : Nat} {ws : Nat → Int} (h : 0 ≤ m ∧ m ≤ 1000000000000) (hn : n = 0 ∨ 64 < n) : splE m n ws = 3 := by unfold splE; rw [if_neg (by omega), if_pos hn]
theorem splE_w {m : Int} {n : Nat} {ws : Nat → Int} (h : 0 ≤ m ∧ m ≤ 1000000000000) (hn : ¬ (n = 0 ∨ 64 < n)) {i : Nat} (hi : i < n) (hw : ¬ (0 ≤ ws i ∧ ws i ≤ 1000000000000)) : splE m n ws = 2 := by
  have : wB ws n = false := by
    cases c : wB ws n with
    | false => rfl
    | true => exact (hw ((wB_iff ws n).1 c i hi)).elim
  unfold splE; rw [if_neg (by omega), if_neg hn, this]; rfl
theorem splE_zero {m : Int} {n : Nat} {ws : Nat → Int} (h : 0 ≤ m ∧ m ≤ 1000000000000) (hn : ¬ (n = 0 ∨ 64 < n)) (hw : ∀ i, i < n → 0 ≤ ws i ∧ ws i ≤ 1000000000000) (ht : sm ws n = 0) : splE m n ws = 10 := by
  unfold splE; rw [if_neg (by omega), if_neg hn, (wB_iff ws n).2 hw, if_pos ht]; rfl
theorem splE_ok {m : Int} {n : Nat} {ws : Nat → Int} (h : SOk m ws n) : splE m n ws = 0 := by
  have := h.m0; have := h.m1; have := h.n1; have := h.n2; have := h.t1
  unfold splE; rw [if_neg (fun c => c ⟨h.m0, h.m1⟩), if_neg (by omega), (wB_iff ws n).2 h.wv, if_pos rfl, if_neg (by omega)]
theorem all_next {ws : Nat → Int} {k : Nat} (h : ∀ j, j < k → 0 ≤ ws j ∧ ws j ≤ 1000000000000) (hk : 0 ≤ ws k ∧ ws k ≤ 1000000000000) : ∀ j, j < k + 1 → 0 ≤ ws j ∧ ws j ≤ 1000000000000 := fun j hj => by
  rcases Nat.lt_or_ge j k with c | c
  · exact h j c
  · obtain rfl : j = k := by omega
    exact hk
end Go.Lott.Spl
namespace Go.Proofs.Ytkpmbkkhdhjbnaa
open Go.ChangeShapes Go.WideShapes Go.ChangeAt Go.RowKit Go.Lott
open Go.Shelf Go.Lib Go.Sort Go.Lott.Stb Go.Lott.Spl

/-- What a split leaves: the error, or a list of the parts. -/
def SplPost (m : Int) (n : Nat) (ws : Nat → Int) (w : World) (e : Ending) (w' : World) : Prop :=
  Below w.heap.size w w' ∧ ((SOk m ws n ∧ ∃ b cap P, e = .returned (.tuple #[.slice (some ⟨b, 0, none⟩) n cap, .int .i64 0]) ∧ IsRow w' (some ⟨b, 0, none⟩) n P ∧ IsSpl m n ws P) ∨
    (splE m n ws ≠ 0 ∧ e = .returned (.tuple #[.slice none 0 0, .int .i64 (splE m n ws)])))
theorem spl_err {m : Int} {n : Nat} {ws : Nat → Int} {w w' : World} {E : Int} (hb : Below w.heap.size w w') (h : splE m n ws = E) (h0 : E ≠ 0) : SplPost m n ws w (.returned (.tuple #[.slice none 0 0, .int .i64 E])) w' :=
  ⟨hb, .inr ⟨by rw [h]; exact h0, by rw [h]⟩⟩
/-- The memory of a split: the parts, the remainders, the order, what is left; and the cells that hold the three slices. -/
structure SplS (w : World) (k P0 bP R0 bR O0 bO bL : Nat) (P R O : Nat → Int) (L : Int) (wr : World) : Prop where
  bel : Below w.heap.size w wr
  p : Cel wr P0 (fv k P) 3
  bp : Cel wr bP #[.slice (some ⟨P0, 0, none⟩) k k] 22
  r : Cel wr R0 (fv k R) 3
  br : Cel wr bR #[.slice (some ⟨R0, 0, none⟩) k k] 22
  o : Cel wr O0 (fv k O) 3
  bo : Cel wr bO #[.slice (some ⟨O0, 0, none⟩) k k] 22
  l : Cel wr bL #[.int .i64 L] 3
structure SplN (w : World) (P0 bP R0 bR O0 bO bL : Nat) : Prop where
  h0 : w.heap.size ≤ P0
  h1 : P0 < bP
  h2 : bP < R0
  h3 : R0 < bR
  h4 : bR < O0
  h5 : O0 < bO
  h6 : bO < bL
section
variable {w wr w1 : World} {k P0 bP R0 bR O0 bO bL : Nat} {P R O : Nat → Int} {L : Int}
theorem SplS.next (h : SplS w k P0 bP R0 bR O0 bO bL P R O L wr) (hb : Below wr.heap.size wr w1) : SplS w k P0 bP R0 bR O0 bO bL P R O L w1 :=
  ⟨h.bel.trans (hb.mono h.bel.size), h.p.below hb h.p.lt, h.bp.below hb h.bp.lt, h.r.below hb h.r.lt, h.br.below hb h.br.lt, h.o.below hb h.o.lt, h.bo.below hb h.bo.lt, h.l.below hb h.l.lt⟩
theorem SplS.drew (h : SplS w k P0 bP R0 bR O0 bO bL P R O L wr) : SplS w k P0 bP R0 bR O0 bO bL P R O L wr.drew :=
  ⟨h.bel.drew, h.p.drew, h.bp.drew, h.r.drew, h.br.drew, h.o.drew, h.bo.drew, h.l.drew⟩
theorem SplS.stP (h : SplS w k P0 bP R0 bR O0 bO bL P R O L wr) (N : SplN w P0 bP R0 bR O0 bO bL) (i : Nat) (x : Int) : SplS w k P0 bP R0 bR O0 bO bL (fun j => if j = i then x else P j) R O L (wr.setCell ⟨P0, i, none⟩ (.int .i64 x)) := by
  obtain ⟨h0, h1, h2, h3, h4, h5, h6⟩ := N
  exact ⟨h.bel.setCell (by omega) _, h.p.put i x, h.bp.other (by simp; omega) _, h.r.other (by simp; omega) _, h.br.other (by simp; omega) _, h.o.other (by simp; omega) _, h.bo.other (by simp; omega) _, h.l.other (by simp; omega) _⟩
theorem SplS.stR (h : SplS w k P0 bP R0 bR O0 bO bL P R O L wr) (N : SplN w P0 bP R0 bR O0 bO bL) (i : Nat) (x : Int) : SplS w k P0 bP R0 bR O0 bO bL P (fun j => if j = i then x else R j) O L (wr.setCell ⟨R0, i, none⟩ (.int .i64 x)) := by
  obtain ⟨h0, h1, h2, h3, h4, h5, h6⟩ := N
  exact ⟨h.bel.setCell (by simp; omega) _, h.p.other (by simp; omega) _, h.bp.other (by simp; omega) _, h.r.put i x, h.br.other (by simp; omega) _, h.o.other (by simp; omega) _, h.bo.other (by simp; omega) _, h.l.other (by simp; omega) _⟩
theorem SplS.stO (h : SplS w k P0 bP R0 bR O0 bO bL P R O L wr) (N : SplN w P0 bP R0 bR O0 bO bL) (i : Nat) (x : Int) : SplS w k P0 bP R0 bR O0 bO bL P R (fun j => if j = i then x else O j) L (wr.setCell ⟨O0, i, none⟩ (.int .i64 x)) := by
  obtain ⟨h0, h1, h2, h3, h4, h5, h6⟩ := N
  exact ⟨h.bel.setCell (by simp; omega) _, h.p.other (by simp; omega) _, h.bp.other (by simp; omega) _, h.r.other (by simp; omega) _, h.br.other (by simp; omega) _, h.o.put i x, h.bo.other (by simp; omega) _, h.l.other (by simp; omega) _⟩
theorem SplS.stL (h : SplS w k P0 bP R0 bR O0 bO bL P R O L wr) (N : SplN w P0 bP R0 bR O0 bO bL) (x : Int) : SplS w k P0 bP R0 bR O0 bO bL P R O x (wr.setCell ⟨bL, 0, none⟩ (.int .i64 x)) := by
  obtain ⟨h0, h1, h2, h3, h4, h5, h6⟩ := N
  exact ⟨h.bel.setCell (by simp; omega) _, h.p.other (by simp; omega) _, h.bp.other (by simp; omega) _, h.r.other (by simp; omega) _, h.br.other (by simp; omega) _, h.o.other (by simp; omega) _, h.bo.other (by simp; omega) _, h.l.set 0 _⟩
theorem SplS.congr (h : SplS w k P0 bP R0 bR O0 bO bL P R O L wr) {P' R' O' : Nat → Int} {L' : Int} (hp : ∀ j, j < k → P j = P' j) (hr : ∀ j, j < k → R j = R' j) (ho : ∀ j, j < k → O j = O' j) (hl : L = L') : SplS w k P0 bP R0 bR O0 bO bL P' R' O' L' wr :=
  ⟨h.bel, by rw [← fv_congr hp]; exact h.p, h.bp, by rw [← fv_congr hr]; exact h.r, h.br, by rw [← fv_congr ho]; exact h.o, h.bo, by rw [← hl]; exact h.l⟩
end
/-- Behind the sort: the order is read cell by cell. -/
structure SplT (w : World) (k P0 bP O0 bO bL : Nat) (P O : Nat → Int) (L : Int) (wr : World) : Prop where
  bel : Below w.heap.size w wr
  p : Cel wr P0 (fv k P) 3
  bp : Cel wr bP #[.slice (some ⟨P0, 0, none⟩) k k] 22
  o : ∀ i, i < k → wr.cell? ⟨O0, i, none⟩ = some (.int .i64 (O i))
  bo : Cel wr bO #[.slice (some ⟨O0, 0, none⟩) k k] 22
  l : Cel wr bL #[.int .i64 L] 3
theorem sw_block {m : Nat} {w W : World} {blk off : Nat} {d : Array (Fin (m + 1))} (h : SW (encF m) w blk off d W) {b : Nat} (hb : b ≠ blk) (hl : b < w.heap.size) : W.heap[b]? = w.heap[b]? := by
  obtain ⟨q, os, rfl⟩ := h
  unfold sortWorld
  rw [heap_grow_old _ os (by rw [size_putRow]; exact hl)]
  show (w.heap.modify blk _)[b]? = _
  rw [Array.getElem?_modify]
  rw [if_neg (fun e => hb e.symm)]
theorem sw_below {m : Nat} {w W : World} {blk off B : Nat} {d : Array (Fin (m + 1))} (h : SW (encF m) w blk off d W) (hb : B ≤ blk) (hl : blk < w.heap.size) : Below B w W := by
  have h1 : ∀ k, k < B → W.heap[k]? = w.heap[k]? := fun k hk => sw_block h (by omega) (by omega)
  have h2 := h.le
  obtain ⟨q, os, rfl⟩ := h
  exact ⟨rfl, rfl, rfl, h2, h1⟩
section
variable {w wr w1 : World} {k P0 bP R0 bR O0 bO bL : Nat} {P R O : Nat → Int} {L : Int}
theorem SplS.sorted {m : Nat} (h : SplS w (m + 1) P0 bP R0 bR O0 bO bL P R O L wr) (N : SplN w P0 bP R0 bR O0 bO bL) {d' : Array (Fin (m + 1))} (hs : SW (encF m) wr O0 0 d' w1) (hz : d'.size = m + 1) (hO : ∀ i, i < m + 1 → O i = (i : Int)) :
    SplT w (m + 1) P0 bP O0 bO bL P (fun i => ((d'[i]!).val : Int)) L w1 := by
  obtain ⟨h0, h1, h2, h3, h4, h5, h6⟩ := N
  have hH : Holds (encF m) wr O0 0 (d0F m) := holds_of_cel (d0F_size m) h.o (fun k hk => by rw [hO k hk, d0F_get m k hk])
  have hHd := hs.holds h.o.lt hH (hz.trans (d0F_size m).symm)
  exact ⟨h.bel.trans ((sw_below hs (by omega) h.o.lt)), (sw_block hs (by omega) h.p.lt).trans h.p, (sw_block hs (by omega) h.bp.lt).trans h.bp,
    fun i hi => by have := (hHd i (by omega)).1; rw [Nat.zero_add] at this; exact this, (sw_block hs (by omega) h.bo.lt).trans h.bo, (sw_block hs (by omega) h.l.lt).trans h.l⟩
theorem SplT.given (h : SplT w k P0 bP O0 bO bL P O L wr) (N : SplN w P0 bP R0 bR O0 bO bL) (i : Nat) (x y : Int) : SplT w k P0 bP O0 bO bL (fun j => if j = i then x else P j) O y ((wr.setCell ⟨P0, i, none⟩ (.int .i64 x)).setCell ⟨bL, 0, none⟩ (.int .i64 y)) := by
  obtain ⟨h0, h1, h2, h3, h4, h5, h6⟩ := N
  refine ⟨(h.bel.setCell (by omega) _).setCell (by simp; omega) _, (h.p.put i x).other (by simp; omega) _, (h.bp.other (by simp; omega) _).other (by simp; omega) _, fun j hj => ?_, (h.bo.other (by simp; omega) _).other (by simp; omega) _, (h.l.other (by simp; omega) _).set 0 _⟩
  rw [World.cell?_of_block (w := wr.setCell ⟨P0, i, none⟩ (.int .i64 x)) (Below.heap_setCell _ _ _ _ (by simp; omega)), World.cell?_of_block (w := wr) (Below.heap_setCell _ _ _ _ (by simp; omega))]
  exact h.o j hj
theorem SplT.congr (h : SplT w k P0 bP O0 bO bL P O L wr) {P' O' : Nat → Int} {L' : Int} (hp : ∀ j, j < k → P j = P' j) (ho : ∀ j, j < k → O j = O' j) (hl : L = L') : SplT w k P0 bP O0 bO bL P' O' L' wr :=
  ⟨h.bel, by rw [← fv_congr hp]; exact h.p, h.bp, fun i hi => by rw [← ho i hi]; exact h.o i hi, h.bo, by rw [← hl]; exact h.l⟩
end
/-- The first j of a list; behind them 0. -/
def upTo (f : Nat → Int) (j i : Nat) : Int := if i < j then f i else 0
theorem upTo_next (f : Nat → Int) (j i : Nat) : (if i = j then f j else upTo f j i) = upTo f (j + 1) i := by
  unfold upTo
  by_cases c : i = j
  · subst c; rw [if_pos rfl, if_pos (by omega)]
  · rw [if_neg c]
    by_cases c2 : i < j
    · rw [if_pos c2, if_pos (by omega)]
    · rw [if_neg c2, if_neg (by omega)]
theorem info3 : (Try.prog.info? 3).map (fun i => (i.zero, i.size, i.bytes)) = some (some (.int .i64 0), 1, 8) := by kernel_rfl
set_option maxHeartbeats 4000000 in
set_option maxRecDepth 100000 in
theorem Split_any (m : Int) (a : Option Addr) (n cap : Nat) (ws : Nat → Int) (w : World) (hr : IsRow w a n ws) (hn : n ≤ maxLen) :
    Calls Try.prog 36 #[.int .i64 m, .slice a n cap] w (SplPost m n ws w) := by
  unfold maxLen at hn
  have HR := Lib.hid hr
  clear hr
  by_cases hm : 0 ≤ m ∧ m ≤ 1000000000000
  · have hv := fun w => Valid_any m w
    rw [(amB_iff m).2 hm] at hv
    have HM := Lib.hid hv
    have HAM := Lib.hid hm
    obtain ⟨m0, m1⟩ := hm
    clear hv
    by_cases hl : n = 0 ∨ 64 < n
    · have HV := Lib.hid (splE_len (ws := ws) HAM.out hl)
      by_cases h0 : n = 0
      · subst h0
        clear hl
        go_enter Try.func36, Try.ntmps36
        go_wp2_with (go_at_call 35; refine (HM.out _).mono ?_; rintro e w' ⟨rfl, rfl⟩)
        go_ret2
        exact spl_err (Below.refl _ _) HV.out (by decide)
      · have h1 : ((n : Int) == 0) = false := by rw [beq_eq_false_iff_ne]; omega
        have h2 : (64 : Int) < (n : Int) := by omega
        clear hl h0
        go_enter Try.func36, Try.ntmps36
        go_wp2_with (go_at_call 35; refine (HM.out _).mono ?_; rintro e w' ⟨rfl, rfl⟩)
        go_ret2
        exact spl_err (Below.refl _ _) HV.out (by decide)
    · have h1 : ((n : Int) == 0) = false := by rw [beq_eq_false_iff_ne]; omega
      have h2 : (n : Int) ≤ 64 := by omega
      have h3 : 1 ≤ n := by omega
      have HNL := Lib.hid hl
      clear hl
      obtain ⟨b, o, rfl, hb, _, hc⟩ : ∃ b o, a = some ⟨b, o, none⟩ ∧ b < w.heap.size ∧ n ≤ maxLen ∧ ∀ i, i < n → w.cell? ⟨b, o + i, none⟩ = some (.int .i64 (ws i)) := by
        rcases HR.out with h | h
        · omega
        · exact h
      have HC := Lib.hid hc
      clear hc
      go_enter Try.func36, Try.ntmps36
      go_wp2_with (go_at_call 35; refine (HM.out _).mono ?_; rintro e w' ⟨rfl, rfl⟩)
      go_loop [6, 34] (fun v i => ∃ k : Nat, k ≤ n ∧ i = .int .i64 k ∧ v = .int .i64 (Spl.sm ws k) ∧ (∀ j, j < k → 0 ≤ ws j ∧ ws j ≤ 1000000000000) ∧ 0 ≤ Spl.sm ws k ∧ Spl.sm ws k ≤ 1000000000000 * (k : Int)) (fun _ i => n - (intOf i).toNat)
      case atStart => exact ⟨0, by omega, rfl, rfl, fun j hj => by omega, by simp [Spl.sm], by simp [Spl.sm]⟩
      case round =>
        obtain ⟨k, hk, rfl, rfl, hall, s0, s1⟩ := hrel
        have HA := Lib.hid hall
        clear hall
        by_cases hlt : k < n
        · have ck := HC.out k hlt
          have hv := fun w => Valid_any (ws k) w
          by_cases hw : 0 ≤ ws k ∧ ws k ≤ 1000000000000
          · rw [(amB_iff _).2 hw] at hv
            have HW := Lib.hid hv
            have HB := Lib.hid hw
            obtain ⟨w0, w1⟩ := hw
            clear hv
            go_wp2_with (go_at_call 35; ((with_reducible refine (HW.out _).mono ?_); rintro e w' ⟨rfl, rfl⟩))
            go_round
            case rel => exact ⟨k + 1, hlt, by go_num, rfl, all_next HA.out HB.out, by show 0 ≤ Spl.sm ws k + ws k; omega, by show Spl.sm ws k + ws k ≤ _; omega⟩
            case measure => simp [intOf]; omega
          · have HV := Lib.hid (splE_w HAM.out HNL.out hlt hw)
            rw [show amB (ws k) = false from decide_eq_false hw] at hv
            have HW := Lib.hid hv
            clear hv hw
            go_wp2_with (go_at_call 35; ((with_reducible refine (HW.out _).mono ?_); rintro e w' ⟨rfl, rfl⟩))
            go_ret2
            exact spl_err (Below.refl _ _) HV.out (by decide)
        · obtain rfl : k = n := by omega
          by_cases ht : Spl.sm ws k = 0
          · have HV := Lib.hid (splE_zero HAM.out HNL.out HA.out ht)
            have ht2 : (Spl.sm ws k == 0) = true := by rw [beq_iff_eq]; exact ht
            clear ht
            go_wp2
            go_ret2
            exact spl_err (Below.refl _ _) HV.out (by decide)
          · have ht2 : (Spl.sm ws k == 0) = false := by rw [beq_eq_false_iff_ne]; exact ht
            have HK := Lib.hid (show SOk m ws k from ⟨m0, m1, h3, by omega, HA.out, by omega⟩)
            clear ht
            obtain ⟨i0, hi, hz0, hz1, hz2⟩ := info_parts info3
            have tok1 : True := trivial
            have tok2 : True := trivial
            have tok3 : True := trivial
            have hb8 : i0.bytes * k ≤ 281474976710656 := by rw [hz2]; omega
            have hml : k ≤ maxLen := by unfold maxLen; omega
            go_wp2_with (first
              | (have _t := tok1; refine wpList_make_full _ rfl _ _ 22 rfl 0 3 i0 (.int .i64 0) 1 Try.underlying22 hi hz0 hz1 .i64 .i64 (k : Int) (k : Int) k (by rfl) (by rfl) rfl rfl hb8 hml (Nat.zero_le _) ?_; intro wA oA gA; clear tok1)
              | (have _t := tok2; refine wpList_make_full _ rfl _ _ 22 rfl 0 3 i0 (.int .i64 0) 1 Try.underlying22 hi hz0 hz1 .i64 .i64 (k : Int) (k : Int) k (by rfl) (by rfl) rfl rfl hb8 hml (Nat.zero_le _) ?_; intro wB oB gB; clear tok2)
              | (have _t := tok3; refine wpList_make_full _ rfl _ _ 22 rfl 0 3 i0 (.int .i64 0) 1 Try.underlying22 hi hz0 hz1 .i64 .i64 (k : Int) (k : Int) k (by rfl) (by rfl) rfl rfl hb8 hml (Nat.zero_le _) ?_; intro wC oC gC; clear tok3))
            have hA : w.heap.size < wA.heap.size := (cel_of_made oA).lt
            have eB : (wA.alloc (.cells #[.slice (some ⟨w.heap.size, 0, none⟩) k k] 22)).heap.size = wA.heap.size + 1 := by simp
            have eC : (wB.alloc (.cells #[.slice (some ⟨wA.heap.size + 1, 0, none⟩) k k] 22)).heap.size = wB.heap.size + 1 := by simp
            have mB := cel_of_made oB
            have mC := cel_of_made oC
            rw [eB] at mB
            rw [eC] at mC
            have hB : wA.heap.size + 1 < wB.heap.size := mB.lt
            have hC : wB.heap.size + 1 < wC.heap.size := mC.lt
            have HN := Lib.hid (show SplN w w.heap.size wA.heap.size (wA.heap.size + 1) wB.heap.size (wB.heap.size + 1) wC.heap.size (wC.heap.size + 1) from ⟨Nat.le_refl _, hA, by omega, hB, by omega, hC, by omega⟩)
            have HS0 : Hid (SplS w k w.heap.size wA.heap.size (wA.heap.size + 1) wB.heap.size (wB.heap.size + 1) wC.heap.size (wC.heap.size + 1) (fun _ => 0) (fun _ => 0) (fun _ => 0) m
                ((wC.alloc (.cells #[.slice (some ⟨wB.heap.size + 1, 0, none⟩) k k] 22)).alloc (.cells #[.int .i64 m] 3))) := Lib.hid (by
              have b1 : Below w.heap.size w wA := (Below.refl _ _).grown gA (Nat.le_refl _) (fun k hk => by cases hk)
              have b2 := b1.alloc b1.size (.cells #[.slice (some ⟨w.heap.size, 0, none⟩) k k] 22)
              have b3 := b2.grown gB b2.size (fun k hk => by cases hk)
              have b4 := b3.alloc b3.size (.cells #[.slice (some ⟨wA.heap.size + 1, 0, none⟩) k k] 22)
              have b5 := b4.grown gC b4.size (fun k hk => by cases hk)
              have b6 := b5.alloc b5.size (.cells #[.slice (some ⟨wB.heap.size + 1, 0, none⟩) k k] 22)
              have b7 := b6.alloc b6.size (.cells #[.int .i64 m] 3)
              have eL : (wC.alloc (.cells #[.slice (some ⟨wB.heap.size + 1, 0, none⟩) k k] 22)).heap.size = wC.heap.size + 1 := by simp
              have cL := Cel.new (wC.alloc (.cells #[.slice (some ⟨wB.heap.size + 1, 0, none⟩) k k] 22)) #[.int .i64 m] 3
              rw [eL] at cL
              exact ⟨b7, ((cel_grown ((cel_grown ((cel_of_made oA).alloc _) gB).alloc _) gC).alloc _).alloc _, ((cel_grown ((cel_grown (Cel.new wA _ _) gB).alloc _) gC).alloc _).alloc _,
                ((cel_grown (mB.alloc _) gC).alloc _).alloc _, ((cel_grown (Cel.new wB _ _) gC).alloc _).alloc _, (mC.alloc _).alloc _, (Cel.new wC _ _).alloc _, cL⟩)
            clear oA oB oC gA gB gC eB eC mB mC
            go_loopw [59] (fun vi wr => ∃ j : Nat, vi = .int .i64 j ∧ j ≤ k ∧ SplS w k w.heap.size wA.heap.size (wA.heap.size + 1) wB.heap.size (wB.heap.size + 1) wC.heap.size (wC.heap.size + 1)
              (upTo (qv m (Spl.sm ws k) ws) j) (upTo (rv m (Spl.sm ws k) ws) j) (upTo (fun i => (i : Int)) j) (m - Spl.sm (qv m (Spl.sm ws k) ws) j) wr) (fun vi _ => k - (intOf vi).toNat)
            case atStart => exact ⟨0, rfl, by omega, HS0.out.congr (fun j _ => by unfold upTo; rw [if_neg (by omega)]) (fun j _ => by unfold upTo; rw [if_neg (by omega)]) (fun j _ => by unfold upTo; rw [if_neg (by omega)]) (by simp [Spl.sm])⟩
            case round =>
              obtain ⟨j, rfl, hj, hS⟩ := hrel
              have HS := Lib.hid hS
              clear hS
              by_cases hjk : j < k
              · have cw : wr.cell? ⟨b, o + j, none⟩ = some (.int .i64 (ws j)) := (HS.out.bel.cell (p := ⟨b, _, none⟩) hb).trans (HC.out j hjk)
                obtain ⟨q0, q1, r0, r1, _⟩ := HK.out.q hjk
                obtain ⟨wj0, wj1⟩ := HA.out j hjk
                have ht := HK.out.tle
                have htl := HK.out.t1
                obtain ⟨p0, p1⟩ := HK.out.part hj
                obtain ⟨p2, p3⟩ := HK.out.part (show j + 1 ≤ k by omega)
                have hps : Spl.sm (qv m (Spl.sm ws k) ws) (j + 1) = Spl.sm (qv m (Spl.sm ws k) ws) j + qv m (Spl.sm ws k) ws j := rfl
                have hmd := fun w => MulDiv_any m (ws j) (Spl.sm ws k) w (by omega) (by omega) (by omega) (by omega) (by omega) (by omega)
                obtain ⟨e1, e2, e3⟩ := md_fine (a := m) (b := ws j) (c := Spl.sm ws k) ⟨m0, wj0, htl⟩ (show m * ws j / Spl.sm ws k ≤ _ from (by have : m * ws j / Spl.sm ws k ≤ m := q1; omega))
                unfold mdV at hmd
                rw [← e1, ← e2, ← e3] at hmd
                have HMD : Hid (∀ w, Calls Try.prog 41 #[.int .i64 m, .int .i64 (ws j), .int .i64 (Spl.sm ws k)] w (RetB (.tuple #[.int .i64 (qv m (Spl.sm ws k) ws j), .int .i64 (rv m (Spl.sm ws k) ws j), .int .i64 0]) w)) := Lib.hid hmd
                clear hmd e1 e2 e3
                rw [hps] at p2 p3
                have HPS := Lib.hid hps
                clear hps
                have HQ := Lib.hid (fun i => upTo_next (qv m (Spl.sm ws k) ws) j i)
                have HRR := Lib.hid (fun i => upTo_next (rv m (Spl.sm ws k) ws) j i)
                have HO := Lib.hid (fun i => upTo_next (fun i => (i : Int)) j i)
                generalize qv m (Spl.sm ws k) ws j = q at *
                generalize rv m (Spl.sm ws k) ws j = r at *
                go_wp2_with (go_at_call 41; ((with_reducible refine (HMD.out _).mono ?_); rintro e w1 ⟨rfl, hb1⟩; have HS1 := Lib.hid (HS.out.next hb1); clear hb1))
                have c1 : w1.cell? ⟨wA.heap.size, 0, none⟩ = some (.slice (some ⟨w.heap.size, 0, none⟩) k k) := HS1.out.bp.cell 0
                have c2 : w1.cell? ⟨wB.heap.size, 0, none⟩ = some (.slice (some ⟨wA.heap.size + 1, 0, none⟩) k k) := HS1.out.br.cell 0
                have c3 : w1.cell? ⟨wC.heap.size, 0, none⟩ = some (.slice (some ⟨wB.heap.size + 1, 0, none⟩) k k) := HS1.out.bo.cell 0
                have d1 := HS1.out.p.at hjk
                have d2 := HS1.out.r.at hjk
                have d3 := HS1.out.o.at hjk
                have f1 := HS1.out.p.free j
                have f2 := HS1.out.r.free j
                have f3 := HS1.out.o.free j
                go_region
                have HS2 := Lib.hid ((((HS1.out.stP HN.out j q).stR HN.out j r).stO HN.out j (j : Int)).drew)
                clear c1 c2 c3 d1 d2 d3 f1 f2 f3
                generalize (((w1.setCell ⟨w.heap.size, j, none⟩ (.int .i64 q)).setCell ⟨wA.heap.size + 1, j, none⟩ (.int .i64 r)).setCell ⟨wB.heap.size + 1, j, none⟩ (.int .i64 (j : Int))).drew = w2 at *
                have cL : w2.cell? ⟨wC.heap.size + 1, 0, none⟩ = some (.int .i64 (m - Spl.sm (qv m (Spl.sm ws k) ws) j)) := HS2.out.l.cell 0
                have fL := HS2.out.l.free 0
                go_wp2
                go_roundw
                case rel => exact ⟨j + 1, by go_num, by omega, (HS2.out.stL HN.out _).congr (fun i _ => HQ.out i) (fun i _ => HRR.out i) (fun i _ => HO.out i) (by rw [HPS.out]; omega)⟩
                case measure => simp [intOf]; omega
              · obtain rfl : j = k := by omega
                have c1 : wr.cell? ⟨wB.heap.size, 0, none⟩ = some (.slice (some ⟨wA.heap.size + 1, 0, none⟩) j j) := HS.out.br.cell 0
                have c3 : wr.cell? ⟨wC.heap.size, 0, none⟩ = some (.slice (some ⟨wB.heap.size + 1, 0, none⟩) j j) := HS.out.bo.cell 0
                obtain ⟨mm, rfl⟩ : ∃ mm, j = mm + 1 := ⟨j - 1, by omega⟩
                have HR1 := Lib.hid (HS.out.r)
                have hsl := SlSt_any mm wr (rv m (Spl.sm ws (mm + 1)) ws) wB.heap.size (wA.heap.size + 1) wC.heap.size (wB.heap.size + 1) 22 3 (by omega) HS.out.br HS.out.bo (by rw [fv_congr (g := upTo (rv m (Spl.sm ws (mm + 1)) ws) (mm + 1)) (fun i hi => by unfold upTo; rw [if_pos hi])]; exact HS.out.r)
                  (by rw [fv_congr (g := upTo (fun i => (i : Int)) (mm + 1)) (fun i hi => by unfold upTo; rw [if_pos hi])]; exact HS.out.o) (by have := HN.out; omega) (by omega) (by omega)
                have HSL := Lib.hid hsl
                clear hsl
                have HUP : Hid (∀ i, i < mm + 1 → upTo (fun i => (i : Int)) (mm + 1) i = (i : Int)) := Lib.hid (fun i hi => by unfold upTo; rw [if_pos hi])
                have HOF := Lib.hid (fun d' hm => ord_of_merged (m := mm) (R := rv m (Spl.sm ws (mm + 1)) ws) (d := d0F mm) (d' := d') (fun k hk => d0F_get mm k hk) hm)
                go_wp2_with (go_at_call 53; refine HSL.out.mono ?_; rintro e w1 ⟨rfl, d', hs', hz', hm'⟩; have c5 : w1.cell? ⟨wC.heap.size, 0, none⟩ = some (.slice (some ⟨wB.heap.size + 1, 0, none⟩) (mm + 1) (mm + 1)) := (HS.out.sorted HN.out hs' hz' HUP.out).bo.cell 0)
                have HT0 := Lib.hid (HS.out.sorted HN.out hs' hz' HUP.out)
                have HOR := Lib.hid (HOF.out d' hm')
                clear hs' hz' hm' c1 c3
                obtain ⟨od, hod⟩ : ∃ od : List Nat, od = (List.range (mm + 1)).map (fun k => (d'[k]!).val) := ⟨_, rfl⟩
                have hol : od.length = mm + 1 := by rw [hod]; simp
                have hog : ∀ x, (hx : x < od.length) → (d'[x]!).val = od[x] := fun x hx => by subst hod; simp
                rw [← hod] at HOR
                have HOG := Lib.hid hog
                have HOL := Lib.hid hol
                clear hod hog hol
                obtain ⟨l0, l1⟩ := HK.out.left
                have hlf : m - Spl.sm (qv m (Spl.sm ws (mm + 1)) ws) (mm + 1) = lf m ws (mm + 1) := rfl
                rw [hlf] at HT0
                clear hlf
                have hlm : lf m ws (mm + 1) ≤ 1000000000000 := by have := HK.out.n2; omega
                go_loopw [98] (fun vx wx => ∃ x : Nat, vx = .int .i64 x ∧ (x : Int) ≤ lf m ws (mm + 1) ∧ SplT w (mm + 1) w.heap.size wA.heap.size (wB.heap.size + 1) wC.heap.size (wC.heap.size + 1)
                  (fun i => qv m (Spl.sm ws (mm + 1)) ws i + pick od x i) (fun i => ((d'[i]!).val : Int)) (lf m ws (mm + 1) - (x : Int)) wx) (fun vx _ => mm + 1 - (intOf vx).toNat)
                case atStart => exact ⟨0, rfl, l0, HT0.out.congr (fun i hi => by unfold upTo; rw [if_pos hi, pick_zero]; omega) (fun i _ => rfl) (by omega)⟩
                case round =>
                  obtain ⟨x, rfl, hx, hT⟩ := hrel
                  have HT := Lib.hid hT
                  clear hT
                  have hxk : x < mm + 1 := by omega
                  have hxo : x < od.length := by rw [HOL.out]; exact hxk
                  have c6 : wr.cell? ⟨wC.heap.size + 1, 0, none⟩ = some (.int .i64 (lf m ws (mm + 1) - (x : Int))) := HT.out.l.cell 0
                  have f6 := HT.out.l.free 0
                  have c7 : wr.cell? ⟨wA.heap.size, 0, none⟩ = some (.slice (some ⟨w.heap.size, 0, none⟩) (mm + 1) (mm + 1)) := HT.out.bp.cell 0
                  have c8 := HT.out.o x hxk
                  by_cases hxl : (x : Int) = lf m ws (mm + 1)
                  · have t1 : (lf m ws (mm + 1) - (x : Int) == 0) = true := by rw [beq_iff_eq]; omega
                    have HXL := Lib.hid hxl
                    clear hxl
                    go_wp2
                    go_ret2
                    exact ⟨HT.out.bel, .inl ⟨HK.out, _, _, _, rfl, IsRow.of_cel HT.out.p (by unfold maxLen; omega), od, HOR.out, fun i _ => by rw [show (lf m ws (mm + 1)).toNat = x by have := HXL.out; omega]⟩⟩
                  · have t1 : (lf m ws (mm + 1) - (x : Int) == 0) = false := by rw [beq_eq_false_iff_ne]; omega
                    have hdx := (d'[x]!).isLt
                    have hxd := HOG.out x hxo
                    obtain ⟨q0, q1, _, _, _⟩ := HK.out.q hdx
                    have pz : pick od x (d'[x]!).val = 0 := by unfold pick; rw [if_neg (by rw [hxd]; exact nodup_take HOR.out.nodup hxo)]
                    have cp := HT.out.p.at hdx
                    have fp := HT.out.p.free (d'[x]!).val
                    rw [pz, Int.add_zero] at cp
                    have hg := give_any wA.heap.size w.heap.size (wC.heap.size + 1) (mm + 1) (mm + 1) (d'[x]!).val wr _ _ c7 hdx cp fp c6 f6 (by have := HN.out; omega) q0 (by omega) (by omega) (by omega)
                    have HPK := Lib.hid (fun i => pick_succ HOR.out.nodup hxo i)
                    have HXD := Lib.hid hxd
                    have HPZ := Lib.hid pz
                    generalize (d'[x]!).val = y at *
                    have HG := Lib.hid hg
                    clear hg cp fp pz hxd
                    go_wp2_with (go_at_call 55; refine HG.out.mono ?_; rintro e w2 ⟨rfl, rfl⟩)
                    go_roundw
                    case rel => exact ⟨x + 1, by go_num, by omega, (HT.out.given HN.out y _ _).congr (fun i _ => by
                        rw [HPK.out i, ← HXD.out]
                        by_cases c : i = y
                        · subst c; rw [if_pos rfl, if_pos rfl, HPZ.out]; omega
                        · rw [if_neg c, if_neg c]; omega) (fun i _ => rfl) (by omega)⟩
                    case measure => simp [intOf]; omega
  · have hv := fun w => Valid_any m w
    rw [show amB m = false from decide_eq_false hm] at hv
    have HM := Lib.hid hv
    have HV := Lib.hid (splE_am (n := n) (ws := ws) hm)
    clear hv hm
    go_enter Try.func36, Try.ntmps36
    go_wp2_with (go_at_call 35; refine (HM.out _).mono ?_; rintro e w' ⟨rfl, rfl⟩)
    go_ret2
    exact spl_err (Below.refl _ _) HV.out (by decide)
end Go.Proofs.Ytkpmbkkhdhjbnaa
