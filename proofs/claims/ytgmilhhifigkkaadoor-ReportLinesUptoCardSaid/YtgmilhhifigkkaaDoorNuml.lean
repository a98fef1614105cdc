/- Parse of package num. -/
import Derived.Test.YtgmilhhifigkkaaDoorNumk
namespace Go.Lott.Num
/-- A text that begins with '-'; what stands behind the sign; the number of a text, and its error. -/
def ngB (l : List UInt8) : Bool := decide (0 < l.length ∧ bl l 0 = 45)
def tlL (l : List UInt8) : List UInt8 := if ngB l then l.drop 1 else l
def okL (l : List UInt8) : Bool := decB (tlL l) && !(ngB l && decide (tlL l = [48]))
def svL (l : List UInt8) : Int := if ngB l then -nv (tlL l) (tlL l).length else nv (tlL l) (tlL l).length
def parN (l : List UInt8) : Int := if okL l then okN (svL l) else 0
def parE (l : List UInt8) : Int := if okL l then okE (svL l) else 1
theorem par_bad {l : List UInt8} (h : okL l = false) : 0 = parN l ∧ 1 = parE l := by unfold parN parE; rw [h]; exact ⟨rfl, rfl⟩
theorem par_over {l : List UInt8} (h : okL l = true) (hr : ¬ (-9223372036854775808 ≤ svL l ∧ svL l ≤ 9223372036854775807)) : 0 = parN l ∧ 9 = parE l := by
  unfold parN parE; rw [h]; obtain ⟨h1, h2⟩ := ok_no hr; exact ⟨h1.symm, h2.symm⟩
theorem par_fine {l : List UInt8} (h : okL l = true) (hr : -9223372036854775808 ≤ svL l ∧ svL l ≤ 9223372036854775807) : svL l = parN l ∧ 0 = parE l := by
  unfold parN parE; rw [h]; obtain ⟨h1, h2⟩ := ok_yes hr; exact ⟨h1.symm, h2.symm⟩
theorem okL_pos {l : List UInt8} (h : ngB l = false) : okL l = decB l := by unfold okL tlL; rw [h]; simp
theorem svL_pos {l : List UInt8} (h : ngB l = false) : svL l = nv l l.length := by unfold svL tlL; rw [h]; simp
theorem okL_neg {l : List UInt8} (h : ngB l = true) : okL l = (decB (l.drop 1) && !decide (l.drop 1 = [48])) := by unfold okL tlL; rw [h]; simp
theorem svL_neg {l : List UInt8} (h : ngB l = true) : svL l = -nv (l.drop 1) (l.drop 1).length := by unfold svL tlL; rw [h]; simp
end Go.Lott.Num
namespace Go.Proofs.YtgmilhhifigkkaaDoor
open Go.ChangeShapes Go.WideShapes Go.ChangeAt Go.RowKit Go.Lott

/-- The value of the first k bytes, and the next one. -/
theorem nv_next (s : ByteArray) {k : Nat} (hk : k < s.size) : Num.nv s.data.toList (k + 1) = Num.nv s.data.toList k * 10 + ((s[k].toNat : Int) - 48) := by rw [← bl_eq s k hk]; rfl
end Go.Proofs.YtgmilhhifigkkaaDoor
