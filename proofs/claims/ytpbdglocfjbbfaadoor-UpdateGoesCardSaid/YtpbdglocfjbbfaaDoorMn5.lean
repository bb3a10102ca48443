/- manifest.Bytes, manifest.Signed. -/
import Derived.Test.YtpbdglocfjbbfaaDoorMn4
import Derived.Test.YtpbdglocfjbbfaaDoorHmA
namespace Go.Proofs.YtpbdglocfjbbfaaDoor
open Go Go.RowKit
set_option linter.unusedVariables false
set_option linter.unusedSimpArgs false
noncomputable def sstDg (x v : Value) : Sem Unit := Instr.storeAt 22 x v
theorem sstDg_seal (x v : Value) : Instr.storeAt 22 x v = sstDg x v := rfl
theorem run_sstDg {W : World} {g : Nat} {old : Array Value} (d : List UInt8) (hd : d.length = 32) (h : Blk W g 22 old) (ho : old.size = 32) :
    (sstDg (.pointer (some ⟨g, 0, none⟩)) (.agg (d.map u8v).toArray)).run Tryd.prog W = .ok () (W.setRow g (d.map u8v).toArray) := by
  unfold sstDg
  simp only [Instr.storeAt, Instr.sureAddr, Sem.run_bind, Sem.run_pure, Result.andThen_ok, run_storeVar_row (P := Tryd.prog) W g 22 22 old (d.map u8v).toArray h (by rw [List.size_toArray, List.length_map, hd]; exact info_sD) (by rw [ho, List.size_toArray, List.length_map, hd]) (by simpa using u8v_one d)]
@[reducible] def z32 : Array Value := #[.int .u8 0, .int .u8 0, .int .u8 0, .int .u8 0, .int .u8 0, .int .u8 0, .int .u8 0, .int .u8 0, .int .u8 0, .int .u8 0, .int .u8 0, .int .u8 0, .int .u8 0, .int .u8 0, .int .u8 0, .int .u8 0, .int .u8 0, .int .u8 0, .int .u8 0, .int .u8 0, .int .u8 0, .int .u8 0, .int .u8 0, .int .u8 0, .int .u8 0, .int .u8 0, .int .u8 0, .int .u8 0, .int .u8 0, .int .u8 0, .int .u8 0, .int .u8 0]
attribute [local go_sem ↓] sbN_seal sldN_seal sstN_seal sstDg_seal
/-- A manifest as bytes, with its tag. -/
def bytesB (key : List UInt8) (nm : ByteArray) (i : Img) : List UInt8 := bodyB nm i ++ tagL key (bodyB nm i)
theorem bytesB_len (key : List UInt8) (nm : ByteArray) (i : Img) : (bytesB key nm i).length = 92 := by
  unfold bytesB
  rw [List.length_append, bodyB_len, tagL_len]
/-- Is a manifest signed by a key? -/
def signedB (key l : List UInt8) : Bool := decide (l.length = 92) && (mOk l && ((l.drop 60).take 32 == tagL key (l.take 60)))
end Go.Proofs.YtpbdglocfjbbfaaDoor
