
/-
  bits.Sum: the cyclic sum of bytes.
-/
import Derived.Test.YthkgadhamecnlaaEff
import Derived.Test.YthkgadhamecnlaaProg
set_option linter.unusedVariables false
set_option maxRecDepth 20000
namespace Go.Proofs.Ythkgadhamecnlaa
open Go

def crcT : List UInt32 := [0, 0x1db71064, 0x3b6e20c8, 0x26d930ac, 0x76dc4190, 0x6b6b51f4, 0x4db26158, 0x5005713c, 0xedb88320, 0xf00f9344, 0xd6d6a3e8, 0xcb61b38c, 0x9b64c2b0, 0x86d3d2d4, 0xa00ae278, 0xbdbdf21c]
def crcAt (r : UInt32) : UInt32 := crcT.getD (r &&& 15).toNat 0
def crcMid (r : UInt32) (x : UInt8) : UInt32 := r >>> 4 ^^^ crcAt (r ^^^ x.toUInt32)
def crcStep (r : UInt32) (x : UInt8) : UInt32 := crcMid r x >>> 4 ^^^ crcAt (crcMid r x ^^^ (x >>> 4).toUInt32)
def crc (l : Bs) : UInt32 := ~~~ (l.foldl crcStep 0xffffffff)
theorem and15 (r : UInt32) : (r &&& 15).toNat < 16 := by
  have : (r &&& 15).toNat ≤ 15 := by rw [UInt32.toNat_and]; exact Nat.and_le_right
  omega
theorem crcAt_get (r : UInt32) : (crcT.map u32)[(r &&& 15).toNat]? = some (u32 (crcAt r)) := by
  have h2 : (r &&& 15).toNat < crcT.length := and15 r
  rw [List.getElem?_map, crcAt, List.getD, List.getElem?_eq_getElem h2]
  rfl
theorem crc_snoc (l : Bs) (k : Nat) (h : k < l.length) : (l.take (k + 1)).foldl crcStep 0xffffffff = crcStep ((l.take k).foldl crcStep 0xffffffff) l[k] := by
  rw [List.take_succ_eq_append_getElem h, List.foldl_append]; rfl
theorem Sum_fn {w : World} {v : Value} {l : Bs} (h : tBytes.rep All w v l) : Fn Try.prog 37 [v] w (fun r w2 => r = u32 (crc l) ∧ Ext (fun _ => False) w w2) := by
  obtain ⟨a, cap, rfl, hcap⟩ := Sl.val h
  have hlim := Sl.lim h
  simp only [Lim] at hlim
  refine Fn.enter (fun w => Try.call37 _ w) Try.func37 rfl ?_
  refine .seq (.region ?_)
  refine .p rfl rfl (.as rfl) ?_
  refine .nil (.code (.seq (.keep [(0, _)] ⟨rfl, trivial⟩ (.region ?_))))
  refine .p rfl rfl (.build (cs := crcT.map u32) rfl (fun _ => by kernel_rfl)) ?_
  refine .v rfl rfl (.alloc rfl rfl) ?_
  rintro _ w3 ⟨rfl, N3⟩
  refine .s rfl (.storeAll rfl rfl rfl rfl rfl N3.blk rfl) ?_
  intro w2 P2
  have X2 : Ext (fun _ => False) w w2 := N3.ext.then P2.ext (by intro i hi _; omega)
  have B2 := P2.blk
  refine .nil (.code (.seq (.keep [(3, _), (0, _)] ⟨rfl, rfl, trivial⟩ (.region ?_))))
  refine .p rfl rfl (.as rfl) ?_
  refine .nil (.code (.seq (.seq (.region ?_))))
  refine .p rfl rfl (.mv rfl) ?_
  refine .p rfl rfl (.len rfl rfl) ?_
  refine .p rfl rfl (.mv rfl) ?_
  refine .nil (.code (.block (.keep [(10, _), (9, _), (8, _), (4, _), (3, _)] ⟨rfl, rfl, rfl, rfl, rfl, trivial⟩ ?_)))
  refine .loop (S := Nat) (fun s => [(4, u32 ((l.take s).foldl crcStep 0xffffffff)), (8, .slice a l.length cap), (9, i64 l.length), (10, i64 s), (3, .pointer (some ⟨w.heap.size, 0, none⟩))]) (fun s => w2) (fun s => s ≤ l.length) (fun s => l.length - s) 0 ⟨rfl, rfl, rfl, rfl, rfl, trivial⟩ rfl (Nat.zero_le _) ?_
  intro k J hk again
  generalize hr : (l.take k).foldl crcStep 0xffffffff = r
  refine .seq (.region ?_)
  refine .p rfl rfl (.lt rfl rfl) ?_
  refine .nil (.code (.seq ?_))
  refine .condD rfl (fun c11 => ?_) (fun c11 => ?_)
  · have hk : k < l.length := by omega
    obtain ⟨b, o, rfl, _, hc⟩ := Sl.byteAt h hk
    refine .skip (.code (.seq (.block (.seq (.keep [(4, _), (8, _), (9, _), (10, _), (3, _)] ⟨rfl, rfl, rfl, rfl, rfl, trivial⟩ (.region ?_))))))
    refine .p rfl rfl (.indexAddr1 rfl rfl rfl rfl (by omega)) ?_
    refine .p rfl rfl (.load rfl rfl rfl (X2.cell hc (fun x => x))) ?_
    refine .p rfl rfl (.as rfl) ?_
    refine .nil (.code (.seq (.keep [(6, _), (4, _), (8, _), (9, _), (10, _), (3, _)] ⟨rfl, rfl, rfl, rfl, rfl, rfl, trivial⟩ (.region ?_))))
    refine .p rfl rfl (.mv rfl) ?_
    refine .p rfl rfl (.shr32 4 rfl rfl (by omega)) ?_
    refine .p rfl rfl (.mv rfl) ?_
    refine .p rfl rfl (.mv rfl) ?_
    refine .p rfl rfl (.conv8_32 rfl rfl rfl) ?_
    refine .p rfl rfl (.xor32 rfl rfl) ?_
    refine .p rfl rfl (.and32 (b := 15) rfl rfl) ?_
    refine .p rfl rfl (.indexAddrA0 rfl rfl rfl rfl ⟨Int.natCast_nonneg _, Int.ofNat_lt.2 (and15 _)⟩) ?_
    refine .p rfl rfl (.load rfl rfl rfl ((B2.cell _).trans (crcAt_get _))) ?_
    refine .p rfl rfl (.xor32 rfl rfl) ?_
    refine .p rfl rfl (.as rfl) ?_
    refine .nil (.code (.keep [(4, _), (6, _), (8, _), (9, _), (10, _), (3, _)] ⟨rfl, rfl, rfl, rfl, rfl, rfl, trivial⟩ (.region ?_)))
    refine .p rfl rfl (.mv rfl) ?_
    refine .p rfl rfl (.shr32 4 rfl rfl (by omega)) ?_
    refine .p rfl rfl (.mv rfl) ?_
    refine .p rfl rfl (.mv rfl) ?_
    refine .p rfl rfl (.shr8 4 rfl rfl (by omega)) ?_
    refine .p rfl rfl (.conv8_32 rfl rfl rfl) ?_
    refine .p rfl rfl (.xor32 rfl rfl) ?_
    refine .p rfl rfl (.and32 (b := 15) rfl rfl) ?_
    refine .p rfl rfl (.indexAddrA0 rfl rfl rfl rfl ⟨Int.natCast_nonneg _, Int.ofNat_lt.2 (and15 _)⟩) ?_
    refine .p rfl rfl (.load rfl rfl rfl ((B2.cell _).trans (crcAt_get _))) ?_
    refine .p rfl rfl (.xor32 rfl rfl) ?_
    refine .p rfl rfl (.as rfl) ?_
    refine .nil (.blk (.code (.keep [(4, _), (8, _), (9, _), (10, _), (3, _)] ⟨rfl, rfl, rfl, rfl, rfl, trivial⟩ (.region ?_))))
    refine .p rfl rfl (.add rfl rfl (by omega)) ?_
    refine .p rfl rfl (.mv rfl) ?_
    refine .nil ?_
    have e := crc_snoc l k (by assumption)
    rw [hr] at e
    exact (again (k + 1) (by show k + 1 ≤ _; omega) (by show _ - (k + 1) < _; omega)).of ⟨by rw [e]; rfl, rfl, rfl, rfl, rfl, trivial⟩
  · refine .exit rfl (.code (.seq (.keep [(4, _)] ⟨rfl, trivial⟩ (.region ?_))))
    refine .p rfl rfl (.mv rfl) ?_
    refine .p rfl rfl (.com32 rfl) ?_
    refine .p rfl rfl (.as rfl) ?_
    refine .nil (.code ?_)
    refine .ret _ rfl ?_
    exact ⟨by rw [← hr, List.take_of_length_le (by omega)]; rfl, X2⟩
end Go.Proofs.Ythkgadhamecnlaa
