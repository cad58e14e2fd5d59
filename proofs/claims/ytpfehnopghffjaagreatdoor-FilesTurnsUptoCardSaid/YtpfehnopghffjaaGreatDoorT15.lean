import Derived.Test.YtpfehnopghffjaaGreatDoorT07
import Derived.Test.YtpfehnopghffjaaGreatDoorT14
import Derived.Test.YtpfehnopghffjaaGreatDoorT08
set_option linter.unusedVariables false
set_option linter.unusedSimpArgs false
set_option maxRecDepth 20000
namespace Go.Proofs.YtpfehnopghffjaaGreatDoor
open Go
open room files
namespace files
theorem name_len {s : Bs} (h : ¬ (1 ≤ s.length ∧ s.length ≤ 32)) : nameF s = false := by rw [nameF, decide_eq_false h, Bool.false_and]
theorem name_no {s : Bs} {i : Nat} (hi : i < s.length) (h : ¬ (97 ≤ s[i].toNat ∧ s[i].toNat ≤ 122 ∨ 48 ≤ s[i].toNat ∧ s[i].toNat ≤ 57 ∨ s[i].toNat = 45 ∨ s[i].toNat = 95 ∨ s[i].toNat = 46)) : nameF s = false := by
 have h1 : ¬ nameC s[i] = true := fun h2 => h (of_decide_eq_true h2)
 have h2 : s.all nameC = false := by
  rw [Bool.eq_false_iff]
  exact fun h3 => h1 (List.all_eq_true.1 h3 _ (List.getElem_mem hi))
 rw [nameF, h2, Bool.and_false]
theorem name_yes {s : Bs} (h : 1 ≤ s.length ∧ s.length ≤ 32) (h2 : s.all nameC = true) : nameF s = true := by rw [nameF, decide_eq_true h, h2]; rfl
theorem name_step {s : Bs} {i : Nat} (hi : i < s.length) (h : (s.take i).all nameC = true) (h2 : 97 ≤ s[i].toNat ∧ s[i].toNat ≤ 122 ∨ 48 ≤ s[i].toNat ∧ s[i].toNat ≤ 57 ∨ s[i].toNat = 45 ∨ s[i].toNat = 95 ∨ s[i].toNat = 46) : (s.take (i + 1)).all nameC = true := by
 rw [List.take_succ_eq_append_getElem hi, List.all_append, h, Bool.true_and]
 show (nameC s[i] && true) = true
 rw [Bool.and_true]
 exact decide_eq_true h2
end files
theorem RefIsName_fn {w : World} {nm : Bs} (hs : nm.length < Lim) : Fn Tryz.prog 70 [str nm] w (fun r w2 => r = .bool (nameF nm) ∧ Ext (fun _ => False) w w2) := by
 refine Fn.enter (fun w => Tryz.call70 _ w) Tryz.func70 rfl ?_
 refine .seq (.region ?_)
 refine .p rfl rfl (.as rfl) (.nil (.code (.seq (.seq (.keep [(0, _)] ⟨rfl, trivial⟩ (.region ?_))))))
 refine .p rfl rfl (.mv rfl) (.p rfl rfl (.lenS rfl rfl) (.p rfl rfl (.lt rfl rfl) (.p rfl rfl (.mv rfl) ?_)))
 refine .caseD 8 rfl (fun c8 => ?_) (fun c8 => ?_)
 ·refine .skip rfl rfl (.skip rfl rfl (.skip rfl rfl (.p rfl rfl (.pickT rfl rfl) (.nil (.code (.keep [(12, _), (0, _)] ⟨rfl, rfl, trivial⟩ (.condT rfl (.seq (.keep [] trivial (.region ?_))))))))))
  refine .p rfl rfl (.as rfl) (.nil (.code ?_))
  refine .ret _ rfl ?_
  first
   | (rw [name_len (by omega)]; exact ⟨rfl, .refl _⟩)
   | (rw [name_no hi (by omega)]; exact ⟨rfl, .refl _⟩)
   | (rw [name_yes (by omega) hall]; exact ⟨rfl, .refl _⟩)
 ·refine .p rfl rfl (.mv rfl) (.p rfl rfl (.lenS rfl rfl) (.p rfl rfl (.gt rfl rfl) (.p rfl rfl (.pickF rfl rfl) (.nil (.code (.keep [(12, _), (0, _)] ⟨rfl, rfl, trivial⟩ ?_))))))
  refine .condD rfl (fun c12 => ?_) (fun c12 => ?_)
  ·refine .seq (.keep [] trivial (.region ?_))
   refine .p rfl rfl (.as rfl) (.nil (.code ?_))
   refine .ret _ rfl ?_
   first
    | (rw [name_len (by omega)]; exact ⟨rfl, .refl _⟩)
    | (rw [name_no hi (by omega)]; exact ⟨rfl, .refl _⟩)
    | (rw [name_yes (by omega) hall]; exact ⟨rfl, .refl _⟩)
  ·refine .skip (.code (.seq (.seq (.keep [(0, _)] ⟨rfl, trivial⟩ (.region ?_)))))
   refine .p rfl rfl (.as rfl) (.nil (.code (.block ?_)))
   refine .loop (S := Nat) (fun s => [(0, str nm), (3, i64 s)]) (fun s => w) (fun s => s ≤ nm.length ∧ (nm.take s).all nameC = true) (fun s => nm.length - s) 0 ⟨rfl, rfl, trivial⟩ rfl ⟨Nat.zero_le _, rfl⟩ ?_
   rintro i J ⟨hi', hall⟩ again
   refine .seq (.seq (.region ?_))
   refine .p rfl rfl (.mv rfl) (.p rfl rfl (.mv rfl) (.p rfl rfl (.lenS rfl rfl) (.p rfl rfl (.lt rfl rfl) (.nil (.code (.keep [(16, _), (0, _), (3, _)] ⟨rfl, rfl, rfl, trivial⟩ ?_))))))
   refine .condD rfl (fun c16 => ?_) (fun c16 => ?_)
   ·have hi : i < nm.length := by omega
    refine .skip (.code (.seq (.block (.seq (.keep [(0, _), (3, _)] ⟨rfl, rfl, trivial⟩ (.region ?_))))))
    refine .p rfl rfl (.mv rfl) (.p rfl rfl (.mv rfl) (.p rfl rfl (.idxS rfl rfl rfl (by omega) (show nm[(i : Int).toNat]? = some (nm[i]'(by omega)) by rw [Int.toNat_natCast]; exact List.getElem?_eq_getElem _)) ?_))
    refine .p rfl rfl (.as rfl) (.nil (.code (.seq (.keep [(4, _), (0, _), (3, _)] ⟨rfl, rfl, rfl, trivial⟩ (.region ?_)))))
    refine .p rfl rfl (.mv rfl) (.p rfl rfl (.ge rfl rfl) (.p rfl rfl (.mv rfl) ?_))
    refine .caseD 24 rfl (fun c24 => ?_) (fun c24 => ?_)
    ·refine .p rfl rfl (.mv rfl) (.p rfl rfl (.le rfl rfl) (.p rfl rfl (.pickT rfl rfl) (.p rfl rfl (.mv rfl) ?_)))
     refine .caseD 28 rfl (fun c28 => ?_) (fun c28 => ?_)
     ·refine .skip rfl rfl (.skip rfl rfl (.skip rfl rfl (.skip rfl rfl (.skip rfl rfl (.skip rfl rfl (.p rfl rfl (.pickT rfl rfl) (.p rfl rfl (.mv rfl) (.skip rfl rfl (.skip rfl rfl (.p rfl rfl (.pickT rfl rfl) (.p rfl rfl (.mv rfl) (.skip rfl rfl (.skip rfl rfl ?_)))))))))))))
      refine .p rfl rfl (.pickT rfl rfl) (.p rfl rfl (.mv rfl) (.skip rfl rfl (.skip rfl rfl (.p rfl rfl (.pickT rfl rfl) (.p rfl rfl (.not rfl) (.nil (.code (.keep [(48, _), (0, _), (3, _)] ⟨rfl, rfl, rfl, trivial⟩ (.condF rfl (.skip (.blk (.code (.keep [(0, _), (3, _)] ⟨rfl, rfl, trivial⟩ (.region ?_))))))))))))))
      refine .p rfl rfl (.mv rfl) (.p rfl rfl (.add rfl rfl (by omega)) (.p rfl rfl (.as rfl) (.nil ?_)))
      exact (again (i + 1) ⟨by show i + 1 ≤ _; omega, name_step hi hall (by omega)⟩ (by show _ - (i + 1) < _ - i; omega)).of ⟨rfl, rfl, trivial⟩
     ·refine .p rfl rfl (.mv rfl) (.p rfl rfl (.ge rfl rfl) (.p rfl rfl (.mv rfl) ?_))
      refine .caseD 31 rfl (fun c31 => ?_) (fun c31 => ?_)
      ·refine .p rfl rfl (.mv rfl) (.p rfl rfl (.le rfl rfl) (.p rfl rfl (.pickT rfl rfl) (.p rfl rfl (.pickF rfl rfl) (.p rfl rfl (.mv rfl) ?_))))
       refine .caseD 36 rfl (fun c36 => ?_) (fun c36 => ?_)
       ·refine .skip rfl rfl (.skip rfl rfl (.p rfl rfl (.pickT rfl rfl) (.p rfl rfl (.mv rfl) (.skip rfl rfl (.skip rfl rfl (.p rfl rfl (.pickT rfl rfl) (.p rfl rfl (.mv rfl) (.skip rfl rfl (.skip rfl rfl (.p rfl rfl (.pickT rfl rfl) (.p rfl rfl (.not rfl) (.nil (.code (.keep [(48, _), (0, _), (3, _)] ⟨rfl, rfl, rfl, trivial⟩ (.condF rfl (.skip (.blk (.code (.keep [(0, _), (3, _)] ⟨rfl, rfl, trivial⟩ (.region ?_))))))))))))))))))))
        refine .p rfl rfl (.mv rfl) (.p rfl rfl (.add rfl rfl (by omega)) (.p rfl rfl (.as rfl) (.nil ?_)))
        exact (again (i + 1) ⟨by show i + 1 ≤ _; omega, name_step hi hall (by omega)⟩ (by show _ - (i + 1) < _ - i; omega)).of ⟨rfl, rfl, trivial⟩
       ·refine .p rfl rfl (.mv rfl) (.p rfl rfl (.eq rfl rfl) (.p rfl rfl (.pickF rfl rfl) (.p rfl rfl (.mv rfl) ?_)))
        refine .caseD 40 rfl (fun c40 => ?_) (fun c40 => ?_)
        ·refine .skip rfl rfl (.skip rfl rfl (.p rfl rfl (.pickT rfl rfl) (.p rfl rfl (.mv rfl) (.skip rfl rfl (.skip rfl rfl (.p rfl rfl (.pickT rfl rfl) (.p rfl rfl (.not rfl) (.nil (.code (.keep [(48, _), (0, _), (3, _)] ⟨rfl, rfl, rfl, trivial⟩ (.condF rfl (.skip (.blk (.code (.keep [(0, _), (3, _)] ⟨rfl, rfl, trivial⟩ (.region ?_))))))))))))))))
         refine .p rfl rfl (.mv rfl) (.p rfl rfl (.add rfl rfl (by omega)) (.p rfl rfl (.as rfl) (.nil ?_)))
         exact (again (i + 1) ⟨by show i + 1 ≤ _; omega, name_step hi hall (by omega)⟩ (by show _ - (i + 1) < _ - i; omega)).of ⟨rfl, rfl, trivial⟩
        ·refine .p rfl rfl (.mv rfl) (.p rfl rfl (.eq rfl rfl) (.p rfl rfl (.pickF rfl rfl) (.p rfl rfl (.mv rfl) ?_)))
         refine .caseD 44 rfl (fun c44 => ?_) (fun c44 => ?_)
         ·refine .skip rfl rfl (.skip rfl rfl (.p rfl rfl (.pickT rfl rfl) (.p rfl rfl (.not rfl) (.nil (.code (.keep [(48, _), (0, _), (3, _)] ⟨rfl, rfl, rfl, trivial⟩ (.condF rfl (.skip (.blk (.code (.keep [(0, _), (3, _)] ⟨rfl, rfl, trivial⟩ (.region ?_))))))))))))
          refine .p rfl rfl (.mv rfl) (.p rfl rfl (.add rfl rfl (by omega)) (.p rfl rfl (.as rfl) (.nil ?_)))
          exact (again (i + 1) ⟨by show i + 1 ≤ _; omega, name_step hi hall (by omega)⟩ (by show _ - (i + 1) < _ - i; omega)).of ⟨rfl, rfl, trivial⟩
         ·refine .p rfl rfl (.mv rfl) (.p rfl rfl (.eq rfl rfl) (.p rfl rfl (.pickF rfl rfl) (.p rfl rfl (.notD rfl) (.nil (.code (.keep [(48, _), (0, _), (3, _)] ⟨rfl, rfl, rfl, trivial⟩ ?_))))))
          refine .condD rfl (fun c48 => ?_) (fun c48 => ?_)
          ·refine .seq (.keep [] trivial (.region ?_))
           refine .p rfl rfl (.as rfl) (.nil (.code ?_))
           refine .ret _ rfl ?_
           first
            | (rw [name_len (by omega)]; exact ⟨rfl, .refl _⟩)
            | (rw [name_no hi (by omega)]; exact ⟨rfl, .refl _⟩)
            | (rw [name_yes (by omega) hall]; exact ⟨rfl, .refl _⟩)
          ·refine .skip (.blk (.code (.keep [(0, _), (3, _)] ⟨rfl, rfl, trivial⟩ (.region ?_))))
           refine .p rfl rfl (.mv rfl) (.p rfl rfl (.add rfl rfl (by omega)) (.p rfl rfl (.as rfl) (.nil ?_)))
           exact (again (i + 1) ⟨by show i + 1 ≤ _; omega, name_step hi hall (by omega)⟩ (by show _ - (i + 1) < _ - i; omega)).of ⟨rfl, rfl, trivial⟩
      ·refine .skip rfl rfl (.skip rfl rfl (.p rfl rfl (.pickF rfl rfl) (.p rfl rfl (.pickF rfl rfl) (.p rfl rfl (.mv rfl) (.p rfl rfl (.mv rfl) (.p rfl rfl (.eq rfl rfl) (.p rfl rfl (.pickF rfl rfl) (.p rfl rfl (.mv rfl) ?_))))))))
       refine .caseD 40 rfl (fun c40 => ?_) (fun c40 => ?_)
       ·refine .skip rfl rfl (.skip rfl rfl (.p rfl rfl (.pickT rfl rfl) (.p rfl rfl (.mv rfl) (.skip rfl rfl (.skip rfl rfl (.p rfl rfl (.pickT rfl rfl) (.p rfl rfl (.not rfl) (.nil (.code (.keep [(48, _), (0, _), (3, _)] ⟨rfl, rfl, rfl, trivial⟩ (.condF rfl (.skip (.blk (.code (.keep [(0, _), (3, _)] ⟨rfl, rfl, trivial⟩ (.region ?_))))))))))))))))
        refine .p rfl rfl (.mv rfl) (.p rfl rfl (.add rfl rfl (by omega)) (.p rfl rfl (.as rfl) (.nil ?_)))
        exact (again (i + 1) ⟨by show i + 1 ≤ _; omega, name_step hi hall (by omega)⟩ (by show _ - (i + 1) < _ - i; omega)).of ⟨rfl, rfl, trivial⟩
       ·refine .p rfl rfl (.mv rfl) (.p rfl rfl (.eq rfl rfl) (.p rfl rfl (.pickF rfl rfl) (.p rfl rfl (.mv rfl) ?_)))
        refine .caseD 44 rfl (fun c44 => ?_) (fun c44 => ?_)
        ·refine .skip rfl rfl (.skip rfl rfl (.p rfl rfl (.pickT rfl rfl) (.p rfl rfl (.not rfl) (.nil (.code (.keep [(48, _), (0, _), (3, _)] ⟨rfl, rfl, rfl, trivial⟩ (.condF rfl (.skip (.blk (.code (.keep [(0, _), (3, _)] ⟨rfl, rfl, trivial⟩ (.region ?_))))))))))))
         refine .p rfl rfl (.mv rfl) (.p rfl rfl (.add rfl rfl (by omega)) (.p rfl rfl (.as rfl) (.nil ?_)))
         exact (again (i + 1) ⟨by show i + 1 ≤ _; omega, name_step hi hall (by omega)⟩ (by show _ - (i + 1) < _ - i; omega)).of ⟨rfl, rfl, trivial⟩
        ·refine .p rfl rfl (.mv rfl) (.p rfl rfl (.eq rfl rfl) (.p rfl rfl (.pickF rfl rfl) (.p rfl rfl (.notD rfl) (.nil (.code (.keep [(48, _), (0, _), (3, _)] ⟨rfl, rfl, rfl, trivial⟩ ?_))))))
         refine .condD rfl (fun c48 => ?_) (fun c48 => ?_)
         ·refine .seq (.keep [] trivial (.region ?_))
          refine .p rfl rfl (.as rfl) (.nil (.code ?_))
          refine .ret _ rfl ?_
          first
           | (rw [name_len (by omega)]; exact ⟨rfl, .refl _⟩)
           | (rw [name_no hi (by omega)]; exact ⟨rfl, .refl _⟩)
           | (rw [name_yes (by omega) hall]; exact ⟨rfl, .refl _⟩)
         ·refine .skip (.blk (.code (.keep [(0, _), (3, _)] ⟨rfl, rfl, trivial⟩ (.region ?_))))
          refine .p rfl rfl (.mv rfl) (.p rfl rfl (.add rfl rfl (by omega)) (.p rfl rfl (.as rfl) (.nil ?_)))
          exact (again (i + 1) ⟨by show i + 1 ≤ _; omega, name_step hi hall (by omega)⟩ (by show _ - (i + 1) < _ - i; omega)).of ⟨rfl, rfl, trivial⟩
    ·refine .skip rfl rfl (.skip rfl rfl (.p rfl rfl (.pickF rfl rfl) (.p rfl rfl (.mv rfl) (.p rfl rfl (.mv rfl) (.p rfl rfl (.ge rfl rfl) (.p rfl rfl (.mv rfl) ?_))))))
     refine .caseD 31 rfl (fun c31 => ?_) (fun c31 => ?_)
     ·refine .p rfl rfl (.mv rfl) (.p rfl rfl (.le rfl rfl) (.p rfl rfl (.pickT rfl rfl) (.p rfl rfl (.pickF rfl rfl) (.p rfl rfl (.mv rfl) ?_))))
      refine .caseD 36 rfl (fun c36 => ?_) (fun c36 => ?_)
      ·refine .skip rfl rfl (.skip rfl rfl (.p rfl rfl (.pickT rfl rfl) (.p rfl rfl (.mv rfl) (.skip rfl rfl (.skip rfl rfl (.p rfl rfl (.pickT rfl rfl) (.p rfl rfl (.mv rfl) (.skip rfl rfl (.skip rfl rfl (.p rfl rfl (.pickT rfl rfl) (.p rfl rfl (.not rfl) (.nil (.code (.keep [(48, _), (0, _), (3, _)] ⟨rfl, rfl, rfl, trivial⟩ (.condF rfl (.skip (.blk (.code (.keep [(0, _), (3, _)] ⟨rfl, rfl, trivial⟩ (.region ?_))))))))))))))))))))
       refine .p rfl rfl (.mv rfl) (.p rfl rfl (.add rfl rfl (by omega)) (.p rfl rfl (.as rfl) (.nil ?_)))
       exact (again (i + 1) ⟨by show i + 1 ≤ _; omega, name_step hi hall (by omega)⟩ (by show _ - (i + 1) < _ - i; omega)).of ⟨rfl, rfl, trivial⟩
      ·refine .p rfl rfl (.mv rfl) (.p rfl rfl (.eq rfl rfl) (.p rfl rfl (.pickF rfl rfl) (.p rfl rfl (.mv rfl) ?_)))
       refine .caseD 40 rfl (fun c40 => ?_) (fun c40 => ?_)
       ·refine .skip rfl rfl (.skip rfl rfl (.p rfl rfl (.pickT rfl rfl) (.p rfl rfl (.mv rfl) (.skip rfl rfl (.skip rfl rfl (.p rfl rfl (.pickT rfl rfl) (.p rfl rfl (.not rfl) (.nil (.code (.keep [(48, _), (0, _), (3, _)] ⟨rfl, rfl, rfl, trivial⟩ (.condF rfl (.skip (.blk (.code (.keep [(0, _), (3, _)] ⟨rfl, rfl, trivial⟩ (.region ?_))))))))))))))))
        refine .p rfl rfl (.mv rfl) (.p rfl rfl (.add rfl rfl (by omega)) (.p rfl rfl (.as rfl) (.nil ?_)))
        exact (again (i + 1) ⟨by show i + 1 ≤ _; omega, name_step hi hall (by omega)⟩ (by show _ - (i + 1) < _ - i; omega)).of ⟨rfl, rfl, trivial⟩
       ·refine .p rfl rfl (.mv rfl) (.p rfl rfl (.eq rfl rfl) (.p rfl rfl (.pickF rfl rfl) (.p rfl rfl (.mv rfl) ?_)))
        refine .caseD 44 rfl (fun c44 => ?_) (fun c44 => ?_)
        ·refine .skip rfl rfl (.skip rfl rfl (.p rfl rfl (.pickT rfl rfl) (.p rfl rfl (.not rfl) (.nil (.code (.keep [(48, _), (0, _), (3, _)] ⟨rfl, rfl, rfl, trivial⟩ (.condF rfl (.skip (.blk (.code (.keep [(0, _), (3, _)] ⟨rfl, rfl, trivial⟩ (.region ?_))))))))))))
         refine .p rfl rfl (.mv rfl) (.p rfl rfl (.add rfl rfl (by omega)) (.p rfl rfl (.as rfl) (.nil ?_)))
         exact (again (i + 1) ⟨by show i + 1 ≤ _; omega, name_step hi hall (by omega)⟩ (by show _ - (i + 1) < _ - i; omega)).of ⟨rfl, rfl, trivial⟩
        ·refine .p rfl rfl (.mv rfl) (.p rfl rfl (.eq rfl rfl) (.p rfl rfl (.pickF rfl rfl) (.p rfl rfl (.notD rfl) (.nil (.code (.keep [(48, _), (0, _), (3, _)] ⟨rfl, rfl, rfl, trivial⟩ ?_))))))
         refine .condD rfl (fun c48 => ?_) (fun c48 => ?_)
         ·refine .seq (.keep [] trivial (.region ?_))
          refine .p rfl rfl (.as rfl) (.nil (.code ?_))
          refine .ret _ rfl ?_
          first
           | (rw [name_len (by omega)]; exact ⟨rfl, .refl _⟩)
           | (rw [name_no hi (by omega)]; exact ⟨rfl, .refl _⟩)
           | (rw [name_yes (by omega) hall]; exact ⟨rfl, .refl _⟩)
         ·refine .skip (.blk (.code (.keep [(0, _), (3, _)] ⟨rfl, rfl, trivial⟩ (.region ?_))))
          refine .p rfl rfl (.mv rfl) (.p rfl rfl (.add rfl rfl (by omega)) (.p rfl rfl (.as rfl) (.nil ?_)))
          exact (again (i + 1) ⟨by show i + 1 ≤ _; omega, name_step hi hall (by omega)⟩ (by show _ - (i + 1) < _ - i; omega)).of ⟨rfl, rfl, trivial⟩
     ·refine .skip rfl rfl (.skip rfl rfl (.p rfl rfl (.pickF rfl rfl) (.p rfl rfl (.pickF rfl rfl) (.p rfl rfl (.mv rfl) (.p rfl rfl (.mv rfl) (.p rfl rfl (.eq rfl rfl) (.p rfl rfl (.pickF rfl rfl) (.p rfl rfl (.mv rfl) ?_))))))))
      refine .caseD 40 rfl (fun c40 => ?_) (fun c40 => ?_)
      ·refine .skip rfl rfl (.skip rfl rfl (.p rfl rfl (.pickT rfl rfl) (.p rfl rfl (.mv rfl) (.skip rfl rfl (.skip rfl rfl (.p rfl rfl (.pickT rfl rfl) (.p rfl rfl (.not rfl) (.nil (.code (.keep [(48, _), (0, _), (3, _)] ⟨rfl, rfl, rfl, trivial⟩ (.condF rfl (.skip (.blk (.code (.keep [(0, _), (3, _)] ⟨rfl, rfl, trivial⟩ (.region ?_))))))))))))))))
       refine .p rfl rfl (.mv rfl) (.p rfl rfl (.add rfl rfl (by omega)) (.p rfl rfl (.as rfl) (.nil ?_)))
       exact (again (i + 1) ⟨by show i + 1 ≤ _; omega, name_step hi hall (by omega)⟩ (by show _ - (i + 1) < _ - i; omega)).of ⟨rfl, rfl, trivial⟩
      ·refine .p rfl rfl (.mv rfl) (.p rfl rfl (.eq rfl rfl) (.p rfl rfl (.pickF rfl rfl) (.p rfl rfl (.mv rfl) ?_)))
       refine .caseD 44 rfl (fun c44 => ?_) (fun c44 => ?_)
       ·refine .skip rfl rfl (.skip rfl rfl (.p rfl rfl (.pickT rfl rfl) (.p rfl rfl (.not rfl) (.nil (.code (.keep [(48, _), (0, _), (3, _)] ⟨rfl, rfl, rfl, trivial⟩ (.condF rfl (.skip (.blk (.code (.keep [(0, _), (3, _)] ⟨rfl, rfl, trivial⟩ (.region ?_))))))))))))
        refine .p rfl rfl (.mv rfl) (.p rfl rfl (.add rfl rfl (by omega)) (.p rfl rfl (.as rfl) (.nil ?_)))
        exact (again (i + 1) ⟨by show i + 1 ≤ _; omega, name_step hi hall (by omega)⟩ (by show _ - (i + 1) < _ - i; omega)).of ⟨rfl, rfl, trivial⟩
       ·refine .p rfl rfl (.mv rfl) (.p rfl rfl (.eq rfl rfl) (.p rfl rfl (.pickF rfl rfl) (.p rfl rfl (.notD rfl) (.nil (.code (.keep [(48, _), (0, _), (3, _)] ⟨rfl, rfl, rfl, trivial⟩ ?_))))))
        refine .condD rfl (fun c48 => ?_) (fun c48 => ?_)
        ·refine .seq (.keep [] trivial (.region ?_))
         refine .p rfl rfl (.as rfl) (.nil (.code ?_))
         refine .ret _ rfl ?_
         first
          | (rw [name_len (by omega)]; exact ⟨rfl, .refl _⟩)
          | (rw [name_no hi (by omega)]; exact ⟨rfl, .refl _⟩)
          | (rw [name_yes (by omega) hall]; exact ⟨rfl, .refl _⟩)
        ·refine .skip (.blk (.code (.keep [(0, _), (3, _)] ⟨rfl, rfl, trivial⟩ (.region ?_))))
         refine .p rfl rfl (.mv rfl) (.p rfl rfl (.add rfl rfl (by omega)) (.p rfl rfl (.as rfl) (.nil ?_)))
         exact (again (i + 1) ⟨by show i + 1 ≤ _; omega, name_step hi hall (by omega)⟩ (by show _ - (i + 1) < _ - i; omega)).of ⟨rfl, rfl, trivial⟩
   ·obtain rfl : i = nm.length := by omega
    rw [List.take_length] at hall
    refine .exit rfl (.code (.seq (.keep [] trivial (.region ?_))))
    refine .p rfl rfl (.as rfl) (.nil (.code ?_))
    refine .ret _ rfl ?_
    first
     | (rw [name_len (by omega)]; exact ⟨rfl, .refl _⟩)
     | (rw [name_no hi (by omega)]; exact ⟨rfl, .refl _⟩)
     | (rw [name_yes (by omega) hall]; exact ⟨rfl, .refl _⟩)
theorem refNeeds_fn {w : World} {n : Int} (hn : 0 ≤ n ∧ n ≤ 9223372036854775000) : Fn Tryz.prog 98 [i64 n] w (fun r w2 => r = i64 (needF n) ∧ Ext (fun _ => False) w w2) := by
 refine Fn.enter (fun w => Tryz.call98 _ w) Tryz.func98 rfl ?_
 refine .seq (.region ?_)
 refine .p rfl rfl (.as rfl) (.nil (.code (.seq (.keep [(0, _)] ⟨rfl, trivial⟩ (.region ?_)))))
 refine .p rfl rfl (.mv rfl) (.p rfl rfl (.add rfl rfl (by omega)) (.p rfl rfl (.sub rfl rfl (by omega)) (.p rfl rfl (.quo rfl rfl (by omega)) (.p rfl rfl (.as rfl) (.nil (.code ?_))))))
 refine .ret _ rfl ?_
 exact ⟨by show i64 ((n + 128 - 1) / 128) = i64 (needF n); unfold needF; rw [show n + 127 = n + 128 - 1 by omega], .refl _⟩
theorem refPieces_fn {w : World} {v : Value} {x : Dir} (h : tDir.rep All w v x) (hp : (allP x.fs).length ≤ 1000000) : Fn Tryz.prog 77 [v] w (fun r w2 => OwnO tPiece (fun _ => False) 40 w2 r (allP x.fs) (fun k => w.heap.size ≤ k) ∧ Ext (fun _ => False) w w2) := by
 obtain ⟨a, cap, rfl, hf, hg⟩ := tDir.val h
 have hlim := Sl.lim hf
 simp only [Lim] at hlim
 refine Fn.enter (fun w => Tryz.call77 _ w) Tryz.func77 rfl ?_
 refine .seq (.region ?_)
 refine .v rfl rfl (.box rfl) ?_
 rintro _ w1 ⟨rfl, N1⟩
 have B1 := N1.blk
 have X1 := N1.ext
 have z1 := N1.size
 refine .p rfl rfl (.as rfl) (.nil (.code (.seq (.keep [(1, _)] ⟨rfl, trivial⟩ (.region ?_)))))
 refine .p rfl rfl (.as rfl) (.nil (.code (.seq (.seq (.region ?_)))))
 refine .p rfl rfl (.as rfl) (.nil (.code (.block ?_)))
 refine .loop (S := Nat × List Piece × Value × World) (fun s => [(1, .pointer (some ⟨w.heap.size, 0, none⟩)), (3, s.2.2.1), (4, i64 s.1)]) (fun s => s.2.2.2) (fun s => s.1 ≤ x.fs.length ∧ s.2.1 = (x.fs.take s.1).flatMap (·.ps) ∧ OwnO tPiece (fun _ => False) 40 s.2.2.2 s.2.2.1 s.2.1 (fun k => w1.heap.size ≤ k) ∧ Ext (fun _ => False) w1 s.2.2.2) (fun s => x.fs.length - s.1) (0, [], .slice none 0 0, w1) ⟨rfl, rfl, rfl, trivial⟩ rfl ⟨Nat.zero_le _, rfl, OwnO.nil, .refl _⟩ ?_
 rintro ⟨i, acc, vi, wi⟩ J ⟨hi', ha, hO, hX⟩ again
 simp only at hi' ha hO hX
 have zi := hX.size
 change G _ [(1, .pointer (some ⟨w.heap.size, 0, none⟩)), (3, vi), (4, i64 i)] _ _ wi
 refine .seq (.seq (.region ?_))
 refine .p rfl rfl (.mv rfl) (.p rfl rfl (.fieldAddr rfl rfl rfl rfl) (.p rfl rfl (.load rfl rfl rfl ((B1.ext (S := fun _ => False) (by repeat (first | exact Ext.refl _ | assumption | refine Ext.trans (by assumption) ?_)) (fun x => x)).cell 1)) ?_))
 refine .p rfl rfl (.len rfl rfl) (.p rfl rfl (.lt rfl rfl) (.nil (.code (.keep [(9, _), (1, _), (3, _), (4, _)] ⟨rfl, rfl, rfl, rfl, trivial⟩ ?_))))
 refine .condD rfl (fun c9 => ?_) (fun c9 => ?_)
 ·have hi : i < x.fs.length := by omega
  obtain ⟨b1, o1, q1, ue1, e1, _, hcs, hre⟩ := Sl.at hf (List.getElem?_eq_getElem hi)
  cases e1
  obtain ⟨fa1, fc1, rfl, hps, hnm, hsz⟩ := tFile.val hre
  have hst := allP_step hi
  rw [← ha] at hst
  refine .skip (.code (.seq (.block (.keep [(1, _), (3, _), (4, _)] ⟨rfl, rfl, rfl, trivial⟩ (.region ?_)))))
  refine .p rfl rfl (.mv rfl) (.p rfl rfl (.fieldAddr rfl rfl rfl rfl) (.p rfl rfl (.load rfl rfl rfl ((B1.ext (S := fun _ => False) (by repeat (first | exact Ext.refl _ | assumption | refine Ext.trans (by assumption) ?_)) (fun x => x)).cell 1)) ?_))
  refine .p rfl rfl (.mv rfl) (.p rfl rfl (.indexAddr (s := 3) rfl rfl rfl rfl (by omega)) (.p rfl rfl (.fieldAddr rfl rfl rfl rfl) (.p rfl rfl (.load rfl rfl rfl ((hcs.ext (S := fun _ => False) (by repeat (first | exact Ext.refl _ | assumption | refine Ext.trans (by assumption) ?_)) (fun x => x)) 2 _ rfl)) ?_)))
  refine .v rfl rfl (.appendLo (t := tPiece) (eb := 16) rfl hO (fun k hk => by show w1.heap.size ≤ k; omega) rfl (Sl.holds ((Sl tPiece).ext0 hps (by repeat (first | exact Ext.refl _ | assumption | refine Ext.trans (by assumption) ?_))) (fun _ _ h => h)) rfl rfl rfl rfl rfl rfl rfl (by omega) (by simp only [Lim]; omega) (fun _ h _ => h.elim)) ?_
  rintro v19 w19 ⟨O19, A19⟩
  refine .p rfl rfl (.as rfl) (.nil (.blk (.code (.keep [(3, _), (1, _), (4, _)] ⟨rfl, rfl, rfl, trivial⟩ (.region ?_)))))
  refine .p rfl rfl (.mv rfl) (.p rfl rfl (.add rfl rfl (by omega)) (.p rfl rfl (.as rfl) (.nil ?_)))
  exact (again (i + 1, acc ++ x.fs[i].ps, v19, w19) ⟨by show i + 1 ≤ _; omega, by show acc ++ x.fs[i].ps = _; rw [files_step hi, ha], O19, hX.then A19 (fun k h _ => h)⟩ (by show _ - (i + 1) < _ - i; omega)).of ⟨rfl, rfl, rfl, trivial⟩
 ·obtain rfl : i = x.fs.length := by omega
  rw [List.take_length] at ha
  refine .exit rfl (.code (.seq (.keep [(3, _)] ⟨rfl, trivial⟩ (.region ?_))))
  refine .p rfl rfl (.mv rfl) (.p rfl rfl (.as rfl) (.nil (.code ?_)))
  refine .ret _ rfl ?_
  rw [ha] at hO
  exact ⟨OwnO.mono hO (fun _ h _ => h) (fun k h _ => by have h : w1.heap.size ≤ k := h; show w.heap.size ≤ k; omega), (by repeat (first | exact Ext.refl _ | assumption | refine Ext.trans (by assumption) ?_))⟩
theorem refMay_fn {w : World} {v : Value} {x : Dir} (h : tDir.rep All w v x) (hp : (allP x.fs).length ≤ 1000000) : Fn Tryz.prog 51 [v] w (fun r w2 => ∃ t, r = .bool t ∧ (t = true ↔ mayD x) ∧ Ext (fun _ => False) w w2) := by
 have h0 := h
 obtain ⟨a, cap, rfl, hf, hg⟩ := tDir.val h
 have hlim := Sl.lim hf
 simp only [Lim] at hlim
 refine Fn.enter (fun w => Tryz.call51 _ w) Tryz.func51 rfl ?_
 refine .seq (.region ?_)
 refine .v rfl rfl (.box rfl) ?_
 rintro _ w1 ⟨rfl, N1⟩
 have B1 := N1.blk
 have X1 := N1.ext
 have z1 := N1.size
 refine .p rfl rfl (.as rfl) (.nil (.code (.seq (.seq (.keep [(1, _)] ⟨rfl, trivial⟩ (.region ?_))))))
 refine .p rfl rfl (.fieldAddr rfl rfl rfl rfl) (.p rfl rfl (.load rfl rfl rfl ((B1.ext (S := fun _ => False) (by repeat (first | exact Ext.refl _ | assumption | refine Ext.trans (by assumption) ?_)) (fun x => x)).cell 0)) ?_)
 refine .p rfl rfl (.lt rfl rfl) (.p rfl rfl (.mv rfl) ?_)
 refine .caseD 12 rfl (fun c12 => ?_) (fun c12 => ?_)
 ·refine .skip rfl rfl (.skip rfl rfl (.skip rfl rfl (.p rfl rfl (.pickT rfl rfl) (.nil (.code (.keep [(16, _), (1, _)] ⟨rfl, rfl, trivial⟩ (.condT rfl (.seq (.keep [] trivial (.region ?_))))))))))
  refine .p rfl rfl (.as rfl) (.nil (.code ?_))
  refine .ret _ rfl ?_
  exact ⟨_, rfl, ⟨fun h => (by cases h), fun hm => by have := hm.1.1; omega⟩, (by repeat (first | exact Ext.refl _ | assumption | refine Ext.trans (by assumption) ?_))⟩
 ·refine .p rfl rfl (.fieldAddr rfl rfl rfl rfl) (.p rfl rfl (.load rfl rfl rfl ((B1.ext (S := fun _ => False) (by repeat (first | exact Ext.refl _ | assumption | refine Ext.trans (by assumption) ?_)) (fun x => x)).cell 0)) ?_)
  refine .p rfl rfl (.ge rfl rfl) (.p rfl rfl (.pickF rfl rfl) (.nil (.code (.keep [(16, _), (1, _)] ⟨rfl, rfl, trivial⟩ ?_))))
  refine .condD rfl (fun c16 => ?_) (fun c16 => ?_)
  ·refine .seq (.keep [] trivial (.region ?_))
   refine .p rfl rfl (.as rfl) (.nil (.code ?_))
   refine .ret _ rfl ?_
   exact ⟨_, rfl, ⟨fun h => (by cases h), fun hm => by have := hm.1.2; omega⟩, (by repeat (first | exact Ext.refl _ | assumption | refine Ext.trans (by assumption) ?_))⟩
  ·refine .skip (.code (.seq (.keep [(1, _)] ⟨rfl, trivial⟩ (.region ?_))))
   refine .p rfl rfl (.loadA (n := 2) rfl rfl rfl rfl rfl (B1.ext (S := fun _ => False) (by repeat (first | exact Ext.refl _ | assumption | refine Ext.trans (by assumption) ?_)) (fun x => x)).cells) ?_
   refine .call (first := []) (captured := []) rfl rfl rfl rfl (refPieces_fn (x := x) (tDir.ext0 h0 (by repeat (first | exact Ext.refl _ | assumption | refine Ext.trans (by assumption) ?_))) hp) ?_
   rintro v18 w18 ⟨O18, X18⟩
   have z18 := X18.size
   have R18 := OwnO.rep O18 (R := All) (fun _ _ _ => trivial) (fun _ h _ => h.elim)
   obtain ⟨a18, k18, rfl, _⟩ := OwnO.val O18
   refine .p rfl rfl (.as rfl) (.nil (.code (.seq (.seq (.keep [(3, _), (1, _)] ⟨rfl, rfl, trivial⟩ (.region ?_))))))
   refine .p rfl rfl (.mv rfl) (.call (first := []) (captured := []) rfl rfl rfl rfl (RefCheck_fn (count := 4096) R18) ?_)
   rintro _ w20 ⟨rfl, X20⟩
   have z20 := X20.size
   refine .p rfl rfl (.ne rfl rfl) (.nil (.code (.keep [(21, _), (3, _), (1, _)] ⟨rfl, rfl, rfl, trivial⟩ ?_)))
   refine .condD rfl (fun c21 => ?_) (fun c21 => ?_)
   ·refine .seq (.keep [] trivial (.region ?_))
    refine .p rfl rfl (.as rfl) (.nil (.code ?_))
    refine .ret _ rfl ?_
    exact ⟨_, rfl, ⟨fun h => (by cases h), fun hm => absurd hm.2.1 c21⟩, (by repeat (first | exact Ext.refl _ | assumption | refine Ext.trans (by assumption) ?_))⟩
   ·have hck : checkR 4096 (allP x.fs) = 0 := Decidable.not_not.1 c21
    have hpl := (check_ok hck).2.2.1
    refine .skip (.code (.seq (.seq (.keep [(3, _), (1, _)] ⟨rfl, rfl, trivial⟩ (.region ?_)))))
    refine .p rfl rfl (.as rfl) (.nil (.code (.block ?_)))
    refine .loop (S := Nat) (fun s => [(1, .pointer (some ⟨w.heap.size, 0, none⟩)), (3, .slice a18 (allP x.fs).length k18), (4, i64 s)]) (fun s => w20) (fun s => s ≤ (allP x.fs).length ∧ ∀ j (h : j < (allP x.fs).length), j < s → 80 ≤ (allP x.fs)[j].fr) (fun s => (allP x.fs).length - s) 0 ⟨rfl, rfl, rfl, trivial⟩ rfl ⟨Nat.zero_le _, fun j _ h => absurd h (Nat.not_lt_zero _)⟩ ?_
    rintro i J ⟨hi', hlo⟩ again
    refine .seq (.seq (.region ?_))
    refine .p rfl rfl (.mv rfl) (.p rfl rfl (.mv rfl) (.p rfl rfl (.len rfl rfl) (.p rfl rfl (.lt rfl rfl) (.nil (.code (.keep [(25, _), (1, _), (3, _), (4, _)] ⟨rfl, rfl, rfl, rfl, trivial⟩ ?_))))))
    refine .condD rfl (fun c25 => ?_) (fun c25 => ?_)
    ·have hi : i < (allP x.fs).length := by omega
     obtain ⟨bp, op, qp, up, ep, _, hcp, hrp⟩ := Sl.at R18 (List.getElem?_eq_getElem hi)
     cases ep
     obtain ⟨rfl, hr1, hr2⟩ := tPiece.val hrp
     refine .skip (.code (.seq (.block (.seq (.keep [(1, _), (3, _), (4, _)] ⟨rfl, rfl, rfl, trivial⟩ (.region ?_))))))
     refine .p rfl rfl (.mv rfl) (.p rfl rfl (.mv rfl) (.p rfl rfl (.indexAddr (s := 2) rfl rfl rfl rfl (by omega)) (.p rfl rfl (.fieldAddr rfl rfl rfl rfl) (.p rfl rfl (.load rfl rfl rfl (hcp.ext (S := fun _ => False) (by repeat (first | exact Ext.refl _ | assumption | refine Ext.trans (by assumption) ?_)) (fun x => x) 0 _ rfl)) ?_))))
     refine .p rfl rfl (.lt rfl rfl) (.nil (.code (.keep [(33, _), (1, _), (3, _), (4, _)] ⟨rfl, rfl, rfl, rfl, trivial⟩ ?_)))
     refine .condD rfl (fun c33 => ?_) (fun c33 => ?_)
     ·refine .seq (.keep [] trivial (.region ?_))
      refine .p rfl rfl (.as rfl) (.nil (.code ?_))
      refine .ret _ rfl ?_
      exact ⟨_, rfl, ⟨fun h => (by cases h), fun hm => by have := hm.2.2.1 _ (List.getElem_mem hi); omega⟩, (by repeat (first | exact Ext.refl _ | assumption | refine Ext.trans (by assumption) ?_))⟩
     ·refine .skip (.blk (.code (.keep [(1, _), (3, _), (4, _)] ⟨rfl, rfl, rfl, trivial⟩ (.region ?_))))
      refine .p rfl rfl (.mv rfl) (.p rfl rfl (.add rfl rfl (by omega)) (.p rfl rfl (.as rfl) (.nil ?_)))
      refine (again (i + 1) ⟨by show i + 1 ≤ _; omega, fun j hj h1 => ?_⟩ (by show _ - (i + 1) < _ - i; omega)).of ⟨rfl, rfl, rfl, trivial⟩
      rcases Nat.lt_or_ge j i with h2 | h2
      ·exact hlo j hj h2
      ·have h1 : j < i + 1 := h1
       obtain rfl : j = i := by omega
       exact Int.not_lt.1 c33
    ·obtain rfl : i = (allP x.fs).length := by omega
     refine .exit rfl (.code (.seq (.seq (.keep [(1, _)] ⟨rfl, trivial⟩ (.region ?_)))))
     refine .p rfl rfl (.as rfl) (.nil (.code (.block ?_)))
     refine .loop (S := Nat × World) (fun s => [(1, .pointer (some ⟨w.heap.size, 0, none⟩)), (5, i64 s.1)]) (fun s => s.2) (fun s => s.1 ≤ x.fs.length ∧ (∀ j (h : j < x.fs.length), j < s.1 → okAt x.fs j h) ∧ Ext (fun _ => False) w20 s.2) (fun s => x.fs.length - s.1) (0, w20) ⟨rfl, rfl, trivial⟩ rfl ⟨Nat.zero_le _, fun j _ h => absurd h (Nat.not_lt_zero _), .refl _⟩ ?_
     rintro ⟨i, wi⟩ J ⟨hi', hok, hX⟩ again
     simp only at hi' hok hX
     have zi := hX.size
     change G _ [(1, .pointer (some ⟨w.heap.size, 0, none⟩)), (5, i64 i)] _ _ wi
     refine .seq (.seq (.region ?_))
     refine .p rfl rfl (.mv rfl) (.p rfl rfl (.fieldAddr rfl rfl rfl rfl) (.p rfl rfl (.load rfl rfl rfl ((B1.ext (S := fun _ => False) (by repeat (first | exact Ext.refl _ | assumption | refine Ext.trans (by assumption) ?_)) (fun x => x)).cell 1)) ?_))
     refine .p rfl rfl (.len rfl rfl) (.p rfl rfl (.lt rfl rfl) (.nil (.code (.keep [(38, _), (1, _), (5, _)] ⟨rfl, rfl, rfl, trivial⟩ ?_))))
     refine .condD rfl (fun c38 => ?_) (fun c38 => ?_)
     ·have hi : i < x.fs.length := by omega
      obtain ⟨b1, o1, q1, ue1, e1, _, hcs, hre⟩ := Sl.at hf (List.getElem?_eq_getElem hi)
      cases e1
      obtain ⟨fa1, fc1, rfl, hps, hnm, hsz⟩ := tFile.val hre
      refine .skip (.code (.seq (.block (.seq (.keep [(1, _), (5, _)] ⟨rfl, rfl, trivial⟩ (.region ?_))))))
      refine .p rfl rfl (.fieldAddr rfl rfl rfl rfl) (.p rfl rfl (.load rfl rfl rfl ((B1.ext (S := fun _ => False) (by repeat (first | exact Ext.refl _ | assumption | refine Ext.trans (by assumption) ?_)) (fun x => x)).cell 1)) ?_)
      refine .p rfl rfl (.mv rfl) (.p rfl rfl (.indexAddr (s := 3) rfl rfl rfl rfl (by omega)) (.p rfl rfl (.loadA (n := 3) rfl rfl rfl rfl rfl (hcs.ext (S := fun _ => False) (by repeat (first | exact Ext.refl _ | assumption | refine Ext.trans (by assumption) ?_)) (fun x => x))) ?_))
      refine .v rfl rfl (.alloc rfl rfl) ?_
      rintro _ wn6 ⟨rfl, N6⟩
      refine .s rfl (.storeAll (n := 3) rfl rfl rfl rfl rfl N6.blk rfl) ?_
      intro w6 P6
      have Y6 := N6.ext.then P6.ext (by rintro k rfl _; exact Nat.le_refl _)
      have zy6 := Y6.size
      have B6 := P6.blk
      clear P6 N6
      refine .nil (.code (.seq (.seq (.keep [(6, _), (1, _), (5, _)] ⟨rfl, rfl, rfl, trivial⟩ (.mix (fun _ => False) [2] (by kernel_rfl) (by kernel_rfl) (by kernel_rfl) ?_)))))
      refine .p rfl rfl rfl (fun wx hx => .fieldAddr rfl rfl rfl rfl) (.p rfl rfl rfl (fun wx hx => .load rfl rfl rfl ((B6.ext (S := fun _ => False) (Ext.trans (by repeat (first | exact Ext.refl _ | assumption | refine Ext.trans (by assumption) ?_)) hx) (fun x => x)).cell 0)) ?_)
      refine .call (first := []) (captured := []) rfl rfl rfl rfl rfl (RefIsName_fn hnm) (by rintro _ _ ⟨_, hx⟩; exact hx) ?_
      rintro _ w48 ⟨rfl, X48⟩
      have z48 := X48.size
      refine .p rfl rfl rfl (fun wx hx => .not rfl) (.p rfl rfl rfl (fun wx hx => .mv rfl) ?_)
      refine .case 50 rfl (fun c50 => ?_) (fun c50 => ?_)
      ·refine .skip rfl rfl (.skip rfl rfl (.skip rfl rfl (.skip rfl rfl (.skip rfl rfl (.skip rfl rfl (.skip rfl rfl (.skip rfl rfl (.skip rfl rfl (.skip rfl rfl (.skip rfl rfl (.skip rfl rfl (.skip rfl rfl (.skip rfl rfl ?_)))))))))))))
       refine .p rfl rfl rfl (fun wx hx => .pickT rfl rfl) (.p rfl rfl rfl (fun wx hx => .mv rfl) (.skip rfl rfl (.skip rfl rfl (.skip rfl rfl (.p rfl rfl rfl (fun wx hx => .pickT rfl rfl) (.p rfl rfl rfl (fun wx hx => .mv rfl) (.skip rfl rfl (.skip rfl rfl (.skip rfl rfl (.p rfl rfl rfl (fun wx hx => .pickT rfl rfl) (.nil (.code (.keep [(75, _), (6, _), (1, _), (5, _)] ⟨rfl, rfl, rfl, rfl, trivial⟩ (.condT rfl (.seq (.keep [] trivial (.region ?_)))))))))))))))))
       refine .p rfl rfl (.as rfl) (.nil (.code ?_))
       refine .ret _ rfl ?_
       have ho := fun hm : mayD x => hm.2.2.2 i hi
       exact ⟨_, rfl, ⟨fun h => (by cases h), fun hm => by have ho := ho hm; simp [ho.1] at c50⟩, (by repeat (first | exact Ext.refl _ | assumption | refine Ext.trans (by assumption) ?_))⟩
      ·refine .p rfl rfl rfl (fun wx hx => .mv rfl) (.p rfl rfl rfl (fun wx hx => .gt rfl rfl) (.p rfl rfl rfl (fun wx hx => .mv rfl) ?_))
       refine .caseD 53 rfl (fun c53 => ?_) (fun c53 => ?_)
       ·have hpos : 0 < i := by omega
        obtain ⟨b2, o2, q2, ue2, e2, _, hcs2, hre2⟩ := Sl.at hf (i := i - 1) (List.getElem?_eq_getElem (by omega))
        cases e2
        obtain ⟨fa2, fc2, rfl, hps2, hnm2, hsz2⟩ := tFile.val hre2
        have ej : ((i : Int) - 1).toNat = i - 1 := by omega
        refine .p rfl rfl rfl (fun wx hx => .fieldAddr rfl rfl rfl rfl) (.p rfl rfl rfl (fun wx hx => .load rfl rfl rfl ((B1.ext (S := fun _ => False) (Ext.trans (by repeat (first | exact Ext.refl _ | assumption | refine Ext.trans (by assumption) ?_)) hx) (fun x => x)).cell 1)) ?_)
        refine .p rfl rfl rfl (fun wx hx => .mv rfl) (.p rfl rfl rfl (fun wx hx => .sub rfl rfl (by omega)) (.p rfl rfl rfl (fun wx hx => .indexAddr (s := 3) rfl rfl rfl rfl (by omega)) (.p rfl rfl rfl (fun wx hx => .fieldAddr rfl rfl rfl rfl) (.p rfl rfl rfl (fun wx hx => .load rfl rfl rfl (by rw [ej]; exact hcs2.ext (S := fun _ => False) (Ext.trans (by repeat (first | exact Ext.refl _ | assumption | refine Ext.trans (by assumption) ?_)) hx) (fun x => x) 0 _ rfl)) ?_))))
        refine .p rfl rfl rfl (fun wx hx => .fieldAddr rfl rfl rfl rfl) (.p rfl rfl rfl (fun wx hx => .load rfl rfl rfl ((B6.ext (S := fun _ => False) (Ext.trans (by repeat (first | exact Ext.refl _ | assumption | refine Ext.trans (by assumption) ?_)) hx) (fun x => x)).cell 0)) ?_)
        refine .p rfl rfl rfl (fun wx hx => .geS rfl rfl) (.p rfl rfl rfl (fun wx hx => .pickT rfl rfl) (.p rfl rfl rfl (fun wx hx => .pickF rfl rfl) (.p rfl rfl rfl (fun wx hx => .mv rfl) ?_)))
        refine .case 66 rfl (fun c66 => ?_) (fun c66 => ?_)
        ·refine .skip rfl rfl (.skip rfl rfl (.skip rfl rfl (.p rfl rfl rfl (fun wx hx => .pickT rfl rfl) (.p rfl rfl rfl (fun wx hx => .mv rfl) (.skip rfl rfl (.skip rfl rfl (.skip rfl rfl (.p rfl rfl rfl (fun wx hx => .pickT rfl rfl) (.nil (.code (.keep [(75, _), (6, _), (1, _), (5, _)] ⟨rfl, rfl, rfl, rfl, trivial⟩ (.condT rfl (.seq (.keep [] trivial (.region ?_)))))))))))))))
         refine .p rfl rfl (.as rfl) (.nil (.code ?_))
         refine .ret _ rfl ?_
         have ho := fun hm : mayD x => hm.2.2.2 i hi
         exact ⟨_, rfl, ⟨fun h => (by cases h), fun hm => by have ho := ho hm; simp [ho.2.1 hpos] at c66⟩, (by repeat (first | exact Ext.refl _ | assumption | refine Ext.trans (by assumption) ?_))⟩
        ·refine .p rfl rfl rfl (fun wx hx => .fieldAddr rfl rfl rfl rfl) (.p rfl rfl rfl (fun wx hx => .load rfl rfl rfl ((B6.ext (S := fun _ => False) (Ext.trans (by repeat (first | exact Ext.refl _ | assumption | refine Ext.trans (by assumption) ?_)) hx) (fun x => x)).cell 1)) ?_)
         refine .p rfl rfl rfl (fun wx hx => .lt rfl rfl) (.p rfl rfl rfl (fun wx hx => .pickF rfl rfl) (.p rfl rfl rfl (fun wx hx => .mv rfl) ?_))
         refine .caseD 71 rfl (fun c71 => ?_) (fun c71 => ?_)
         ·refine .skip rfl rfl (.skip rfl rfl (.skip rfl rfl (.p rfl rfl rfl (fun wx hx => .pickT rfl rfl) (.nil (.code (.keep [(75, _), (6, _), (1, _), (5, _)] ⟨rfl, rfl, rfl, rfl, trivial⟩ (.condT rfl (.seq (.keep [] trivial (.region ?_))))))))))
          refine .p rfl rfl (.as rfl) (.nil (.code ?_))
          refine .ret _ rfl ?_
          have ho := fun hm : mayD x => hm.2.2.2 i hi
          exact ⟨_, rfl, ⟨fun h => (by cases h), fun hm => by have ho := ho hm; have := ho.2.2.1; omega⟩, (by repeat (first | exact Ext.refl _ | assumption | refine Ext.trans (by assumption) ?_))⟩
         ·refine .p rfl rfl rfl (fun wx hx => .fieldAddr rfl rfl rfl rfl) (.p rfl rfl rfl (fun wx hx => .load rfl rfl rfl ((B6.ext (S := fun _ => False) (Ext.trans (by repeat (first | exact Ext.refl _ | assumption | refine Ext.trans (by assumption) ?_)) hx) (fun x => x)).cell 1)) ?_)
          refine .p rfl rfl rfl (fun wx hx => .gt rfl rfl) (.p rfl rfl rfl (fun wx hx => .pickF rfl rfl) (.nil (.code (.keep [(75, _), (6, _), (1, _), (5, _)] ⟨rfl, rfl, rfl, rfl, trivial⟩ ?_))))
          refine .condD rfl (fun c75 => ?_) (fun c75 => ?_)
          ·refine .seq (.keep [] trivial (.region ?_))
           refine .p rfl rfl (.as rfl) (.nil (.code ?_))
           refine .ret _ rfl ?_
           have ho := fun hm : mayD x => hm.2.2.2 i hi
           exact ⟨_, rfl, ⟨fun h => (by cases h), fun hm => by have ho := ho hm; have := ho.2.2.2.1; omega⟩, (by repeat (first | exact Ext.refl _ | assumption | refine Ext.trans (by assumption) ?_))⟩
          ·refine .skip (.code (.seq (.keep [(6, _), (1, _), (5, _)] ⟨rfl, rfl, rfl, trivial⟩ (.region ?_))))
           refine .p rfl rfl (.fieldAddr rfl rfl rfl rfl) (.p rfl rfl (.load rfl rfl rfl ((B6.ext (S := fun _ => False) (by repeat (first | exact Ext.refl _ | assumption | refine Ext.trans (by assumption) ?_)) (fun x => x)).cell 2)) ?_)
           refine .call (first := []) (captured := []) rfl rfl rfl rfl (RefMany_fn (allOf ((Sl tPiece).ext0 hps (by repeat (first | exact Ext.refl _ | assumption | refine Ext.trans (by assumption) ?_))))) ?_
           rintro _ w79 ⟨rfl, X79⟩
           have z79 := X79.size
           refine .p rfl rfl (.mv rfl) (.p rfl rfl (.extract rfl rfl) (.p rfl rfl (.extract rfl rfl) (.p rfl rfl (.as rfl) (.p rfl rfl (.as rfl) (.nil (.code (.seq (.keep [(7, _), (6, _), (1, _), (5, _)] ⟨rfl, rfl, rfl, rfl, trivial⟩ (.region ?_)))))))))
           refine .p rfl rfl (.mv rfl) (.p rfl rfl (.fieldAddr rfl rfl rfl rfl) (.p rfl rfl (.load rfl rfl rfl ((B6.ext (S := fun _ => False) (by repeat (first | exact Ext.refl _ | assumption | refine Ext.trans (by assumption) ?_)) (fun x => x)).cell 1)) ?_))
           refine .call (first := []) (captured := []) rfl rfl rfl rfl (refNeeds_fn (n := x.fs[i].size) (by omega)) ?_
           rintro _ w85 ⟨rfl, X85⟩
           have z85 := X85.size
           refine .p rfl rfl (.ne rfl rfl) (.nil (.code (.keep [(86, _), (1, _), (5, _)] ⟨rfl, rfl, rfl, trivial⟩ ?_)))
           refine .condD rfl (fun c86 => ?_) (fun c86 => ?_)
           ·refine .seq (.keep [] trivial (.region ?_))
            refine .p rfl rfl (.as rfl) (.nil (.code ?_))
            refine .ret _ rfl ?_
            have ho := fun hm : mayD x => hm.2.2.2 i hi
            exact ⟨_, rfl, ⟨fun h => (by cases h), fun hm => by have ho := ho hm; exact absurd (by rw [← manyF_eq]; exact ho.2.2.2.2) c86⟩, (by repeat (first | exact Ext.refl _ | assumption | refine Ext.trans (by assumption) ?_))⟩
           ·refine .skip (.blk (.code (.keep [(1, _), (5, _)] ⟨rfl, rfl, trivial⟩ (.region ?_))))
            refine .p rfl rfl (.mv rfl) (.p rfl rfl (.add rfl rfl (by omega)) (.p rfl rfl (.as rfl) (.nil ?_)))
            refine (again (i + 1, w85) ⟨by show i + 1 ≤ _; omega, fun j hj h1 => ?_, (by repeat (first | exact Ext.refl _ | assumption | refine Ext.trans (by assumption) ?_))⟩ (by show _ - (i + 1) < _ - i; omega)).of ⟨rfl, rfl, trivial⟩
            rcases Nat.lt_or_ge j i with h2 | h2
            ·exact hok j hj h2
            ·have h1 : j < i + 1 := h1
             obtain rfl : j = i := by omega
             exact ⟨by simpa using c50, fun h0 => by simpa using c66, by omega, by omega, by rw [manyF_eq]; exact Classical.not_not.1 c86⟩
       ·refine .skip rfl rfl (.skip rfl rfl (.skip rfl rfl (.skip rfl rfl (.skip rfl rfl (.skip rfl rfl (.skip rfl rfl (.skip rfl rfl (.skip rfl rfl (.skip rfl rfl (.p rfl rfl rfl (fun wx hx => .pickF rfl rfl) (.p rfl rfl rfl (fun wx hx => .pickF rfl rfl) (.p rfl rfl rfl (fun wx hx => .mv rfl) (.p rfl rfl rfl (fun wx hx => .fieldAddr rfl rfl rfl rfl) ?_)))))))))))))
        refine .p rfl rfl rfl (fun wx hx => .load rfl rfl rfl ((B6.ext (S := fun _ => False) (Ext.trans (by repeat (first | exact Ext.refl _ | assumption | refine Ext.trans (by assumption) ?_)) hx) (fun x => x)).cell 1)) ?_
        refine .p rfl rfl rfl (fun wx hx => .lt rfl rfl) (.p rfl rfl rfl (fun wx hx => .pickF rfl rfl) (.p rfl rfl rfl (fun wx hx => .mv rfl) ?_))
        refine .caseD 71 rfl (fun c71 => ?_) (fun c71 => ?_)
        ·refine .skip rfl rfl (.skip rfl rfl (.skip rfl rfl (.p rfl rfl rfl (fun wx hx => .pickT rfl rfl) (.nil (.code (.keep [(75, _), (6, _), (1, _), (5, _)] ⟨rfl, rfl, rfl, rfl, trivial⟩ (.condT rfl (.seq (.keep [] trivial (.region ?_))))))))))
         refine .p rfl rfl (.as rfl) (.nil (.code ?_))
         refine .ret _ rfl ?_
         have ho := fun hm : mayD x => hm.2.2.2 i hi
         exact ⟨_, rfl, ⟨fun h => (by cases h), fun hm => by have ho := ho hm; have := ho.2.2.1; omega⟩, (by repeat (first | exact Ext.refl _ | assumption | refine Ext.trans (by assumption) ?_))⟩
        ·refine .p rfl rfl rfl (fun wx hx => .fieldAddr rfl rfl rfl rfl) (.p rfl rfl rfl (fun wx hx => .load rfl rfl rfl ((B6.ext (S := fun _ => False) (Ext.trans (by repeat (first | exact Ext.refl _ | assumption | refine Ext.trans (by assumption) ?_)) hx) (fun x => x)).cell 1)) ?_)
         refine .p rfl rfl rfl (fun wx hx => .gt rfl rfl) (.p rfl rfl rfl (fun wx hx => .pickF rfl rfl) (.nil (.code (.keep [(75, _), (6, _), (1, _), (5, _)] ⟨rfl, rfl, rfl, rfl, trivial⟩ ?_))))
         refine .condD rfl (fun c75 => ?_) (fun c75 => ?_)
         ·refine .seq (.keep [] trivial (.region ?_))
          refine .p rfl rfl (.as rfl) (.nil (.code ?_))
          refine .ret _ rfl ?_
          have ho := fun hm : mayD x => hm.2.2.2 i hi
          exact ⟨_, rfl, ⟨fun h => (by cases h), fun hm => by have ho := ho hm; have := ho.2.2.2.1; omega⟩, (by repeat (first | exact Ext.refl _ | assumption | refine Ext.trans (by assumption) ?_))⟩
         ·refine .skip (.code (.seq (.keep [(6, _), (1, _), (5, _)] ⟨rfl, rfl, rfl, trivial⟩ (.region ?_))))
          refine .p rfl rfl (.fieldAddr rfl rfl rfl rfl) (.p rfl rfl (.load rfl rfl rfl ((B6.ext (S := fun _ => False) (by repeat (first | exact Ext.refl _ | assumption | refine Ext.trans (by assumption) ?_)) (fun x => x)).cell 2)) ?_)
          refine .call (first := []) (captured := []) rfl rfl rfl rfl (RefMany_fn (allOf ((Sl tPiece).ext0 hps (by repeat (first | exact Ext.refl _ | assumption | refine Ext.trans (by assumption) ?_))))) ?_
          rintro _ w79 ⟨rfl, X79⟩
          have z79 := X79.size
          refine .p rfl rfl (.mv rfl) (.p rfl rfl (.extract rfl rfl) (.p rfl rfl (.extract rfl rfl) (.p rfl rfl (.as rfl) (.p rfl rfl (.as rfl) (.nil (.code (.seq (.keep [(7, _), (6, _), (1, _), (5, _)] ⟨rfl, rfl, rfl, rfl, trivial⟩ (.region ?_)))))))))
          refine .p rfl rfl (.mv rfl) (.p rfl rfl (.fieldAddr rfl rfl rfl rfl) (.p rfl rfl (.load rfl rfl rfl ((B6.ext (S := fun _ => False) (by repeat (first | exact Ext.refl _ | assumption | refine Ext.trans (by assumption) ?_)) (fun x => x)).cell 1)) ?_))
          refine .call (first := []) (captured := []) rfl rfl rfl rfl (refNeeds_fn (n := x.fs[i].size) (by omega)) ?_
          rintro _ w85 ⟨rfl, X85⟩
          have z85 := X85.size
          refine .p rfl rfl (.ne rfl rfl) (.nil (.code (.keep [(86, _), (1, _), (5, _)] ⟨rfl, rfl, rfl, trivial⟩ ?_)))
          refine .condD rfl (fun c86 => ?_) (fun c86 => ?_)
          ·refine .seq (.keep [] trivial (.region ?_))
           refine .p rfl rfl (.as rfl) (.nil (.code ?_))
           refine .ret _ rfl ?_
           have ho := fun hm : mayD x => hm.2.2.2 i hi
           exact ⟨_, rfl, ⟨fun h => (by cases h), fun hm => by have ho := ho hm; exact absurd (by rw [← manyF_eq]; exact ho.2.2.2.2) c86⟩, (by repeat (first | exact Ext.refl _ | assumption | refine Ext.trans (by assumption) ?_))⟩
          ·refine .skip (.blk (.code (.keep [(1, _), (5, _)] ⟨rfl, rfl, trivial⟩ (.region ?_))))
           refine .p rfl rfl (.mv rfl) (.p rfl rfl (.add rfl rfl (by omega)) (.p rfl rfl (.as rfl) (.nil ?_)))
           refine (again (i + 1, w85) ⟨by show i + 1 ≤ _; omega, fun j hj h1 => ?_, (by repeat (first | exact Ext.refl _ | assumption | refine Ext.trans (by assumption) ?_))⟩ (by show _ - (i + 1) < _ - i; omega)).of ⟨rfl, rfl, trivial⟩
           rcases Nat.lt_or_ge j i with h2 | h2
           ·exact hok j hj h2
           ·have h1 : j < i + 1 := h1
            obtain rfl : j = i := by omega
            exact ⟨by simpa using c50, fun h0 => absurd h0 (by omega), by omega, by omega, by rw [manyF_eq]; exact Classical.not_not.1 c86⟩
     ·obtain rfl : i = x.fs.length := by omega
      refine .exit rfl (.code (.seq (.keep [] trivial (.region ?_))))
      refine .p rfl rfl (.as rfl) (.nil (.code ?_))
      refine .ret _ rfl ?_
      exact ⟨_, rfl, ⟨fun _ => ⟨by omega, hck, fun p hpm => (by obtain ⟨j, hj, rfl⟩ := List.getElem_of_mem hpm; exact hlo j hj hj), fun i hi => hok i hi hi⟩, fun _ => rfl⟩, (by repeat (first | exact Ext.refl _ | assumption | refine Ext.trans (by assumption) ?_))⟩
theorem refSmallI_fn {w : World} {n : Int} (hn : 0 ≤ n ∧ n ≤ 9223372036854775807) : Fn Tryz.prog 52 [i64 n] w (fun r w2 => Gr w2 r (smallF n.toNat) w.heap.size ∧ Ext (fun _ => False) w w2) := by
 refine Fn.enter (fun w => Tryz.call52 _ w) Tryz.func52 rfl ?_
 refine .seq (.region ?_)
 refine .p rfl rfl (.as rfl) (.nil (.code (.seq (.keep [(0, _)] ⟨rfl, trivial⟩ (.region ?_)))))
 refine .p rfl rfl (.mv rfl) (.p rfl rfl (.cast (.convU rfl rfl rfl (by omega)) (show _ = Value.int .u64 ((n.toNat : Nat) : Int) by rw [Int.toNat_of_nonneg hn.1])) (.call (first := []) (captured := []) rfl rfl rfl rfl (RefSmall_fn (n := n.toNat) (by omega)) ?_))
 rintro v5 w5 ⟨G5, X5⟩
 refine .p rfl rfl (.as rfl) (.nil (.code ?_))
 refine .ret _ rfl ?_
 exact ⟨G5, X5⟩
end Go.Proofs.YtpfehnopghffjaaGreatDoor
namespace Go.Proofs.YtpfehnopghffjaaGreatDoor
open Go
open room files
attribute [local irreducible] checkD writeF smallF textF put8 fileB pieceB
theorem RefWriteD_fn {w : World} {v : Value} {x : Dir} (h : tDir.rep All w v x) (hp : (allP x.fs).length ≤ 1000000) : Fn Tryz.prog 13 [v] w (fun r w2 => ∃ v', r = .tuple #[v', i64 (writeF x).2] ∧ Gr w2 v' (writeF x).1 w.heap.size ∧ Ext (fun _ => False) w w2) := by
 have h0 := h
 obtain ⟨a, cap, rfl, hf, hgen⟩ := tDir.val h
 have hlim := Sl.lim hf
 simp only [Lim] at hlim
 refine Fn.enter (fun w => Tryz.call13 _ w) Tryz.func13 rfl ?_
 refine .seq (.region ?_)
 refine .v rfl rfl (.box rfl) ?_
 rintro _ w1 ⟨rfl, N1⟩
 have B1 := N1.blk
 have X1 := N1.ext
 have z1 := N1.size
 refine .p rfl rfl (.as rfl) (.p rfl rfl (.as rfl) (.nil (.code (.seq (.seq (.keep [(1, _)] ⟨rfl, trivial⟩ (.region ?_)))))))
 refine .p rfl rfl (.fieldAddr rfl rfl rfl rfl) (.p rfl rfl (.load rfl rfl rfl ((B1.ext (S := fun _ => False) (by repeat (first | exact Ext.refl _ | assumption | refine Ext.trans (by assumption) ?_)) (fun x => x)).cell 1)) ?_)
 refine .p rfl rfl (.len rfl rfl) (.p rfl rfl (.gt rfl rfl) (.nil (.code (.keep [(13, _), (1, _)] ⟨rfl, rfl, trivial⟩ ?_))))
 refine .condD rfl (fun c13 => ?_) (fun c13 => ?_)
 ·refine .seq (.keep [] trivial (.region ?_))
  refine .p rfl rfl (.as rfl) (.p rfl rfl (.as rfl) (.nil (.code ?_)))
  refine .ret _ rfl ?_
  rw [writeF_e (by rw [checkD_42 (by omega)]; decide), checkD_42 (by omega)]
  exact ⟨_, rfl, OwnO.nil, (by repeat (first | exact Ext.refl _ | assumption | refine Ext.trans (by assumption) ?_))⟩
 ·have h32 : ¬ 32 < x.fs.length := by omega
  refine .skip (.code (.seq (.seq (.keep [(1, _)] ⟨rfl, trivial⟩ (.region ?_)))))
  refine .p rfl rfl (.loadA (n := 2) rfl rfl rfl rfl rfl (B1.ext (S := fun _ => False) (by repeat (first | exact Ext.refl _ | assumption | refine Ext.trans (by assumption) ?_)) (fun x => x)).cells) ?_
  refine .call (first := []) (captured := []) rfl rfl rfl rfl (refMay_fn (x := x) (tDir.ext0 h0 (by repeat (first | exact Ext.refl _ | assumption | refine Ext.trans (by assumption) ?_))) hp) ?_
  rintro _ w15 ⟨t15, rfl, ht15, X15⟩
  have z15 := X15.size
  refine .p rfl rfl (.not rfl) (.nil (.code (.keep [(16, _), (1, _)] ⟨rfl, rfl, trivial⟩ ?_)))
  refine .cond rfl (fun c16 => ?_) (fun c16 => ?_)
  ·refine .seq (.keep [] trivial (.region ?_))
   refine .p rfl rfl (.as rfl) (.p rfl rfl (.as rfl) (.nil (.code ?_)))
   refine .ret _ rfl ?_
   have e8 := checkD_8 h32 (fun hm => by have := ht15.2 hm; rw [this] at c16; cases c16)
   rw [writeF_e (by rw [e8]; decide), e8]
   exact ⟨_, rfl, OwnO.nil, (by repeat (first | exact Ext.refl _ | assumption | refine Ext.trans (by assumption) ?_))⟩
  ·have hm : mayD x := ht15.1 (by simpa using c16)
   have hc0 := checkD_0 h32 hm
   have hgp := hm.1.1
   refine .skip (.code (.seq (.keep [(1, _)] ⟨rfl, trivial⟩ (.region ?_))))
   refine .p rfl rfl (.fieldAddr rfl rfl rfl rfl) (.p rfl rfl (.load rfl rfl rfl ((B1.ext (S := fun _ => False) (by repeat (first | exact Ext.refl _ | assumption | refine Ext.trans (by assumption) ?_)) (fun x => x)).cell 1)) ?_)
   refine .p rfl rfl (.len rfl rfl) (.call (first := []) (captured := []) rfl rfl rfl rfl (refSmallI_fn (n := ((x.fs.length : Nat) : Int)) (by omega)) ?_)
   rintro v20 w20 ⟨G20, X20⟩
   have z20 := X20.size
   have l20 := smallF_length (((x.fs.length : Nat) : Int)).toNat
   rw [Int.toNat_natCast] at G20 l20
   refine .p rfl rfl (.as rfl) (.nil (.code (.seq (.seq (.keep [(4, _), (1, _)] ⟨rfl, rfl, trivial⟩ (.region ?_))))))
   refine .p rfl rfl (.as rfl) (.nil (.code (.block ?_)))
   refine .loop (S := Nat × Bs × Value × World) (fun s => [(1, .pointer (some ⟨w.heap.size, 0, none⟩)), (4, s.2.2.1), (5, i64 s.1)]) (fun s => s.2.2.2) (fun s => s.1 ≤ x.fs.length ∧ s.2.1 = smallF x.fs.length ++ (x.fs.take s.1).flatMap fileB ∧ s.2.1.length ≤ 100 + s.1 * 100000 ∧ OwnO tByte (fun _ => False) 5 s.2.2.2 s.2.2.1 s.2.1 (fun k => w15.heap.size ≤ k) ∧ Ext (fun _ => False) w15 s.2.2.2) (fun s => x.fs.length - s.1) (0, smallF x.fs.length, v20, w20) ⟨rfl, rfl, rfl, trivial⟩ rfl ⟨Nat.zero_le _, (List.append_nil _).symm, by show (smallF x.fs.length).length ≤ 100 + 0 * 100000; omega, G20, X20⟩ ?_
   rintro ⟨i, acc, vi, wi⟩ J ⟨hi', ha, hal, hO, hX⟩ again
   simp only at hi' ha hal hO hX
   have zi := hX.size
   change G _ [(1, .pointer (some ⟨w.heap.size, 0, none⟩)), (4, vi), (5, i64 i)] _ _ wi
   refine .seq (.seq (.region ?_))
   refine .p rfl rfl (.mv rfl) (.p rfl rfl (.fieldAddr rfl rfl rfl rfl) (.p rfl rfl (.load rfl rfl rfl ((B1.ext (S := fun _ => False) (by repeat (first | exact Ext.refl _ | assumption | refine Ext.trans (by assumption) ?_)) (fun x => x)).cell 1)) ?_))
   refine .p rfl rfl (.len rfl rfl) (.p rfl rfl (.lt rfl rfl) (.nil (.code (.keep [(25, _), (1, _), (4, _), (5, _)] ⟨rfl, rfl, rfl, rfl, trivial⟩ ?_))))
   refine .condD rfl (fun c25 => ?_) (fun c25 => ?_)
   ·have hi : i < x.fs.length := by omega
    obtain ⟨b1, o1, q1, ue1, e1, _, hcs, hre⟩ := Sl.at hf (List.getElem?_eq_getElem hi)
    cases e1
    obtain ⟨fa1, fc1, rfl, hps, hnm, hsz⟩ := tFile.val hre
    refine .skip (.code (.seq (.block (.seq (.keep [(1, _), (4, _), (5, _)] ⟨rfl, rfl, rfl, trivial⟩ (.region ?_))))))
    refine .p rfl rfl (.fieldAddr rfl rfl rfl rfl) (.p rfl rfl (.load rfl rfl rfl ((B1.ext (S := fun _ => False) (by repeat (first | exact Ext.refl _ | assumption | refine Ext.trans (by assumption) ?_)) (fun x => x)).cell 1)) ?_)
    refine .p rfl rfl (.mv rfl) (.p rfl rfl (.indexAddr (s := 3) rfl rfl rfl rfl (by omega)) (.p rfl rfl (.loadA (n := 3) rfl rfl rfl rfl rfl (hcs.ext (S := fun _ => False) (by repeat (first | exact Ext.refl _ | assumption | refine Ext.trans (by assumption) ?_)) (fun x => x))) ?_))
    refine .v rfl rfl (.alloc rfl rfl) ?_
    rintro _ wn6 ⟨rfl, N6⟩
    refine .s rfl (.storeAll (n := 3) rfl rfl rfl rfl rfl N6.blk rfl) ?_
    intro w6 P6
    have Y6 := N6.ext.then P6.ext (by rintro k rfl _; exact Nat.le_refl _)
    have zy6 := Y6.size
    have B6 := P6.blk
    clear P6 N6
    have lb6 := B6.lt
    have hn6 : ¬ ((w15.heap.size ≤ wi.heap.size ∧ wi.heap.size < wi.heap.size) ∨ w6.heap.size ≤ wi.heap.size) := by omega
    have hn1 : ¬ ((w15.heap.size ≤ w.heap.size ∧ w.heap.size < wi.heap.size) ∨ w6.heap.size ≤ w.heap.size) := by omega
    have Z6 : Ext (fun _ => False) w w6 := (by repeat (first | exact Ext.refl _ | assumption | refine Ext.trans (by assumption) ?_))
    have O6 := OwnO.mono (OwnO.ext0 (OwnO.mono hO (fun _ h _ => h) (B' := fun k => w15.heap.size ≤ k ∧ k < wi.heap.size) (fun k h hl => ⟨h, hl⟩)) Y6) (fun _ h _ => h) (B' := (fun k => (w15.heap.size ≤ k ∧ k < wi.heap.size) ∨ w6.heap.size ≤ k)) (fun k h _ => .inl h)
    obtain ⟨hnl, hsl, hpl⟩ := file_ok hm hi
    have htl := textF_lenF x.fs[i].name
    refine .nil (.code (.seq (.keep [(6, _), (1, _), (4, _), (5, _)] ⟨rfl, rfl, rfl, rfl, trivial⟩ (.region ?_))))
    refine .p rfl rfl (.mv rfl) (.p rfl rfl (.fieldAddr rfl rfl rfl rfl) (.p rfl rfl (.load rfl rfl rfl ((B6.ext (S := fun _ => False) (by repeat (first | exact Ext.refl _ | assumption | refine Ext.trans (by assumption) ?_)) (fun x => x)).cell 0)) ?_))
    refine .call (first := []) (captured := []) rfl rfl rfl rfl (RefText_fn (by simp only [Lim]; omega) (by simp only [Lim]; omega)) ?_
    rintro v36 w36 ⟨G36, X36⟩
    have z36 := X36.size
    refine .v rfl rfl (.appendLo (t := tByte) (eb := 1) rfl (OwnO.ext0 O6 X36) (fun k hk => .inr (by omega)) rfl (Gr.holds (Gr.rep G36)) rfl rfl rfl rfl rfl rfl rfl (by simp only [List.length_append, Lim] at *; omega) (by simp only [Lim]; simp only [List.length_append, Lim] at *; omega) (fun _ h _ => h.elim)) ?_
    rintro v37 w37 ⟨O37, A37⟩
    have z37 := A37.size
    have T37 : Ext (fun k => (w15.heap.size ≤ k ∧ k < wi.heap.size) ∨ w6.heap.size ≤ k) w6 w37 := ((Ext.refl w6).trans (X36.mono (fun _ _ h => h.elim))).trans A37
    refine .p rfl rfl (.as rfl) (.nil (.code (.seq (.keep [(4, _), (6, _), (1, _), (5, _)] ⟨rfl, rfl, rfl, rfl, trivial⟩ (.region ?_)))))
    refine .p rfl rfl (.mv rfl) (.p rfl rfl (.fieldAddr rfl rfl rfl rfl) (.p rfl rfl (.load rfl rfl rfl ((B6.ext T37 hn6).cell 1)) (.call (first := []) (captured := []) rfl rfl rfl rfl (refSmallI_fn (n := x.fs[i].size) (by omega)) ?_)))
    rintro v41 w41 ⟨G41, X41⟩
    have z41 := X41.size
    have l41 := smallF_length (x.fs[i].size).toNat
    refine .v rfl rfl (.appendLo (t := tByte) (eb := 1) rfl (OwnO.ext0 O37 X41) (fun k hk => .inr (by omega)) rfl (Gr.holds (Gr.rep G41)) rfl rfl rfl rfl rfl rfl rfl (by simp only [List.length_append, Lim] at *; omega) (by simp only [Lim]; simp only [List.length_append, Lim] at *; omega) (fun _ h _ => h.elim)) ?_
    rintro v42 w42 ⟨O42, A42⟩
    have z42 := A42.size
    have T42 : Ext (fun k => (w15.heap.size ≤ k ∧ k < wi.heap.size) ∨ w6.heap.size ≤ k) w6 w42 := (T37.trans (X41.mono (fun _ _ h => h.elim))).trans A42
    refine .p rfl rfl (.as rfl) (.nil (.code (.seq (.keep [(4, _), (6, _), (1, _), (5, _)] ⟨rfl, rfl, rfl, rfl, trivial⟩ (.region ?_)))))
    refine .p rfl rfl (.mv rfl) (.p rfl rfl (.fieldAddr rfl rfl rfl rfl) (.p rfl rfl (.load rfl rfl rfl ((B6.ext T42 hn6).cell 2)) (.p rfl rfl (.len rfl rfl) (.call (first := []) (captured := []) rfl rfl rfl rfl (refSmallI_fn (n := ((x.fs[i].ps.length : Nat) : Int)) (by omega)) ?_))))
    rintro v47 w47 ⟨G47, X47⟩
    have z47 := X47.size
    have l47 := smallF_length (((x.fs[i].ps.length : Nat) : Int)).toNat
    rw [Int.toNat_natCast] at G47 l47
    refine .v rfl rfl (.appendLo (t := tByte) (eb := 1) rfl (OwnO.ext0 O42 X47) (fun k hk => .inr (by omega)) rfl (Gr.holds (Gr.rep G47)) rfl rfl rfl rfl rfl rfl rfl (by simp only [List.length_append, Lim] at *; omega) (by simp only [Lim]; simp only [List.length_append, Lim] at *; omega) (fun _ h _ => h.elim)) ?_
    rintro v48 w48 ⟨O48, A48⟩
    have z48 := A48.size
    have T48 : Ext (fun k => (w15.heap.size ≤ k ∧ k < wi.heap.size) ∨ w6.heap.size ≤ k) w6 w48 := (T42.trans (X47.mono (fun _ _ h => h.elim))).trans A48
    refine .p rfl rfl (.as rfl) (.nil (.code (.seq (.keep [(4, _), (6, _), (1, _), (5, _)] ⟨rfl, rfl, rfl, rfl, trivial⟩ (.region ?_)))))
    refine .p rfl rfl (.as rfl) (.nil (.code (.block ?_)))
    refine .loop (S := Nat × Bs × Value × World) (fun s => [(1, .pointer (some ⟨w.heap.size, 0, none⟩)), (4, s.2.2.1), (5, i64 (i : Nat)), (6, .pointer (some ⟨wi.heap.size, 0, none⟩)), (7, i64 s.1)]) (fun s => s.2.2.2) (fun s => s.1 ≤ x.fs[i].ps.length ∧ s.2.1 = acc ++ textF x.fs[i].name ++ smallF x.fs[i].size.toNat ++ smallF x.fs[i].ps.length ++ (x.fs[i].ps.take s.1).flatMap pieceB ∧ s.2.1.length ≤ 100 + i * 100000 + 100 + s.1 * 20 ∧ OwnO tByte (fun _ => False) 5 s.2.2.2 s.2.2.1 s.2.1 (fun k => (w15.heap.size ≤ k ∧ k < wi.heap.size) ∨ w6.heap.size ≤ k) ∧ Ext (fun k => (w15.heap.size ≤ k ∧ k < wi.heap.size) ∨ w6.heap.size ≤ k) w6 s.2.2.2) (fun s => x.fs[i].ps.length - s.1) (0, acc ++ textF x.fs[i].name ++ smallF x.fs[i].size.toNat ++ smallF x.fs[i].ps.length, v48, w48) ⟨rfl, rfl, rfl, rfl, rfl, trivial⟩ rfl ⟨Nat.zero_le _, (List.append_nil _).symm, by simp only [List.length_append, Int.toNat_natCast] at *; omega, O48, T48⟩ ?_
    rintro ⟨j, accj, vj, wj⟩ J2 ⟨hj', haj, hajl, hP, hY⟩ again2
    simp only at hj' haj hajl hP hY
    have zj := hY.size
    change G _ [(1, .pointer (some ⟨w.heap.size, 0, none⟩)), (4, vj), (5, i64 (i : Nat)), (6, .pointer (some ⟨wi.heap.size, 0, none⟩)), (7, i64 j)] _ _ wj
    refine .seq (.seq (.region ?_))
    refine .p rfl rfl (.mv rfl) (.p rfl rfl (.fieldAddr rfl rfl rfl rfl) (.p rfl rfl (.load rfl rfl rfl ((B6.ext hY hn6).cell 2)) (.p rfl rfl (.len rfl rfl) (.p rfl rfl (.lt rfl rfl) (.nil (.code (.keep [(53, _), (1, _), (4, _), (5, _), (6, _), (7, _)] ⟨rfl, rfl, rfl, rfl, rfl, rfl, trivial⟩ ?_)))))))
    refine .condD rfl (fun c53 => ?_) (fun c53 => ?_)
    ·have hj : j < x.fs[i].ps.length := by omega
     obtain ⟨bp, op, qp, up, ep, _, hcp, hrp⟩ := Sl.at hps (List.getElem?_eq_getElem hj)
     cases ep
     obtain ⟨rfl, hr1, hr2⟩ := tPiece.val hrp
     obtain ⟨hq1, hq2, hq3, hq4⟩ := piece_ok hm (List.getElem_mem hi) (List.getElem_mem hj)
     refine .skip (.code (.seq (.block (.seq (.keep [(1, _), (4, _), (5, _), (6, _), (7, _)] ⟨rfl, rfl, rfl, rfl, rfl, trivial⟩ (.region ?_))))))
     refine .p rfl rfl (.mv rfl) (.p rfl rfl (.fieldAddr rfl rfl rfl rfl) (.p rfl rfl (.load rfl rfl rfl ((B6.ext hY hn6).cell 2)) (.p rfl rfl (.mv rfl) (.p rfl rfl (.indexAddr (s := 2) rfl rfl rfl rfl (by omega)) (.p rfl rfl (.fieldAddr rfl rfl rfl rfl) (.p rfl rfl (.load rfl rfl rfl ((hcp.ext (S := fun _ => False) (Ext.then Z6 hY (fun k hk hl => by have hk : (w15.heap.size ≤ k ∧ k < wi.heap.size) ∨ w6.heap.size ≤ k := hk; omega)) (fun x => x)) 0 _ rfl)) (.call (first := []) (captured := []) rfl rfl rfl rfl (refSmallI_fn (n := x.fs[i].ps[j].fr) (by omega)) ?_)))))))
     rintro v63 w63 ⟨G63, X63⟩
     have z63 := X63.size
     have l63 := smallF_length (x.fs[i].ps[j].fr).toNat
     refine .v rfl rfl (.appendLo (t := tByte) (eb := 1) rfl (OwnO.ext0 hP X63) (fun k hk => .inr (by omega)) rfl (Gr.holds (Gr.rep G63)) rfl rfl rfl rfl rfl rfl rfl (by simp only [List.length_append, Lim] at *; omega) (by simp only [Lim]; simp only [List.length_append, Lim] at *; omega) (fun _ h _ => h.elim)) ?_
     rintro v64 w64 ⟨O64, A64⟩
     have z64 := A64.size
     have T64 : Ext (fun k => (w15.heap.size ≤ k ∧ k < wi.heap.size) ∨ w6.heap.size ≤ k) w6 w64 := (hY.trans (X63.mono (fun _ _ h => h.elim))).trans A64
     refine .p rfl rfl (.as rfl) (.nil (.code (.keep [(4, _), (1, _), (5, _), (6, _), (7, _)] ⟨rfl, rfl, rfl, rfl, rfl, trivial⟩ (.region ?_))))
     refine .p rfl rfl (.mv rfl) (.p rfl rfl (.fieldAddr rfl rfl rfl rfl) (.p rfl rfl (.load rfl rfl rfl ((B6.ext T64 hn6).cell 2)) (.p rfl rfl (.mv rfl) (.p rfl rfl (.indexAddr (s := 2) rfl rfl rfl rfl (by omega)) (.p rfl rfl (.fieldAddr rfl rfl rfl rfl) (.p rfl rfl (.load rfl rfl rfl ((hcp.ext (S := fun _ => False) (Ext.then Z6 T64 (fun k hk hl => by have hk : (w15.heap.size ≤ k ∧ k < wi.heap.size) ∨ w6.heap.size ≤ k := hk; omega)) (fun x => x)) 1 _ rfl)) (.call (first := []) (captured := []) rfl rfl rfl rfl (refSmallI_fn (n := x.fs[i].ps[j].ct) (by omega)) ?_)))))))
     rintro v72 w72 ⟨G72, X72⟩
     have z72 := X72.size
     have l72 := smallF_length (x.fs[i].ps[j].ct).toNat
     refine .v rfl rfl (.appendLo (t := tByte) (eb := 1) rfl (OwnO.ext0 O64 X72) (fun k hk => .inr (by omega)) rfl (Gr.holds (Gr.rep G72)) rfl rfl rfl rfl rfl rfl rfl (by simp only [List.length_append, Lim] at *; omega) (by simp only [Lim]; simp only [List.length_append, Lim] at *; omega) (fun _ h _ => h.elim)) ?_
     rintro v73 w73 ⟨O73, A73⟩
     have z73 := A73.size
     have T73 : Ext (fun k => (w15.heap.size ≤ k ∧ k < wi.heap.size) ∨ w6.heap.size ≤ k) w6 w73 := (T64.trans (X72.mono (fun _ _ h => h.elim))).trans A73
     refine .p rfl rfl (.as rfl) (.nil (.blk (.code (.keep [(4, _), (1, _), (5, _), (6, _), (7, _)] ⟨rfl, rfl, rfl, rfl, rfl, trivial⟩ (.region ?_)))))
     refine .p rfl rfl (.mv rfl) (.p rfl rfl (.add rfl rfl (by omega)) (.p rfl rfl (.as rfl) (.nil ?_)))
     exact (again2 (j + 1, _, v73, w73) ⟨by show j + 1 ≤ _; omega, by show accj ++ _ ++ _ = _; rw [pieces_step hj, haj]; simp only [pieceB, List.append_assoc], by show (accj ++ _ ++ _).length ≤ 100 + i * 100000 + 100 + (j + 1) * 20; simp only [List.length_append] at *; omega, O73, T73⟩ (by show _ - (j + 1) < _ - j; omega)).of ⟨rfl, rfl, rfl, rfl, rfl, trivial⟩
    ·obtain rfl : j = x.fs[i].ps.length := by omega
     rw [List.take_length] at haj
     refine .exit rfl (.blk (.code (.keep [(1, _), (4, _), (5, _)] ⟨rfl, rfl, rfl, trivial⟩ (.region ?_))))
     refine .p rfl rfl (.mv rfl) (.p rfl rfl (.add rfl rfl (by omega)) (.p rfl rfl (.as rfl) (.nil ?_)))
     exact (again (i + 1, accj, vj, wj) ⟨by show i + 1 ≤ _; omega, by show accj = _; rw [files_step hi, haj, ha]; simp only [fileB, List.append_assoc], by show accj.length ≤ 100 + (i + 1) * 100000; omega, OwnO.mono hP (fun _ h _ => h) (fun k h _ => by have h : (w15.heap.size ≤ k ∧ k < wi.heap.size) ∨ w6.heap.size ≤ k := h; show w15.heap.size ≤ k; omega), Ext.then (Ext.trans hX Y6) hY (fun k hk hl => by have hk : (w15.heap.size ≤ k ∧ k < wi.heap.size) ∨ w6.heap.size ≤ k := hk; omega)⟩ (by show _ - (i + 1) < _ - i; omega)).of ⟨rfl, rfl, rfl, trivial⟩
   ·obtain rfl : i = x.fs.length := by omega
    rw [List.take_length] at ha
    have ha : acc = bodyD x.fs := ha
    obtain ⟨ai, ki, rfl, _⟩ := OwnO.val hO
    refine .exit rfl (.code (.seq (.seq (.keep [(1, _), (4, _)] ⟨rfl, rfl, trivial⟩ (.region ?_)))))
    refine .p rfl rfl (.mv rfl) (.p rfl rfl (.len rfl rfl) (.p rfl rfl (.gt rfl rfl) (.nil (.code (.keep [(76, _), (1, _), (4, _)] ⟨rfl, rfl, rfl, trivial⟩ ?_)))))
    refine .condD rfl (fun c76 => ?_) (fun c76 => ?_)
    ·refine .seq (.keep [] trivial (.region ?_))
     refine .p rfl rfl (.as rfl) (.p rfl rfl (.as rfl) (.nil (.code ?_)))
     refine .ret _ rfl ?_
     rw [writeF_42 hc0 (by rw [← ha]; omega)]
     exact ⟨_, rfl, OwnO.nil, (by repeat (first | exact Ext.refl _ | assumption | refine Ext.trans (by assumption) ?_))⟩
    ·have h952 : ¬ 952 < (bodyD x.fs).length := by rw [← ha]; omega
     refine .skip (.code (.seq (.block (.keep [(1, _), (4, _)] ⟨rfl, rfl, trivial⟩ ?_))))
     refine .loop (S := Nat × Value × World) (fun s => [(1, .pointer (some ⟨w.heap.size, 0, none⟩)), (4, s.2.1)]) (fun s => s.2.2) (fun s => acc.length + s.1 ≤ 952 ∧ OwnO tByte (fun _ => False) 5 s.2.2 s.2.1 (acc ++ List.replicate s.1 (0 : UInt8)) (fun k => w15.heap.size ≤ k) ∧ Ext (fun _ => False) w15 s.2.2) (fun s => 952 - s.1) (0, .slice ai acc.length ki, wi) ⟨rfl, rfl, trivial⟩ rfl ⟨by show _ + 0 ≤ _; omega, by show OwnO _ _ _ _ _ (acc ++ []) _; rw [List.append_nil]; exact hO, hX⟩ ?_
     rintro ⟨kk, vk, wz⟩ J ⟨hk', hO, hX⟩ again
     simp only at hk' hO hX
     have zz := hX.size
     have hkl : (acc ++ List.replicate kk (0 : UInt8)).length = acc.length + kk := by rw [List.length_append, List.length_replicate]
     change G _ [(1, .pointer (some ⟨w.heap.size, 0, none⟩)), (4, vk)] _ _ wz
     refine .seq (.seq (.region ?_))
     obtain ⟨az, kz, rfl, _⟩ := OwnO.val hO
     refine .p rfl rfl (.mv rfl) (.p rfl rfl (.len rfl rfl) (.p rfl rfl (.lt rfl rfl) (.nil (.code (.keep [(79, _), (1, _), (4, _)] ⟨rfl, rfl, rfl, trivial⟩ ?_)))))
     refine .condD rfl (fun c79 => ?_) (fun c79 => ?_)
     ·refine .skip (.code (.block (.keep [(1, _), (4, _)] ⟨rfl, rfl, trivial⟩ (.region ?_))))
      refine .p rfl rfl (.mv rfl) (.v rfl rfl (.lits rfl rfl (fun _ => by kernel_rfl)) ?_)
      rintro _ w81 ⟨rfl, N81⟩
      have z81 := N81.size
      refine .v rfl rfl (.appendLo (t := tByte) (eb := 1) rfl (OwnO.ext0 hO N81.ext) (fun k hk => by show w15.heap.size ≤ k; omega) rfl (Gr.holds (P := All) (allOf (lit_byte (x := 0) N81 rfl))) rfl rfl rfl rfl rfl rfl rfl (by simp; omega) (by simp [Lim]; omega) (fun _ h _ => h.elim)) ?_
      rintro v82 w82 ⟨O82, A82⟩
      have z82 := A82.size
      refine .p rfl rfl (.as rfl) (.nil (.blk ?_))
      exact (again (kk + 1, v82, w82) ⟨by show _ + (kk + 1) ≤ _; omega, by rw [List.append_assoc, ← List.replicate_succ'] at O82; exact O82, (hX.trans N81.ext).then A82 (fun k h _ => by have h : w15.heap.size ≤ k := h; omega)⟩ (by show 952 - (kk + 1) < 952 - kk; omega)).of ⟨rfl, rfl, trivial⟩
     ·have hkk : kk = 952 - acc.length := by omega
      have hin : (acc ++ List.replicate kk (0 : UInt8)).length = 952 := by rw [List.length_append, List.length_replicate]; omega
      generalize hI : acc ++ List.replicate kk (0 : UInt8) = inn at *
      have hR := OwnO.rep (R := fun k => k < wz.heap.size) hO (fun k h hl => hl) (fun _ h _ => h.elim)
      refine .exit rfl (.code (.seq (.keep [(1, _), (4, _)] ⟨rfl, rfl, trivial⟩ (.region ?_))))
      refine .p rfl rfl (.as rfl) (.nil (.code (.seq (.seq (.region ?_)))))
      refine .p rfl rfl (.as rfl) (.nil (.code (.block ?_)))
      refine .loop (S := Nat × Bs × Value × World) (fun s => [(1, .pointer (some ⟨w.heap.size, 0, none⟩)), (4, .slice az inn.length kz), (8, s.2.2.1), (9, i64 s.1)]) (fun s => s.2.2.2) (fun s => s.1 ≤ 8 ∧ s.2.1 = (List.range s.1).flatMap (fun i => put8 x.gen.toNat ++ [UInt8.ofNat i] ++ (inn.drop (i * 119)).take 119) ∧ s.2.1.length = s.1 * 128 ∧ OwnO tByte (fun _ => False) 5 s.2.2.2 s.2.2.1 s.2.1 (fun k => wz.heap.size ≤ k) ∧ Ext (fun _ => False) wz s.2.2.2) (fun s => 8 - s.1) (0, [], .slice none 0 0, wz) ⟨rfl, rfl, rfl, rfl, trivial⟩ rfl ⟨Nat.zero_le _, rfl, rfl, OwnO.nil, .refl _⟩ ?_
      rintro ⟨i, out, vq, wq⟩ J ⟨hi', hout, hol, hQ, hW⟩ again
      simp only at hi' hout hol hQ hW
      have zq := hW.size
      change G _ [(1, .pointer (some ⟨w.heap.size, 0, none⟩)), (4, .slice az inn.length kz), (8, vq), (9, i64 i)] _ _ wq
      refine .seq (.seq (.region ?_))
      refine .p rfl rfl (.mv rfl) (.p rfl rfl (.lt rfl rfl) (.nil (.code (.keep [(84, _), (1, _), (4, _), (8, _), (9, _)] ⟨rfl, rfl, rfl, rfl, rfl, trivial⟩ ?_))))
      refine .condD rfl (fun c84 => ?_) (fun c84 => ?_)
      ·have hi : i < 8 := by omega
       refine .skip (.code (.seq (.block (.seq (.keep [(1, _), (4, _), (8, _), (9, _)] ⟨rfl, rfl, rfl, rfl, trivial⟩ (.region ?_))))))
       refine .p rfl rfl (.mv rfl) (.p rfl rfl (.fieldAddr rfl rfl rfl rfl) (.p rfl rfl (.load rfl rfl rfl ((B1.ext (S := fun _ => False) (by repeat (first | exact Ext.refl _ | assumption | refine Ext.trans (by assumption) ?_)) (fun x => x)).cell 0)) ?_))
       refine .p rfl rfl (.cast (.convU rfl rfl rfl (by omega)) (show _ = Value.int .u64 ((x.gen.toNat : Nat) : Int) by rw [Int.toNat_of_nonneg (by omega)])) (.call (first := []) (captured := []) rfl rfl rfl rfl (RefPut_fn (n := x.gen.toNat) (by omega)) ?_)
       rintro v91 w91 ⟨R91, X91⟩
       have z91 := X91.size
       refine .v rfl rfl (.appendLo (t := tByte) (eb := 1) rfl (OwnO.ext0 hQ X91) (fun k hk => by show wz.heap.size ≤ k; omega) rfl (Gr.holds (P := All) (allOf R91)) rfl rfl rfl rfl rfl rfl rfl (by simp [put8_length]; omega) (by simp [put8_length, Lim]; omega) (fun _ h _ => h.elim)) ?_
       rintro v92 w92 ⟨O92, A92⟩
       have z92 := A92.size
       have Z92 : Ext (fun _ => False) wz w92 := (hW.trans X91).then A92 (fun k h _ => h)
       refine .p rfl rfl (.as rfl) (.nil (.code (.seq (.keep [(8, _), (1, _), (4, _), (9, _)] ⟨rfl, rfl, rfl, rfl, trivial⟩ (.region ?_)))))
       refine .p rfl rfl (.mv rfl) (.p rfl rfl (.mv rfl) (.p rfl rfl (.cast (.convB rfl rfl rfl (by omega)) (show _ = u8 (UInt8.ofNat i) by rw [Int.toNat_natCast])) (.v rfl rfl (.lits rfl rfl (fun _ => by kernel_rfl)) ?_)))
       rintro _ w96 ⟨rfl, N96⟩
       have z96 := N96.size
       refine .v rfl rfl (.appendLo (t := tByte) (eb := 1) rfl (OwnO.ext0 O92 N96.ext) (fun k hk => by show wz.heap.size ≤ k; omega) rfl (Gr.holds (P := All) (allOf (lit_byte N96 rfl))) rfl rfl rfl rfl rfl rfl rfl (by simp [put8_length]; omega) (by simp [put8_length, Lim]; omega) (fun _ h _ => h.elim)) ?_
       rintro v97 w97 ⟨O97, A97⟩
       have z97 := A97.size
       have Z97 : Ext (fun _ => False) wz w97 := (Z92.trans N96.ext).then A97 (fun k h _ => h)
       refine .p rfl rfl (.as rfl) (.nil (.code (.keep [(8, _), (1, _), (4, _), (9, _)] ⟨rfl, rfl, rfl, rfl, trivial⟩ (.region ?_))))
       refine .p rfl rfl (.mv rfl) (.p rfl rfl (.mv rfl) (.p rfl rfl (.mv rfl) (.p rfl rfl (.mul rfl rfl (by omega)) (.p rfl rfl (.mv rfl) (.p rfl rfl (.mul rfl rfl (by omega)) (.p rfl rfl (.add rfl rfl (by omega)) (.p rfl rfl (.cast (.cut (s := 1) rfl rfl rfl rfl rfl (by omega)) (show cutV 1 az kz ((i : Int) * 119).toNat ((i : Int) * 119 + 119).toNat = cutV 1 az kz (i * 119) (i * 119 + 119) by congr 1 <;> omega)) (.v rfl rfl (.appendLo (t := tByte) (eb := 1) rfl O97 (fun k hk => by show wz.heap.size ≤ k; omega) rfl (Gr.holds (P := All) (tBytes.ext0 (allOf (Sl.cut hR (i * 119) (i * 119 + 119) (by omega) (by omega))) Z97)) rfl rfl rfl rfl rfl rfl rfl (by simp [put8_length]; omega) (by simp [put8_length, Lim]; omega) (fun _ h _ => h.elim)) ?_))))))))
       rintro v106 w106 ⟨O106, A106⟩
       have z106 := A106.size
       refine .p rfl rfl (.as rfl) (.nil (.blk (.code (.keep [(8, _), (1, _), (4, _), (9, _)] ⟨rfl, rfl, rfl, rfl, trivial⟩ (.region ?_)))))
       refine .p rfl rfl (.mv rfl) (.p rfl rfl (.add rfl rfl (by omega)) (.p rfl rfl (.as rfl) (.nil ?_)))
       exact (again (i + 1, _, v106, w106) ⟨by show i + 1 ≤ _; omega, by show out ++ _ ++ _ ++ _ = _; rw [slots_step, hout, show (inn.take (i * 119 + 119)).drop (i * 119) = (inn.drop (i * 119)).take 119 by rw [List.drop_take]; congr 1; omega], by simp only [List.length_append, List.length_drop, List.length_take, put8_length, List.length_cons, List.length_nil]; omega, O106, Z97.then A106 (fun k h _ => h)⟩ (by show 8 - (i + 1) < 8 - i; omega)).of ⟨rfl, rfl, rfl, rfl, trivial⟩
      ·obtain rfl : i = 8 := by omega
       refine .exit rfl (.code (.seq (.keep [(8, _)] ⟨rfl, trivial⟩ (.region ?_))))
       refine .p rfl rfl (.mv rfl) (.p rfl rfl (.as rfl) (.p rfl rfl (.as rfl) (.nil (.code ?_))))
       refine .ret _ rfl ?_
       rw [writeF_0 hc0 h952, ← ha, ← hkk, hI]
       refine ⟨_, rfl, ?_, (by repeat (first | exact Ext.refl _ | assumption | refine Ext.trans (by assumption) ?_))⟩
       have : slotsD x.gen.toNat inn = out := by rw [hout]; rfl
       rw [this]
       exact OwnO.mono hQ (fun _ h _ => h) (fun k h _ => by have h : wz.heap.size ≤ k := h; show w.heap.size ≤ k; omega)
end Go.Proofs.YtpfehnopghffjaaGreatDoor
