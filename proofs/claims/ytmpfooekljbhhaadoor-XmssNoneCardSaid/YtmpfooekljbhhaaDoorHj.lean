/- A part of the proof. -/
import Derived.Test.YtmpfooekljbhhaaDoorGH
import Derived.Test.YtmpfooekljbhhaaDoorGK
set_option linter.all false
namespace Go.Lv
open Go Go.Proofs
set_option linter.unusedSimpArgs false
set_option maxRecDepth 100000

/-! ## Law: a tree that no call made -/
theorem xnone_nil : Fun Tryd.prog Gs 74 [.nilp] (.b true) := by
  refine Fun_cc [] mo Tryd.func74 (by decide) cc74 rs74 Tryd.ntmps74 (by simp) ?_
  refine AW_run CtOK_nil 1000 ?_
  simp (maxSteps := 10000000) (disch := omega) only [go_sem, c74, reduceIte, seval, -BitVec.isValue, -BitVec.reduceOfNat, -List.reduceReplicate]
def ctXnone : Nat × (List AV → R) := (74, nilT (.b true))
theorem ctXnone_ok {Ct : List (Nat × (List AV → R))} (h : CtOK Tryd.prog Gs Ct) : CtOK Tryd.prog Gs (ctXnone :: Ct) := CtOK_cons (nil_row xnone_nil) h
theorem xroot_nil : Fun Tryd.prog Gs 44 [.nilp] (.tup [.ros true 0 [], .i 2]) := by
  refine Fun_cc [ctXnone] mo Tryd.func44 (by decide) cc44 rs44 Tryd.ntmps44 (by simp) ?_
  refine AW_run (ctXnone_ok CtOK_nil) 1000 ?_
  simp (maxSteps := 10000000) (disch := omega) only [go_sem, c44, ctXnone, reduceIte, seval, -BitVec.isValue, -BitVec.reduceOfNat, -List.reduceReplicate]
theorem xadd_nil : Fun Tryd.prog Gs 45 [.nilp] (.i 2) := by
  refine Fun_cc [ctXnone] mo Tryd.func45 (by decide) cc45 rs45 Tryd.ntmps45 (by simp) ?_
  refine AW_run (ctXnone_ok CtOK_nil) 1000 ?_
  simp (maxSteps := 10000000) (disch := omega) only [go_sem, c45, ctXnone, reduceIte, seval, -BitVec.isValue, -BitVec.reduceOfNat, -List.reduceReplicate]
theorem xheld_nil : Fun Tryd.prog Gs 46 [.nilp] (.i 0) := by
  refine Fun_cc [ctXnone] mo Tryd.func46 (by decide) cc46 rs46 Tryd.ntmps46 (by simp) ?_
  refine AW_run (ctXnone_ok CtOK_nil) 1000 ?_
  simp (maxSteps := 10000000) (disch := omega) only [go_sem, c46, ctXnone, reduceIte, seval, -BitVec.isValue, -BitVec.reduceOfNat, -List.reduceReplicate]
theorem xleaves_nil : Fun Tryd.prog Gs 47 [.nilp] (.i 0) := by
  refine Fun_cc [ctXnone] mo Tryd.func47 (by decide) cc47 rs47 Tryd.ntmps47 (by simp) ?_
  refine AW_run (ctXnone_ok CtOK_nil) 1000 ?_
  simp (maxSteps := 10000000) (disch := omega) only [go_sem, c47, ctXnone, reduceIte, seval, -BitVec.isValue, -BitVec.reduceOfNat, -List.reduceReplicate]
theorem XNone_fun (n : Int) (_ : i64ok n) : Fun Tryd.prog Gs 14 [Enc.enc n] (.b true) := by
  have hct := ctXlive_ok (CtOK_cons (nil_row xroot_nil) (CtOK_cons (nil_row xadd_nil) (CtOK_cons (nil_row xheld_nil) (CtOK_cons (nil_row xleaves_nil) (CtOK_nil (P := Tryd.prog) (Gl := Gs))))))
  refine Fun_cc _ mo Tryd.func14 (by decide) cc14 rs14 Tryd.ntmps14 (by simp) (AW_run hct 1000 ?_)
  simp (maxSteps := 10000000) (disch := omega) only [go_sem, c14, ctXlive, reduceIte, seval, -BitVec.isValue, -BitVec.reduceOfNat, -List.reduceReplicate]
end Go.Lv
