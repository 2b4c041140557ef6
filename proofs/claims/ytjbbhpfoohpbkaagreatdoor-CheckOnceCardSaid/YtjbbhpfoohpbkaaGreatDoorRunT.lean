/- The table of the run of awake holds. No condition. -/
import Derived.Test.YtjbbhpfoohpbkaaGreatDoorRunP0
import Derived.Test.YtjbbhpfoohpbkaaGreatDoorRunP1
import Derived.Test.YtjbbhpfoohpbkaaGreatDoorRunP2
import Derived.Test.YtjbbhpfoohpbkaaGreatDoorRunP3
set_option linter.all false
open Go Go.Xv
namespace Go.Proofs.YtjbbhpfoohpbkaaGreatDoor
theorem ng : ∀ (f : FuncId) (fn : Func), PR.funcs[f]? = some fn → fn.body.isNone = false → (fn.name == "runtime.NumGoroutine") = false :=
  noNG (P := PR) (by kernel_rfl)
theorem mo : PR.follows .mixedOrders = true := by kernel_rfl
theorem ex0 : ExtOK PR glT ext0 := ext_none
theorem okf0 : ExtOK PR glT (lookT T00) := tab_consF tab_nil ex0 ng mo kf0
theorem ok0 : ExtOK PR glT (lookT T0) := tab_consF okf0 ex0 ng mo kf1
theorem ok1 : ExtOK PR glT (lookT T1) := tab_cons ok0 ex0 ng mo k0
theorem ok2 : ExtOK PR glT (lookT T2) := tab_cons ok1 ex0 ng mo k1
theorem ok3 : ExtOK PR glT (lookT T3) := tab_cons ok2 ex0 ng mo k2
theorem ok4 : ExtOK PR glT (lookT T4) := tab_cons ok3 ex0 ng mo k3
theorem ok5 : ExtOK PR glT (lookT T5) := tab_cons ok4 ex0 ng mo k4
theorem ok6 : ExtOK PR glT (lookT T6) := tab_cons ok5 ex0 ng mo k5
theorem ok7 : ExtOK PR glT (lookT T7) := tab_cons ok6 ex0 ng mo k6
theorem ok8 : ExtOK PR glT (lookT T8) := tab_cons ok7 ex0 ng mo k7
theorem ok9 : ExtOK PR glT (lookT T9) := tab_cons ok8 ex0 ng mo k8
theorem ok10 : ExtOK PR glT (lookT T10) := tab_cons ok9 ex0 ng mo k9
theorem ok11 : ExtOK PR glT (lookT T11) := tab_cons ok10 ex0 ng mo k10
theorem ok12 : ExtOK PR glT (lookT T12) := tab_cons ok11 ex0 ng mo k11
theorem ok13 : ExtOK PR glT (lookT T13) := tab_cons ok12 ex0 ng mo k12
theorem ok14 : ExtOK PR glT (lookT T14) := tab_cons ok13 ex0 ng mo k13
theorem ok15 : ExtOK PR glT (lookT T15) := tab_cons ok14 ex0 ng mo k14
theorem ok16 : ExtOK PR glT (lookT T16) := tab_cons ok15 ex0 ng mo k15
theorem ok17 : ExtOK PR glT (lookT T17) := tab_cons ok16 ex0 ng mo k16
theorem ok18 : ExtOK PR glT (lookT T18) := tab_cons ok17 ex0 ng mo k17
theorem ok19 : ExtOK PR glT (lookT T19) := tab_cons ok18 ex0 ng mo k18
theorem ok20 : ExtOK PR glT (lookT T20) := tab_cons ok19 ex0 ng mo k19
theorem ok21 : ExtOK PR glT (lookT T21) := tab_cons ok20 ex0 ng mo k20
theorem ok22 : ExtOK PR glT (lookT T22) := tab_cons ok21 ex0 ng mo k21
theorem ok23 : ExtOK PR glT (lookT T23) := tab_cons ok22 ex0 ng mo k22
theorem ok24 : ExtOK PR glT (lookT T24) := tab_cons ok23 ex0 ng mo k23
theorem ok25 : ExtOK PR glT (lookT T25) := tab_cons ok24 ex0 ng mo k24
theorem ok26 : ExtOK PR glT (lookT T26) := tab_cons ok25 ex0 ng mo k25
theorem ok27 : ExtOK PR glT (lookT T27) := tab_cons ok26 ex0 ng mo k26
theorem ok28 : ExtOK PR glT (lookT T28) := tab_cons ok27 ex0 ng mo k27
theorem ok29 : ExtOK PR glT (lookT T29) := tab_cons ok28 ex0 ng mo k28
theorem ok30 : ExtOK PR glT (lookT T30) := tab_cons ok29 ex0 ng mo k29
theorem ok31 : ExtOK PR glT (lookT T31) := tab_cons ok30 ex0 ng mo k30
theorem ok32 : ExtOK PR glT (lookT T32) := tab_cons ok31 ex0 ng mo k31
theorem ok33 : ExtOK PR glT (lookT T33) := tab_cons ok32 ex0 ng mo k32
theorem ok34 : ExtOK PR glT (lookT T34) := tab_cons ok33 ex0 ng mo k33
theorem ok35 : ExtOK PR glT (lookT T35) := tab_cons ok34 ex0 ng mo k34
theorem ok36 : ExtOK PR glT (lookT T36) := tab_cons ok35 ex0 ng mo k35
theorem ok37 : ExtOK PR glT (lookT T37) := tab_cons ok36 ex0 ng mo k36
theorem ok38 : ExtOK PR glT (lookT T38) := tab_cons ok37 ex0 ng mo k37
theorem ok39 : ExtOK PR glT (lookT T39) := tab_cons ok38 ex0 ng mo k38
theorem ok40 : ExtOK PR glT (lookT T40) := tab_cons ok39 ex0 ng mo k39
theorem ok41 : ExtOK PR glT (lookT T41) := tab_cons ok40 ex0 ng mo k40
theorem ok42 : ExtOK PR glT (lookT T42) := tab_cons ok41 ex0 ng mo k41
theorem ok43 : ExtOK PR glT (lookT T43) := tab_cons ok42 ex0 ng mo k42
theorem ok44 : ExtOK PR glT (lookT T44) := tab_cons ok43 ex0 ng mo k43
theorem ok45 : ExtOK PR glT (lookT T45) := tab_cons ok44 ex0 ng mo k44
theorem ok46 : ExtOK PR glT (lookT T46) := tab_cons ok45 ex0 ng mo k45
theorem ok47 : ExtOK PR glT (lookT T47) := tab_cons ok46 ex0 ng mo k46
theorem ok48 : ExtOK PR glT (lookT T48) := tab_cons ok47 ex0 ng mo k47
theorem ok49 : ExtOK PR glT (lookT T49) := tab_cons ok48 ex0 ng mo k48
theorem ok50 : ExtOK PR glT (lookT T50) := tab_cons ok49 ex0 ng mo k49
theorem ok51 : ExtOK PR glT (lookT T51) := tab_cons ok50 ex0 ng mo k50
theorem ok52 : ExtOK PR glT (lookT T52) := tab_cons ok51 ex0 ng mo k51
theorem ok53 : ExtOK PR glT (lookT T53) := tab_cons ok52 ex0 ng mo k52
theorem ok54 : ExtOK PR glT (lookT T54) := tab_cons ok53 ex0 ng mo k53
theorem ok55 : ExtOK PR glT (lookT T55) := tab_cons ok54 ex0 ng mo k54
theorem ok56 : ExtOK PR glT (lookT T56) := tab_cons ok55 ex0 ng mo k55
theorem ok57 : ExtOK PR glT (lookT T57) := tab_cons ok56 ex0 ng mo k56
theorem ok58 : ExtOK PR glT (lookT T58) := tab_cons ok57 ex0 ng mo k57
theorem ok59 : ExtOK PR glT (lookT T59) := tab_cons ok58 ex0 ng mo k58
theorem ok60 : ExtOK PR glT (lookT T60) := tab_cons ok59 ex0 ng mo k59
theorem ok61 : ExtOK PR glT (lookT T61) := tab_cons ok60 ex0 ng mo k60
theorem ok62 : ExtOK PR glT (lookT T62) := tab_cons ok61 ex0 ng mo k61
theorem ok63 : ExtOK PR glT (lookT T63) := tab_cons ok62 ex0 ng mo k62
theorem ok64 : ExtOK PR glT (lookT T64) := tab_cons ok63 ex0 ng mo k63
theorem ok65 : ExtOK PR glT (lookT T65) := tab_cons ok64 ex0 ng mo k64
theorem ok66 : ExtOK PR glT (lookT T66) := tab_cons ok65 ex0 ng mo k65
theorem ok67 : ExtOK PR glT (lookT T67) := tab_cons ok66 ex0 ng mo k66
theorem ok68 : ExtOK PR glT (lookT T68) := tab_cons ok67 ex0 ng mo k67
theorem ok69 : ExtOK PR glT (lookT T69) := tab_cons ok68 ex0 ng mo k68
theorem okA : ExtOK PR glT (lookT TA) := tab_cons ok69 ex0 ng mo kroot
end Go.Proofs.YtjbbhpfoohpbkaaGreatDoor
