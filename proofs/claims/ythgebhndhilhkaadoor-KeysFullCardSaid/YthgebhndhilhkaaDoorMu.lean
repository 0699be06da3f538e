/- The numbers of package sync's functions and types in this translation. -/
import Derived.Test.YthgebhndhilhkaaDoorProg
import Derived.Conc.MuLone
import Derived.Conc.MuData
import Derived.KernelRfl
namespace Go.Proofs.YthgebhndhilhkaaDoor
abbrev muLink : Go.Conc.Locks.MuLink := { lock := 39, unlock := 40, ilock := 74, iunlock := 75, lockSlow := 128, unlockSlow := 131, disable := 124, enable := 126, acquire := 127, relMerge := 129, cas32 := 125, add32 := 130, tMutex := 83, tIMutex := 81, tPMutex := 128, tPIMutex := 169, tPI32 := 171, tUP := 173, tNoCopy := 78, tU32 := 79 }
theorem muLib : Go.Conc.Locks.MuLib Tryd.prog muLink :=
  ⟨Tryd.func39, Tryd.func40, Tryd.func74, Tryd.func75, Tryd.func124, Tryd.func126, Tryd.func127, Tryd.func129, Tryd.func125, Tryd.func130, Tryd.underlying81, Tryd.runUnderlying81, Tryd.sizeOf81, Tryd.isAgg81, Tryd.zeroValue81, Tryd.underlying83, Tryd.runUnderlying83, Tryd.sizeOf83, Tryd.isAgg83, Tryd.zeroValue83, Tryd.underlying128, Tryd.runUnderlying128, Tryd.sizeOf128, Tryd.isAgg128, Tryd.zeroValue128, Tryd.underlying169, Tryd.runUnderlying169, Tryd.sizeOf169, Tryd.isAgg169, Tryd.zeroValue169, Tryd.underlying171, Tryd.runUnderlying171, Tryd.sizeOf171, Tryd.isAgg171, Tryd.zeroValue171, Tryd.underlying173, Tryd.runUnderlying173, Tryd.sizeOf173, Tryd.isAgg173, Tryd.zeroValue173, Tryd.underlying78, Tryd.runUnderlying78, Tryd.sizeOf78, Tryd.isAgg78, Tryd.zeroValue78, Tryd.underlying21, Tryd.runUnderlying21, Tryd.sizeOf21, Tryd.isAgg21, Tryd.zeroValue21, (by kernel_rfl)⟩
theorem muData : Go.Conc.Locks.MuData Tryd.prog muLink := ⟨Tryd.underlying79, by kernel_rfl, by kernel_rfl, by kernel_rfl, by kernel_rfl, by kernel_rfl⟩
end Go.Proofs.YthgebhndhilhkaaDoor
