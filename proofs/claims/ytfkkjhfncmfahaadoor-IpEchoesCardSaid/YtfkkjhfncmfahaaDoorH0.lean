/- Numbers of layer 17's heads, by the kernel. -/
import Derived.Test.YtfkkjhfncmfahaaDoorProg
import Derived.Test.YtfkkjhfncmfahaaDoorA0
import Derived.Test.YtfkkjhfncmfahaaDoorB0
import Derived.Test.YtfkkjhfncmfahaaDoorB1
import Derived.Test.YtfkkjhfncmfahaaDoorS1
import Derived.Test.YtfkkjhfncmfahaaDoorS2
import Derived.Test.YtfkkjhfncmfahaaDoorE1
import Derived.Test.YtfkkjhfncmfahaaDoorB2
import Derived.Test.YtfkkjhfncmfahaaDoorP1
import Derived.Test.YtfkkjhfncmfahaaDoorG2
import Derived.Test.YtfkkjhfncmfahaaDoorG3
import Derived.Test.YtfkkjhfncmfahaaDoorG6
namespace Go.Proofs.YtfkkjhfncmfahaaDoor
open Go.RowKit Go.Deep

def hd0 : List UInt8 := List.replicate 100 0
def hdB : List UInt8 := ipPutF 0 5 0 0 64 17 1 2 [] hd0
theorem hdB_len : hdB.length = 120 := by kernel_rfl
theorem hdB_first : (hdB.getD 0 0).toNat = 69 := by kernel_rfl
theorem hdB_right : rightB (hdB.take 20) = true := by kernel_rfl
theorem hdB_all : ipAll hdB = 120 := by kernel_rfl
theorem hdC_first : ((hdB ++ [9]).getD 0 0).toNat = 69 := by kernel_rfl
theorem hdC_h : ipH (hdB ++ [9]) = 20 := by kernel_rfl
theorem hdC_right : rightB ((hdB ++ [9]).take 20) = true := by kernel_rfl
theorem hdC_all : ipAll (hdB ++ [9]) = 120 := by kernel_rfl
theorem hdC_len : (hdB ++ [9]).length = 121 := by kernel_rfl
theorem hdC_nums : [numF (hdB ++ [9]) 1 1, numF (hdB ++ [9]) 4 2, numF (hdB ++ [9]) 6 1, numF (hdB ++ [9]) 6 2, numF (hdB ++ [9]) 8 1, numF (hdB ++ [9]) 9 1, numF (hdB ++ [9]) 12 4, numF (hdB ++ [9]) 16 4] = [0, 5, 0, 0, 64, 17, 1, 2] := by kernel_rfl
theorem hdC_opt : ((hdB ++ [9]).drop 20).take 0 = [] := by kernel_rfl
theorem hdC_data : ((hdB ++ [9]).drop 20).take 100 = hd0 := by kernel_rfl
theorem hdH_len : (hdB.take 60).length = 60 := by kernel_rfl
theorem hdH_first : ((hdB.take 60).getD 0 0).toNat = 69 := by kernel_rfl
theorem hdH_h : ipH (hdB.take 60) = 20 := by kernel_rfl
theorem hdH_right : rightB ((hdB.take 60).take 20) = true := by kernel_rfl
theorem hdH_all : ipAll (hdB.take 60) = 120 := by kernel_rfl
def hdE : List UInt8 := [8, 0, 247, 254, 0, 0, 0, 1]
def hdN : List UInt8 := [8, 0, 0, 0, 0, 0, 0, 1]
def hdX : List UInt8 := [0, 0, 255, 254, 0, 0, 0, 1]
theorem hdE_right : rightB hdE = true := by kernel_rfl
theorem hdE_echo : echoF hdE = hdX := by kernel_rfl
theorem hdN_right : rightB hdN = false := by kernel_rfl
theorem hd_made : madeCells #[.int .u8 0] 100 = (bytesV hd0).toArray := by kernel_rfl
end Go.Proofs.YtfkkjhfncmfahaaDoor
