import Derived.Test.YtebickoieipjpaaCCodes1
section
namespace Go.Proofs.Ytebickoieipjpaa.PRr
open Go.RowKit Go.Proofs.YtebickoieipjpaaW.PrintWords Go.Proofs.YtebickoieipjpaaW.PrintLast Go.Proofs.YtebickoieipjpaaW.PrintMore
attribute [local go_sem] max2_int min2_int max_two min_two max_three min_three max_four min_four
set_option linter.unusedVariables false
set_option linter.unusedSimpArgs false
mutual
def girderref04_Bytes.j0 : Nat → ByteArray → Bool → Int → Int → Int → Int → Int → Int → Int → ByteArray → ByteArray → Int → Int → ByteArray → Int → Int → Bool → List (S56) → List (S58) → Option (ByteArray)
 | 0,_,_,_,_,_,_,_,_,_,_,_,_,_,_,_,_,_,_,_=>none
 | k + 1,x3,x28,x116000,x116001,x116002,x116003,x116004,x116005,x116006,x116007,x116008,x116009,x116010,x116011,x116012,x116013,x116014,x116015,x116016=>if x28=true then ((girderref01_Put.f x116003 8).bind fun t119=>(if x3.size + t119.size≤9223372036854775807 then (girderref04_Bytes.j1 k (x3 ++ t119) x116000 x116001 x116002 x116003 x116004 x116005 x116006 x116007 x116008 x116009 x116010 x116011 x116012 x116013 x116014 x116015 x116016) else (none))) else (girderref04_Bytes.j1 k x3 x116000 x116001 x116002 x116003 x116004 x116005 x116006 x116007 x116008 x116009 x116010 x116011 x116012 x116013 x116014 x116015 x116016)
def girderref04_Bytes.j1 : Nat → ByteArray → Int → Int → Int → Int → Int → Int → Int → ByteArray → ByteArray → Int → Int → ByteArray → Int → Int → Bool → List (S56) → List (S58) → Option (ByteArray)
 | 0,_,_,_,_,_,_,_,_,_,_,_,_,_,_,_,_,_,_=>none
 | k + 1,x3,x116000,x116001,x116002,x116003,x116004,x116005,x116006,x116007,x116008,x116009,x116010,x116011,x116012,x116013,x116014,x116015,x116016=>if x116000=1 then (girderref04_Bytes.j2 k x3 true x116000 x116001 x116002 x116003 x116004 x116005 x116006 x116007 x116008 x116009 x116010 x116011 x116012 x116013 x116014 x116015 x116016) else (girderref04_Bytes.j2 k x3 (x116000 == 2) x116000 x116001 x116002 x116003 x116004 x116005 x116006 x116007 x116008 x116009 x116010 x116011 x116012 x116013 x116014 x116015 x116016)
def girderref04_Bytes.j2 : Nat → ByteArray → Bool → Int → Int → Int → Int → Int → Int → Int → ByteArray → ByteArray → Int → Int → ByteArray → Int → Int → Bool → List (S56) → List (S58) → Option (ByteArray)
 | 0,_,_,_,_,_,_,_,_,_,_,_,_,_,_,_,_,_,_,_=>none
 | k + 1,x3,x41,x116000,x116001,x116002,x116003,x116004,x116005,x116006,x116007,x116008,x116009,x116010,x116011,x116012,x116013,x116014,x116015,x116016=>if x41=true then ((girderref01_Put.f (IntKind.u64.wrap (x116004)) 4).bind fun t120=>((girderref01_Put.f (IntKind.u64.wrap (x116005)) 1).bind fun t121=>(if t120.size + t121.size≤9223372036854775807 then ((girderref01_Put.f (IntKind.u64.wrap (x116006)) 2).bind fun t122=>(if (t120 ++ t121).size + t122.size≤9223372036854775807 then ((girderref04_text.f x116007).bind fun t123=>(if ((t120 ++ t121) ++ t122).size + t123.size≤9223372036854775807 then ((girderref04_text.f x116008).bind fun t124=>(if (((t120 ++ t121) ++ t122) ++ t123).size + t124.size≤9223372036854775807 then ((girderref01_Put.f (IntKind.u64.wrap (x116009)) 1).bind fun t125=>(if ((((t120 ++ t121) ++ t122) ++ t123) ++ t124).size + t125.size≤9223372036854775807 then (if x3.size + (((((t120 ++ t121) ++ t122) ++ t123) ++ t124) ++ t125).size≤9223372036854775807 then (if x116009=2 then (if x116014=true then (girderref04_Bytes.j3 k (x3 ++ (((((t120 ++ t121) ++ t122) ++ t123) ++ t124) ++ t125)) 1 x116000 x116001 x116002 x116003 x116004 x116005 x116006 x116007 x116008 x116009 x116010 x116011 x116012 x116013 x116014 x116015 x116016) else (girderref04_Bytes.j3 k (x3 ++ (((((t120 ++ t121) ++ t122) ++ t123) ++ t124) ++ t125)) 0 x116000 x116001 x116002 x116003 x116004 x116005 x116006 x116007 x116008 x116009 x116010 x116011 x116012 x116013 x116014 x116015 x116016)) else (girderref04_Bytes.j4 k (x3 ++ (((((t120 ++ t121) ++ t122) ++ t123) ++ t124) ++ t125)) x116000 x116001 x116002 x116003 x116004 x116005 x116006 x116007 x116008 x116009 x116010 x116011 x116012 x116013 x116014 x116015 x116016)) else (none)) else (none))) else (none))) else (none))) else (none))) else (none)))) else (girderref04_Bytes.j4 k x3 x116000 x116001 x116002 x116003 x116004 x116005 x116006 x116007 x116008 x116009 x116010 x116011 x116012 x116013 x116014 x116015 x116016)
def girderref04_Bytes.j4 : Nat → ByteArray → Int → Int → Int → Int → Int → Int → Int → ByteArray → ByteArray → Int → Int → ByteArray → Int → Int → Bool → List (S56) → List (S58) → Option (ByteArray)
 | 0,_,_,_,_,_,_,_,_,_,_,_,_,_,_,_,_,_,_=>none
 | k + 1,x3,x116000,x116001,x116002,x116003,x116004,x116005,x116006,x116007,x116008,x116009,x116010,x116011,x116012,x116013,x116014,x116015,x116016=>if x116000=8 then ((girderref01_Put.f (IntKind.u64.wrap ((x116015.length : Int))) 2).bind fun t131=>(if x3.size + t131.size≤9223372036854775807 then (girderref04_Bytes.l0 k (x3 ++ t131) 0 x116000 x116001 x116002 x116003 x116004 x116005 x116006 x116007 x116008 x116009 x116010 x116011 x116012 x116013 x116014 x116015 x116016) else (none))) else (some x3)
def girderref04_Bytes.l0 : Nat → ByteArray → Int → Int → Int → Int → Int → Int → Int → Int → ByteArray → ByteArray → Int → Int → ByteArray → Int → Int → Bool → List (S56) → List (S58) → Option (ByteArray)
 | 0,_,_,_,_,_,_,_,_,_,_,_,_,_,_,_,_,_,_,_=>none
 | k + 1,x3,x5,x116000,x116001,x116002,x116003,x116004,x116005,x116006,x116007,x116008,x116009,x116010,x116011,x116012,x116013,x116014,x116015,x116016=>if x5 < (x116015.length : Int) then (if 0≤x5 then ((girderref01_Put.f (IntKind.u64.wrap ((rd_T56 x116015 x5).f0)) 4).bind fun t134=>((girderref01_Put.f (IntKind.u64.wrap ((rd_T56 x116015 x5).f1)) 1).bind fun t135=>(if t134.size + t135.size≤9223372036854775807 then ((girderref01_Put.f ((rd_T56 x116015 x5).f2) 8).bind fun t136=>(if (t134 ++ t135).size + t136.size≤9223372036854775807 then ((girderref01_Put.f ((rd_T56 x116015 x5).f3) 8).bind fun t137=>(if ((t134 ++ t135) ++ t136).size + t137.size≤9223372036854775807 then (if x3.size + (((t134 ++ t135) ++ t136) ++ t137).size≤9223372036854775807 then (girderref04_Bytes.l0 k (x3 ++ (((t134 ++ t135) ++ t136) ++ t137)) (wrap64 (x5 + 1)) x116000 x116001 x116002 x116003 x116004 x116005 x116006 x116007 x116008 x116009 x116010 x116011 x116012 x116013 x116014 x116015 x116016) else (none)) else (none))) else (none))) else (none)))) else (none)) else ((girderref01_Put.f (IntKind.u64.wrap ((x116016.length : Int))) 2).bind fun t138=>(if x3.size + t138.size≤9223372036854775807 then (girderref04_Bytes.l1 k (x3 ++ t138) 0 x116000 x116001 x116002 x116003 x116004 x116005 x116006 x116007 x116008 x116009 x116010 x116011 x116012 x116013 x116014 x116015 x116016) else (none)))
def girderref04_Bytes.l1 : Nat → ByteArray → Int → Int → Int → Int → Int → Int → Int → Int → ByteArray → ByteArray → Int → Int → ByteArray → Int → Int → Bool → List (S56) → List (S58) → Option (ByteArray)
 | 0,_,_,_,_,_,_,_,_,_,_,_,_,_,_,_,_,_,_,_=>none
 | k + 1,x3,x7,x116000,x116001,x116002,x116003,x116004,x116005,x116006,x116007,x116008,x116009,x116010,x116011,x116012,x116013,x116014,x116015,x116016=>if x7 < (x116016.length : Int) then (if 0≤x7 then ((girderref01_Put.f (IntKind.u64.wrap ((rd_T58 x116016 x7).f0)) 4).bind fun t140=>((girderref01_Put.f ((rd_T58 x116016 x7).f1) 8).bind fun t142=>(if t140.size + t142.size≤9223372036854775807 then (if x3.size + (t140 ++ t142).size≤9223372036854775807 then (girderref04_Bytes.l1 k (x3 ++ (t140 ++ t142)) (wrap64 (x7 + 1)) x116000 x116001 x116002 x116003 x116004 x116005 x116006 x116007 x116008 x116009 x116010 x116011 x116012 x116013 x116014 x116015 x116016) else (none)) else (none)))) else (none)) else (some x3)
def girderref04_Bytes.j3 : Nat → ByteArray → Int → Int → Int → Int → Int → Int → Int → Int → ByteArray → ByteArray → Int → Int → ByteArray → Int → Int → Bool → List (S56) → List (S58) → Option (ByteArray)
 | 0,_,_,_,_,_,_,_,_,_,_,_,_,_,_,_,_,_,_,_=>none
 | k + 1,x3,x4,x116000,x116001,x116002,x116003,x116004,x116005,x116006,x116007,x116008,x116009,x116010,x116011,x116012,x116013,x116014,x116015,x116016=>(girderref01_Put.f (IntKind.u64.wrap (x116010)) 2).bind fun t126=>((girderref04_text.f x116011).bind fun t127=>(if t126.size + t127.size≤9223372036854775807 then ((girderref01_Put.f (IntKind.u64.wrap (x116012)) 4).bind fun t128=>(if (t126 ++ t127).size + t128.size≤9223372036854775807 then ((girderref01_Put.f (IntKind.u64.wrap (x116013)) 2).bind fun t129=>(if ((t126 ++ t127) ++ t128).size + t129.size≤9223372036854775807 then ((girderref01_Put.f x4 1).bind fun t130=>(if (((t126 ++ t127) ++ t128) ++ t129).size + t130.size≤9223372036854775807 then (if x3.size + ((((t126 ++ t127) ++ t128) ++ t129) ++ t130).size≤9223372036854775807 then (girderref04_Bytes.j4 k (x3 ++ ((((t126 ++ t127) ++ t128) ++ t129) ++ t130)) x116000 x116001 x116002 x116003 x116004 x116005 x116006 x116007 x116008 x116009 x116010 x116011 x116012 x116013 x116014 x116015 x116016) else (none)) else (none))) else (none))) else (none))) else (none)))
end
def girderref04_Bytes.f (k : Nat) (a0_0 : Int) (a0_1 : Int) (a0_2 : Int) (a0_3 : Int) (a0_4 : Int) (a0_5 : Int) (a0_6 : Int) (a0_7 : ByteArray) (a0_8 : ByteArray) (a0_9 : Int) (a0_10 : Int) (a0_11 : ByteArray) (a0_12 : Int) (a0_13 : Int) (a0_14 : Bool) (l0_15 : List (S56)) (l0_16 : List (S58)) : Option (ByteArray):=(girderref01_Put.f (IntKind.u64.wrap (a0_0)) 1).bind fun t116=>((girderref01_Put.f (IntKind.u64.wrap (a0_1)) 4).bind fun t117=>(if t116.size + t117.size≤9223372036854775807 then ((girderref01_Put.f a0_2 8).bind fun t118=>(if (t116 ++ t117).size + t118.size≤9223372036854775807 then (if a0_0=2 then (girderref04_Bytes.j0 k ((t116 ++ t117) ++ t118) true a0_0 a0_1 a0_2 a0_3 a0_4 a0_5 a0_6 a0_7 a0_8 a0_9 a0_10 a0_11 a0_12 a0_13 a0_14 l0_15 l0_16) else (girderref04_Bytes.j0 k ((t116 ++ t117) ++ t118) (a0_0 == 3) a0_0 a0_1 a0_2 a0_3 a0_4 a0_5 a0_6 a0_7 a0_8 a0_9 a0_10 a0_11 a0_12 a0_13 a0_14 l0_15 l0_16)) else (none))) else (none)))
def girderref04_Bytes.T1 : Bool × List (List Nat × List Nat):=(true,[([],[]),([0],[0]),([1],[1]),([2],[2]),([],[]),([4],[4]),([5],[5]),([6,3],[6]),([3,7],[3,7]),([],[]),([9],[9]),([10,7],[10]),([8,11],[8,11]),([12,11,0,1,2,3,4,5,6,7,8,9,10,11,12],[12])])
def girderref04_Bytes.B1 : List Nat:=[0,1,3,7,0,16,48,127,255,0,512,1791,4095,8191]
theorem girderref04_Bytes.tab1 : rtab .any (opsOf Try.f12 1)=girderref04_Bytes.T1:=by kernel_rfl
theorem girderref04_Bytes.bits1 : waitsOk girderref04_Bytes.T1.2 girderref04_Bytes.B1=true:=by kernel_rfl
def girderref04_Bytes.T5 : Bool × List (List Nat × List Nat):=(true,[([],[]),([],[]),([1],[1]),([2],[2]),([3],[3]),([],[]),([5],[5]),([6],[6]),([7],[7]),([8,4],[8]),([4,9],[4,9]),([],[]),([11],[11]),([12],[12]),([13],[13]),([14,9],[14]),([10,15],[10,15]),([],[]),([17],[17]),([18],[18]),([19,15],[19]),([16,20],[16,20]),([],[]),([22],[22]),([23],[23]),([24,20],[24]),([21,25],[21,25]),([],[]),([27],[27]),([28],[28]),([29,25],[29]),([26,30],[26,30]),([0,31],[0,31]),([32,30,0,1,2,3,4,5,6,7,8,9,10,11,12,13,14,15,16,17,18,19,20,21,22,23,24,25,26,27,28,29,30,31,32],[0,32])])
def girderref04_Bytes.B5 : List Nat:=[0,0,2,6,14,0,32,96,224,510,1022,0,2048,6144,14336,31742,65534,0,131072,393216,982014,2097150,0,4194304,12582912,31390718,67108862,0,134217728,402653184,1004469246,2147483646,4294967295,8589934591]
theorem girderref04_Bytes.tab5 : rtab .any (opsOf Try.f12 5)=girderref04_Bytes.T5:=by kernel_rfl
theorem girderref04_Bytes.bits5 : waitsOk girderref04_Bytes.T5.2 girderref04_Bytes.B5=true:=by kernel_rfl
def girderref04_Bytes.T10 : Bool × List (List Nat × List Nat):=(true,[([],[]),([],[]),([1],[1]),([2],[2]),([3],[3]),([],[]),([5],[5]),([6,4],[6]),([4,7],[4,7]),([],[]),([9],[9]),([10],[10]),([11,7],[11]),([8,12],[8,12]),([],[]),([14],[14]),([15],[15]),([16,12],[16]),([13,17],[13,17]),([],[]),([19,17],[19]),([18,20],[18,20]),([0,21],[0,21]),([22,20,0,1,2,3,4,5,6,7,8,9,10,11,12,13,14,15,16,17,18,19,20,21,22],[0,22])])
def girderref04_Bytes.B10 : List Nat:=[0,0,2,6,14,0,32,126,254,0,512,1536,3838,8190,0,16384,49152,122622,262142,0,777982,2097150,4194303,8388607]
theorem girderref04_Bytes.tab10 : rtab .any (opsOf Try.f12 10)=girderref04_Bytes.T10:=by kernel_rfl
theorem girderref04_Bytes.bits10 : waitsOk girderref04_Bytes.T10.2 girderref04_Bytes.B10=true:=by kernel_rfl
def girderref04_Bytes.T17 : Bool × List (List Nat × List Nat):=(true,[([],[]),([],[]),([1],[1]),([2],[2]),([3],[3]),([],[]),([5],[5]),([6],[6]),([7,4],[7]),([4,8],[4,8]),([],[]),([10],[10]),([11,8],[11]),([9,12],[9,12]),([],[]),([14],[14]),([15,12],[15]),([13,16],[13,16]),([0,17],[0,17]),([18,16,0,1,2,3,4,5,6,7,8,9,10,11,12,13,14,15,16,17,18],[0,18])])
def girderref04_Bytes.B17 : List Nat:=[0,0,2,6,14,0,32,96,254,510,0,1024,3582,8190,0,16384,56830,131070,262143,524287]
theorem girderref04_Bytes.tab17 : rtab .any (opsOf Try.f12 17)=girderref04_Bytes.T17:=by kernel_rfl
theorem girderref04_Bytes.bits17 : waitsOk girderref04_Bytes.T17.2 girderref04_Bytes.B17=true:=by kernel_rfl
def girderref04_Bytes.T22 : Bool × List (List Nat × List Nat):=(true,[([],[]),([],[]),([1],[1]),([],[]),([2,3],[2,3]),([4],[4]),([5],[5]),([6],[6]),([7],[7]),([],[]),([9],[9]),([],[]),([10,11],[10,11]),([12],[12]),([13],[13]),([14,8],[14]),([8,15],[8,15]),([0,16],[0,16]),([17,15,0,1,2,3,4,5,6,7,8,9,10,11,12,13,14,15,16,17],[0,17])])
def girderref04_Bytes.B22 : List Nat:=[0,0,2,0,14,30,62,126,254,0,512,0,3584,7680,15872,32766,65534,131071,262143]
theorem girderref04_Bytes.tab22 : rtab .any (opsOf Try.f12 22)=girderref04_Bytes.T22:=by kernel_rfl
theorem girderref04_Bytes.bits22 : waitsOk girderref04_Bytes.T22.2 girderref04_Bytes.B22=true:=by kernel_rfl
set_option maxHeartbeats 8000000 in
set_option maxRecDepth 100000 in
theorem girderref04_Bytes.calls (k : Nat) (a0_0 : Int) (a0_1 : Int) (a0_2 : Int) (a0_3 : Int) (a0_4 : Int) (a0_5 : Int) (a0_6 : Int) (a0_7 : ByteArray) (a0_8 : ByteArray) (a0_9 : Int) (a0_10 : Int) (a0_11 : ByteArray) (a0_12 : Int) (a0_13 : Int) (a0_14 : Bool) (A0_15 : Option Addr) (c0_15 : Nat) (l0_15 : List (S56)) (A0_16 : Option Addr) (c0_16 : Nat) (l0_16 : List (S58)) (r : ByteArray) (w : World) (hr0_15 : Kd.C k56 w A0_15 l0_15.length l0_15) (hc0_15 : l0_15.length≤c0_15) (hr0_16 : Kd.C k58 w A0_16 l0_16.length l0_16) (hc0_16 : l0_16.length≤c0_16) (h : girderref04_Bytes.f k a0_0 a0_1 a0_2 a0_3 a0_4 a0_5 a0_6 a0_7 a0_8 a0_9 a0_10 a0_11 a0_12 a0_13 a0_14 l0_15 l0_16=some r) :
  Calls Try.prog 12 #[.agg #[.int .i64 a0_0,.int .i64 a0_1,.int .u64 a0_2,.int .u64 a0_3,.int .u32 a0_4,.int .i64 a0_5,.int .i64 a0_6,.string a0_7,.string a0_8,.int .i64 a0_9,.int .i64 a0_10,.string a0_11,.int .u32 a0_12,.int .i64 a0_13,.bool a0_14,.slice A0_15 l0_15.length c0_15,.slice A0_16 l0_16.length c0_16]] w fun e w'=>e=.returned (.string r)∧Below w.heap.size w w':=by
 have hu47:=Try.underlying47
 have hu56:=Try.underlying56
 have HR0_15:=Aside0.mk hr0_15
 have HC0_15:=Aside0.mk hc0_15
 clear hr0_15 hc0_15
 have HR0_16:=Aside0.mk hr0_16
 have HC0_16:=Aside0.mk hc0_16
 clear hr0_16 hc0_16
 have HB:=Aside0.mk (Below.refl w.heap.size w)
 have H : ((girderref01_Put.f (IntKind.u64.wrap (a0_0)) 1).bind fun t116=>((girderref01_Put.f (IntKind.u64.wrap (a0_1)) 4).bind fun t117=>(if t116.size + t117.size≤9223372036854775807 then ((girderref01_Put.f a0_2 8).bind fun t118=>(if (t116 ++ t117).size + t118.size≤9223372036854775807 then (if a0_0=2 then (girderref04_Bytes.j0 k ((t116 ++ t117) ++ t118) true a0_0 a0_1 a0_2 a0_3 a0_4 a0_5 a0_6 a0_7 a0_8 a0_9 a0_10 a0_11 a0_12 a0_13 a0_14 l0_15 l0_16) else (girderref04_Bytes.j0 k ((t116 ++ t117) ++ t118) (a0_0 == 3) a0_0 a0_1 a0_2 a0_3 a0_4 a0_5 a0_6 a0_7 a0_8 a0_9 a0_10 a0_11 a0_12 a0_13 a0_14 l0_15 l0_16)) else (none))) else (none))))=some r:=h
 clear h
 replace H:=Option.bind_eq_some_iff.mp H
 obtain ⟨t116,A20,H⟩:=H
 replace H : ((girderref01_Put.f (IntKind.u64.wrap (a0_1)) 4).bind fun t117=>(if t116.size + t117.size≤9223372036854775807 then ((girderref01_Put.f a0_2 8).bind fun t118=>(if (t116 ++ t117).size + t118.size≤9223372036854775807 then (if a0_0=2 then (girderref04_Bytes.j0 k ((t116 ++ t117) ++ t118) true a0_0 a0_1 a0_2 a0_3 a0_4 a0_5 a0_6 a0_7 a0_8 a0_9 a0_10 a0_11 a0_12 a0_13 a0_14 l0_15 l0_16) else (girderref04_Bytes.j0 k ((t116 ++ t117) ++ t118) (a0_0 == 3) a0_0 a0_1 a0_2 a0_3 a0_4 a0_5 a0_6 a0_7 a0_8 a0_9 a0_10 a0_11 a0_12 a0_13 a0_14 l0_15 l0_16)) else (none))) else (none)))=some r:=H
 have A2:=Aside0.mk A20
 clear A20
 replace H:=Option.bind_eq_some_iff.mp H
 obtain ⟨t117,A30,H⟩:=H
 replace H : (if t116.size + t117.size≤9223372036854775807 then ((girderref01_Put.f a0_2 8).bind fun t118=>(if (t116 ++ t117).size + t118.size≤9223372036854775807 then (if a0_0=2 then (girderref04_Bytes.j0 k ((t116 ++ t117) ++ t118) true a0_0 a0_1 a0_2 a0_3 a0_4 a0_5 a0_6 a0_7 a0_8 a0_9 a0_10 a0_11 a0_12 a0_13 a0_14 l0_15 l0_16) else (girderref04_Bytes.j0 k ((t116 ++ t117) ++ t118) (a0_0 == 3) a0_0 a0_1 a0_2 a0_3 a0_4 a0_5 a0_6 a0_7 a0_8 a0_9 a0_10 a0_11 a0_12 a0_13 a0_14 l0_15 l0_16)) else (none))) else (none))=some r:=H
 have A3:=Aside0.mk A30
 clear A30
 by_cases c4 : t116.size + t117.size≤9223372036854775807
 ·rw [if_pos c4] at H
  have c4b0:=eq_true c4
  have c4b1 : decide (t116.size + t117.size≤9223372036854775807)=true:=decide_eq_true c4
  try have c4b2 : (9223372036854775807 < t116.size + t117.size)=False:=eq_false (Nat.not_lt.2 c4)
  replace H:=Option.bind_eq_some_iff.mp H
  obtain ⟨t118,A50,H⟩:=H
  replace H : (if (t116 ++ t117).size + t118.size≤9223372036854775807 then (if a0_0=2 then (girderref04_Bytes.j0 k ((t116 ++ t117) ++ t118) true a0_0 a0_1 a0_2 a0_3 a0_4 a0_5 a0_6 a0_7 a0_8 a0_9 a0_10 a0_11 a0_12 a0_13 a0_14 l0_15 l0_16) else (girderref04_Bytes.j0 k ((t116 ++ t117) ++ t118) (a0_0 == 3) a0_0 a0_1 a0_2 a0_3 a0_4 a0_5 a0_6 a0_7 a0_8 a0_9 a0_10 a0_11 a0_12 a0_13 a0_14 l0_15 l0_16)) else (none))=some r:=H
  have A5:=Aside0.mk A50
  clear A50
  by_cases c6 : (t116 ++ t117).size + t118.size≤9223372036854775807
  ·rw [if_pos c6] at H
   have c6b0:=eq_true c6
   have c6b1 : decide ((t116 ++ t117).size + t118.size≤9223372036854775807)=true:=decide_eq_true c6
   try have c6b2 : (9223372036854775807 < (t116 ++ t117).size + t118.size)=False:=eq_false (Nat.not_lt.2 c6)
   try have c6b3:=c6b2
   try simp only [ByteArray.size_append] at c6b3
   have HC7:=Aside0.mk H
   clear H
   go_enter Try.func12,Try.ntmps12
   try go_wp2_with (first|((with_reducible refine gate_dst (N:=1) rfl ?_);refine box_event ?hg (N:=1) ?hd (cs:=#[.int .i64 a0_0,.int .i64 a0_1,.int .u64 a0_2,.int .u64 a0_3,.int .u32 a0_4,.int .i64 a0_5,.int .i64 a0_6,.string a0_7,.string a0_8,.int .i64 a0_9,.int .i64 a0_10,.string a0_11,.int .u32 a0_12,.int .i64 a0_13,.bool a0_14,.slice A0_15 l0_15.length c0_15,.slice A0_16 l0_16.length c0_16]) (t:=47) ?hr ?_;(case hd=>rfl);(case hg=>rfl);(case hr=>first|(go_simp;done)|(go_simp;rfl));intro gb115 hg w8 hbox hb;have n0_:=Aside0.mk (below_step (by repeat (first|(with_reducible first|exact HB.out|apply below_alloc|apply pw_below_drewN|apply below_drew1)|exact HB.out)) hb);have n1_:=Aside0.mk (hbox);have n2_:=Aside0.mk ((by rw [hg];exact (below_size (by repeat (first|(with_reducible first|exact HB.out|apply below_alloc|apply pw_below_drewN|apply below_drew1)|exact HB.out))) : w.heap.size≤gb115));have n3_:=Aside0.mk ((by rw [hg];exact (below_size (by repeat (first|(with_reducible first|exact HB.out|apply below_alloc|apply pw_below_drewN|apply below_drew1)|exact HB.out))) : w.heap.size≤gb115));clear HB;have HB:=n0_;have BK115:=n1_;have GW115:=n2_;have GE115:=n3_;clear n0_ n1_ n2_ n3_;clear hb hbox hg))
   have n0_:=Aside0.mk (blk_drew BK115.out)
   have n1_:=Aside0.mk (below_drew1 HB.out)
   clear BK115
   clear HB
   have BK115:=n0_
   have HB:=n1_
   clear n0_ n1_
   refine start_ (n:=14) (S:=fun w'=>w'.cell? ⟨gb115,0,none⟩=some (.int .i64 a0_0)∧w'.cell? ⟨gb115,1,none⟩=some (.int .i64 a0_1)∧w'.cell? ⟨gb115,2,none⟩=some (.int .u64 a0_2)∧w'.cell? ⟨gb115,3,none⟩=some (.int .u64 a0_3)∧w'.cell? ⟨gb115,4,none⟩=some (.int .u32 a0_4)∧w'.cell? ⟨gb115,5,none⟩=some (.int .i64 a0_5)∧w'.cell? ⟨gb115,6,none⟩=some (.int .i64 a0_6)∧w'.cell? ⟨gb115,7,none⟩=some (.string a0_7)∧w'.cell? ⟨gb115,8,none⟩=some (.string a0_8)∧w'.cell? ⟨gb115,9,none⟩=some (.int .i64 a0_9)∧w'.cell? ⟨gb115,10,none⟩=some (.int .i64 a0_10)∧w'.cell? ⟨gb115,11,none⟩=some (.string a0_11)∧w'.cell? ⟨gb115,12,none⟩=some (.int .u32 a0_12)∧w'.cell? ⟨gb115,13,none⟩=some (.int .i64 a0_13)∧w'.cell? ⟨gb115,14,none⟩=some (.bool a0_14)∧w'.cell? ⟨gb115,15,none⟩=some (.slice A0_15 l0_15.length c0_15)∧w'.cell? ⟨gb115,16,none⟩=some (.slice A0_16 l0_16.length c0_16)) (ds:=[]) #[false,false,false,false,false,false,false,false,false,false,false,false,false,false] (by kernel_rfl) rfl rfl ⟨(blk_cell BK115.out 0).trans rfl,(blk_cell BK115.out 1).trans rfl,(blk_cell BK115.out 2).trans rfl,(blk_cell BK115.out 3).trans rfl,(blk_cell BK115.out 4).trans rfl,(blk_cell BK115.out 5).trans rfl,(blk_cell BK115.out 6).trans rfl,(blk_cell BK115.out 7).trans rfl,(blk_cell BK115.out 8).trans rfl,(blk_cell BK115.out 9).trans rfl,(blk_cell BK115.out 10).trans rfl,(blk_cell BK115.out 11).trans rfl,(blk_cell BK115.out 12).trans rfl,(blk_cell BK115.out 13).trans rfl,(blk_cell BK115.out 14).trans rfl,(blk_cell BK115.out 15).trans rfl,(blk_cell BK115.out 16).trans rfl⟩ (fun hHeld=>?_);refine with_tabW girderref04_Bytes.tab1 girderref04_Bytes.bits1 (fun HT_ HW_=>?_)
   generalize w8.drew=w9 at BK115 HB hHeld ⊢
   refine pure_ (i:=0) (N:=some 8) (v:=?_) (a':=?_) #[true,false,false,false,false,false,false,false,false,false,false,false,false,false] rfl rfl (any_of HT_.out (by kernel_rfl)) (fun _ _ _ h=>h) (Or.inl ⟨by rfl,?_⟩) ?_ ?_;rotate_left;(focus (intro w';go_simp;with_reducible rfl));rotate_left;(focus (simp only [Act.put,sA_,sB_,sC_,i64_w,i32_w];rfl))
   refine pure_ (i:=4) (N:=some 12) (v:=?_) (a':=?_) #[true,false,false,false,true,false,false,false,false,false,false,false,false,false] rfl rfl (any_of HT_.out (by kernel_rfl)) (fun _ _ _ h=>h) (Or.inl ⟨by rfl,?_⟩) ?_ ?_;rotate_left;(focus (intro w';go_simp;with_reducible rfl));rotate_left;(focus (simp only [Act.put,sA_,sB_,sC_,i64_w,i32_w];rfl))
   refine pure_ (i:=9) (N:=some 17) (v:=?_) (a':=?_) #[true,false,false,false,true,false,false,false,false,true,false,false,false,false] rfl rfl (any_of HT_.out (by kernel_rfl)) (fun _ _ _ h=>h) (Or.inl ⟨by rfl,?_⟩) ?_ ?_;rotate_left;(focus (intro w';go_simp;with_reducible rfl));rotate_left;(focus (simp only [Act.put,sA_,sB_,sC_,i64_w,i32_w];rfl))
   refine take_ (i:=1) (N:=some 9) (v:=?_) (a':=?_) #[true,true,false,false,true,false,false,false,false,true,false,false,false,false] rfl rfl (take_ofW HT_.out HW_.out (by kernel_rfl)) (fun _ _ _ h=>h) (Or.inl ⟨by rfl,?_⟩) hHeld ?_ ?_;rotate_left;(focus (rintro w' ⟨s0,s1,s2,s3,s4,s5,s6,s7,s8,s9,s10,s11,s12,s13,s14,s15,s16⟩;go_simp;with_reducible rfl));rotate_left;(focus (simp only [Act.put,sA_,sB_,sC_,i64_w,i32_w];rfl))
   refine pure_ (i:=2) (N:=some 10) (v:=?_) (a':=?_) #[true,true,true,false,true,false,false,false,false,true,false,false,false,false] rfl rfl (any_of HT_.out (by kernel_rfl)) (fun _ _ _ h=>h) (Or.inl ⟨by rfl,?_⟩) ?_ ?_;rotate_left;(focus (intro w';go_simp;with_reducible rfl));rotate_left;(focus (simp only [Act.put,sA_,sB_,sC_,i64_w,i32_w];rfl))
   refine take_ (i:=5) (N:=some 13) (v:=?_) (a':=?_) #[true,true,true,false,true,true,false,false,false,true,false,false,false,false] rfl rfl (take_ofW HT_.out HW_.out (by kernel_rfl)) (fun _ _ _ h=>h) (Or.inl ⟨by rfl,?_⟩) hHeld ?_ ?_;rotate_left;(focus (rintro w' ⟨s0,s1,s2,s3,s4,s5,s6,s7,s8,s9,s10,s11,s12,s13,s14,s15,s16⟩;go_simp;with_reducible rfl));rotate_left;(focus (simp only [Act.put,sA_,sB_,sC_,i64_w,i32_w];rfl))
   refine pure_ (i:=6) (N:=some 14) (v:=?_) (a':=?_) #[true,true,true,false,true,true,true,false,false,true,false,false,false,false] rfl rfl (any_of HT_.out (by kernel_rfl)) (fun _ _ _ h=>h) (Or.inl ⟨by rfl,?_⟩) ?_ ?_;rotate_left;(focus (intro w';go_simp;with_reducible rfl));rotate_left;(focus (simp only [Act.put,sA_,sB_,sC_,i64_w,i32_w];rfl))
   refine take_ (i:=10) (N:=some 18) (v:=?_) (a':=?_) #[true,true,true,false,true,true,true,false,false,true,true,false,false,false] rfl rfl (take_ofW HT_.out HW_.out (by kernel_rfl)) (fun _ _ _ h=>h) (Or.inl ⟨by rfl,?_⟩) hHeld ?_ ?_;rotate_left;(focus (rintro w' ⟨s0,s1,s2,s3,s4,s5,s6,s7,s8,s9,s10,s11,s12,s13,s14,s15,s16⟩;go_simp;with_reducible rfl));rotate_left;(focus (simp only [Act.put,sA_,sB_,sC_,i64_w,i32_w];rfl))
   refine one_ (i:=3) (N:=some 11) #[true,true,true,true,true,true,true,false,false,true,true,false,false,false] rfl rfl (one_of HT_.out (by kernel_rfl)) (by decide) (fun K hK=>?_)
   refine goes_ Try.func32 (by kernel_rfl) rfl #[.int .u64 (IntKind.u64.wrap (a0_0)),.int .i64 1] (by rfl) rfl rfl (by (try simp only [List.map_toArray,List.map_cons,List.map_nil]);first|done|rfl|(simp only [List.length_drop,List.length_take];rfl)) ?_
   with_reducible refine (girderref01_Put.calls (IntKind.u64.wrap (a0_0)) 1 t116 _ A2.out).mono ?_
   rintro e w10 ⟨rfl,hb⟩
   refine ⟨_,rfl,?_⟩
   have n0_:=Aside0.mk (blk_below (g:=gb115) (o:=.cells #[.int .i64 a0_0,.int .i64 a0_1,.int .u64 a0_2,.int .u64 a0_3,.int .u32 a0_4,.int .i64 a0_5,.int .i64 a0_6,.string a0_7,.string a0_8,.int .i64 a0_9,.int .i64 a0_10,.string a0_11,.int .u32 a0_12,.int .i64 a0_13,.bool a0_14,.slice A0_15 l0_15.length c0_15,.slice A0_16 l0_16.length c0_16] 47 (0,0)) (by (with_reducible repeat (first|refine blk_drewN ?_ _|refine blk_drew ?_|refine blk_alloc ?_ _));exact BK115.out) hb)
   have n1_:=Aside0.mk (below_step (by repeat (first|(with_reducible first|exact HB.out|apply below_alloc|apply pw_below_drewN|apply below_drew1|refine below_set ?_ GE115.out)|exact HB.out)) hb)
   clear BK115
   clear HB
   have BK115:=n0_
   have HB:=n1_
   clear n0_ n1_
   (try clear hb)
   (try clear hb2)
   (try clear hk)
   (try clear hi)
   refine hK.out _ _ ⟨(blk_cell BK115.out 0).trans rfl,(blk_cell BK115.out 1).trans rfl,(blk_cell BK115.out 2).trans rfl,(blk_cell BK115.out 3).trans rfl,(blk_cell BK115.out 4).trans rfl,(blk_cell BK115.out 5).trans rfl,(blk_cell BK115.out 6).trans rfl,(blk_cell BK115.out 7).trans rfl,(blk_cell BK115.out 8).trans rfl,(blk_cell BK115.out 9).trans rfl,(blk_cell BK115.out 10).trans rfl,(blk_cell BK115.out 11).trans rfl,(blk_cell BK115.out 12).trans rfl,(blk_cell BK115.out 13).trans rfl,(blk_cell BK115.out 14).trans rfl,(blk_cell BK115.out 15).trans rfl,(blk_cell BK115.out 16).trans rfl⟩ (fun hHeld=>?_)
   clear hK K
   refine norm_ (a':=?_) ?_ ?_
   rotate_left
   ·show Act.put _ (some 11) _=_
    simp only [Act.put,sA_,sB_,sC_,i64_w,i32_w]
    rfl
   refine one_ (i:=7) (N:=some 15) #[true,true,true,true,true,true,true,true,false,true,true,false,false,false] rfl rfl (one_of HT_.out (by kernel_rfl)) (by decide) (fun K hK=>?_)
   refine goes_ Try.func32 (by kernel_rfl) rfl #[.int .u64 (IntKind.u64.wrap (a0_1)),.int .i64 4] (by rfl) rfl rfl (by (try simp only [List.map_toArray,List.map_cons,List.map_nil]);first|done|rfl|(simp only [List.length_drop,List.length_take];rfl)) ?_
   with_reducible refine (girderref01_Put.calls (IntKind.u64.wrap (a0_1)) 4 t117 _ A3.out).mono ?_
   rintro e w11 ⟨rfl,hb⟩
   refine ⟨_,rfl,?_⟩
   have n0_:=Aside0.mk (blk_below (g:=gb115) (o:=.cells #[.int .i64 a0_0,.int .i64 a0_1,.int .u64 a0_2,.int .u64 a0_3,.int .u32 a0_4,.int .i64 a0_5,.int .i64 a0_6,.string a0_7,.string a0_8,.int .i64 a0_9,.int .i64 a0_10,.string a0_11,.int .u32 a0_12,.int .i64 a0_13,.bool a0_14,.slice A0_15 l0_15.length c0_15,.slice A0_16 l0_16.length c0_16] 47 (0,0)) (by (with_reducible repeat (first|refine blk_drewN ?_ _|refine blk_drew ?_|refine blk_alloc ?_ _));exact BK115.out) hb)
   have n1_:=Aside0.mk (below_step (by repeat (first|(with_reducible first|exact HB.out|apply below_alloc|apply pw_below_drewN|apply below_drew1|refine below_set ?_ GE115.out)|exact HB.out)) hb)
   clear BK115
   clear HB
   have BK115:=n0_
   have HB:=n1_
   clear n0_ n1_
   (try clear hb)
   (try clear hb2)
   (try clear hk)
   (try clear hi)
   refine hK.out _ _ ⟨(blk_cell BK115.out 0).trans rfl,(blk_cell BK115.out 1).trans rfl,(blk_cell BK115.out 2).trans rfl,(blk_cell BK115.out 3).trans rfl,(blk_cell BK115.out 4).trans rfl,(blk_cell BK115.out 5).trans rfl,(blk_cell BK115.out 6).trans rfl,(blk_cell BK115.out 7).trans rfl,(blk_cell BK115.out 8).trans rfl,(blk_cell BK115.out 9).trans rfl,(blk_cell BK115.out 10).trans rfl,(blk_cell BK115.out 11).trans rfl,(blk_cell BK115.out 12).trans rfl,(blk_cell BK115.out 13).trans rfl,(blk_cell BK115.out 14).trans rfl,(blk_cell BK115.out 15).trans rfl,(blk_cell BK115.out 16).trans rfl⟩ (fun hHeld=>?_)
   clear hK K
   refine norm_ (a':=?_) ?_ ?_
   rotate_left
   ·show Act.put _ (some 15) _=_
    simp only [Act.put,sA_,sB_,sC_,i64_w,i32_w]
    rfl
   refine pure_ (i:=8) (N:=some 16) (v:=?_) (a':=?_) #[true,true,true,true,true,true,true,true,true,true,true,false,false,false] rfl rfl (any_of HT_.out (by kernel_rfl)) (fun _ _ _ h=>h) (Or.inl ⟨by rfl,?_⟩) ?_ ?_;rotate_left;(focus (intro w';go_simp;with_reducible rfl));rotate_left;(focus (simp only [Act.put,sA_,sB_,sC_,i64_w,i32_w];rfl))
   refine one_ (i:=11) (N:=some 19) #[true,true,true,true,true,true,true,true,true,true,true,true,false,false] rfl rfl (one_of HT_.out (by kernel_rfl)) (by decide) (fun K hK=>?_)
   refine goes_ Try.func32 (by kernel_rfl) rfl #[.int .u64 a0_2,.int .i64 8] (by rfl) rfl rfl (by (try simp only [List.map_toArray,List.map_cons,List.map_nil]);first|done|rfl|(simp only [List.length_drop,List.length_take];rfl)) ?_
   with_reducible refine (girderref01_Put.calls a0_2 8 t118 _ A5.out).mono ?_
   rintro e w12 ⟨rfl,hb⟩
   refine ⟨_,rfl,?_⟩
   have n0_:=Aside0.mk (blk_below (g:=gb115) (o:=.cells #[.int .i64 a0_0,.int .i64 a0_1,.int .u64 a0_2,.int .u64 a0_3,.int .u32 a0_4,.int .i64 a0_5,.int .i64 a0_6,.string a0_7,.string a0_8,.int .i64 a0_9,.int .i64 a0_10,.string a0_11,.int .u32 a0_12,.int .i64 a0_13,.bool a0_14,.slice A0_15 l0_15.length c0_15,.slice A0_16 l0_16.length c0_16] 47 (0,0)) (by (with_reducible repeat (first|refine blk_drewN ?_ _|refine blk_drew ?_|refine blk_alloc ?_ _));exact BK115.out) hb)
   have n1_:=Aside0.mk (below_step (by repeat (first|(with_reducible first|exact HB.out|apply below_alloc|apply pw_below_drewN|apply below_drew1|refine below_set ?_ GE115.out)|exact HB.out)) hb)
   clear BK115
   clear HB
   have BK115:=n0_
   have HB:=n1_
   clear n0_ n1_
   (try clear hb)
   (try clear hb2)
   (try clear hk)
   (try clear hi)
   refine hK.out _ _ ⟨(blk_cell BK115.out 0).trans rfl,(blk_cell BK115.out 1).trans rfl,(blk_cell BK115.out 2).trans rfl,(blk_cell BK115.out 3).trans rfl,(blk_cell BK115.out 4).trans rfl,(blk_cell BK115.out 5).trans rfl,(blk_cell BK115.out 6).trans rfl,(blk_cell BK115.out 7).trans rfl,(blk_cell BK115.out 8).trans rfl,(blk_cell BK115.out 9).trans rfl,(blk_cell BK115.out 10).trans rfl,(blk_cell BK115.out 11).trans rfl,(blk_cell BK115.out 12).trans rfl,(blk_cell BK115.out 13).trans rfl,(blk_cell BK115.out 14).trans rfl,(blk_cell BK115.out 15).trans rfl,(blk_cell BK115.out 16).trans rfl⟩ (fun hHeld=>?_)
   clear hK K
   refine norm_ (a':=?_) ?_ ?_
   rotate_left
   ·show Act.put _ (some 19) _=_
    simp only [Act.put,sA_,sB_,sC_,i64_w,i32_w]
    rfl
   refine pure_ (i:=12) (N:=some 20) (v:=?_) (a':=?_) #[true,true,true,true,true,true,true,true,true,true,true,true,true,false] rfl rfl (any_of HT_.out (by kernel_rfl)) (fun _ _ _ h=>h) (Or.inl ⟨by rfl,?_⟩) ?_ ?_;rotate_left;(focus (intro w';go_simp;with_reducible rfl));rotate_left;(focus (simp only [Act.put,sA_,sB_,sC_,i64_w,i32_w];rfl))
   refine pure_ (i:=13) (N:=some 3) (v:=?_) (a':=?_) #[true,true,true,true,true,true,true,true,true,true,true,true,true,true] rfl rfl (any_of HT_.out (by kernel_rfl)) (fun _ _ _ h=>h) (Or.inl ⟨by rfl,?_⟩) ?_ ?_;rotate_left;(focus (intro w';go_simp;with_reducible rfl));rotate_left;(focus (simp only [Act.put,sA_,sB_,sC_,i64_w,i32_w];rfl))
   refine done_ (done_of HT_.out (by kernel_rfl)) ?_
   go_upto_region 2 with (fail)
   go_cut [28] from 21 to 27 (fun v28 wc=>∃ (kq : Nat) (x28_6 : Bool),v28=.bool x28_6∧Aside0 (girderref04_Bytes.j0 kq ((t116 ++ t117) ++ t118) x28_6 a0_0 a0_1 a0_2 a0_3 a0_4 a0_5 a0_6 a0_7 a0_8 a0_9 a0_10 a0_11 a0_12 a0_13 a0_14 l0_15 l0_16=some r)∧Aside0 (kq≤k)∧Aside0 (wc.heap[gb115]?=some (.cells #[.int .i64 a0_0,.int .i64 a0_1,.int .u64 a0_2,.int .u64 a0_3,.int .u32 a0_4,.int .i64 a0_5,.int .i64 a0_6,.string a0_7,.string a0_8,.int .i64 a0_9,.int .i64 a0_10,.string a0_11,.int .u32 a0_12,.int .i64 a0_13,.bool a0_14,(.slice A0_15 l0_15.length c0_15),(.slice A0_16 l0_16.length c0_16)] 47 (0,0)))∧Aside0 (Below w.heap.size w wc))
   case first =>
    have H:=HC7.out
    clear HC7
    by_cases c13 : a0_0=2
    ·rw [if_pos c13] at H
     have c13b0 : (a0_0 == 2)=true:=beq_iff_eq.mpr c13
     have c13b1 : (a0_0 != 2)=false:=bne_eq_false_iff_eq.mpr c13
     clear c13
     (first|rw [c13b0]|(simp only [i64_w,i32_w];rw [c13b0])|skip)
     have H':=Aside0.mk H
     clear H
     have hcz14_0 : w12.cell? ⟨gb115,0,none⟩=some (.int .i64 a0_0):=(blk_cell BK115.out 0).trans rfl
     have hcz14_1 : w12.cell? ⟨gb115,1,none⟩=some (.int .i64 a0_1):=(blk_cell BK115.out 1).trans rfl
     have hcz14_2 : w12.cell? ⟨gb115,2,none⟩=some (.int .u64 a0_2):=(blk_cell BK115.out 2).trans rfl
     have hcz14_3 : w12.cell? ⟨gb115,3,none⟩=some (.int .u64 a0_3):=(blk_cell BK115.out 3).trans rfl
     have hcz14_4 : w12.cell? ⟨gb115,4,none⟩=some (.int .u32 a0_4):=(blk_cell BK115.out 4).trans rfl
     have hcz14_5 : w12.cell? ⟨gb115,5,none⟩=some (.int .i64 a0_5):=(blk_cell BK115.out 5).trans rfl
     have hcz14_6 : w12.cell? ⟨gb115,6,none⟩=some (.int .i64 a0_6):=(blk_cell BK115.out 6).trans rfl
     have hcz14_7 : w12.cell? ⟨gb115,7,none⟩=some (.string a0_7):=(blk_cell BK115.out 7).trans rfl
     have hcz14_8 : w12.cell? ⟨gb115,8,none⟩=some (.string a0_8):=(blk_cell BK115.out 8).trans rfl
     have hcz14_9 : w12.cell? ⟨gb115,9,none⟩=some (.int .i64 a0_9):=(blk_cell BK115.out 9).trans rfl
     have hcz14_10 : w12.cell? ⟨gb115,10,none⟩=some (.int .i64 a0_10):=(blk_cell BK115.out 10).trans rfl
     have hcz14_11 : w12.cell? ⟨gb115,11,none⟩=some (.string a0_11):=(blk_cell BK115.out 11).trans rfl
     have hcz14_12 : w12.cell? ⟨gb115,12,none⟩=some (.int .u32 a0_12):=(blk_cell BK115.out 12).trans rfl
     have hcz14_13 : w12.cell? ⟨gb115,13,none⟩=some (.int .i64 a0_13):=(blk_cell BK115.out 13).trans rfl
     have hcz14_14 : w12.cell? ⟨gb115,14,none⟩=some (.bool a0_14):=(blk_cell BK115.out 14).trans rfl
     have hcz14_15 : w12.cell? ⟨gb115,15,none⟩=some (.slice A0_15 l0_15.length c0_15):=(blk_cell BK115.out 15).trans rfl
     have hcz14_16 : w12.cell? ⟨gb115,16,none⟩=some (.slice A0_16 l0_16.length c0_16):=(blk_cell BK115.out 16).trans rfl
     have hfz14_0:=blk_frozen BK115.out 0
     have hfz14_1:=blk_frozen BK115.out 1
     have hfz14_2:=blk_frozen BK115.out 2
     have hfz14_3:=blk_frozen BK115.out 3
     have hfz14_4:=blk_frozen BK115.out 4
     have hfz14_5:=blk_frozen BK115.out 5
     have hfz14_6:=blk_frozen BK115.out 6
     have hfz14_7:=blk_frozen BK115.out 7
     have hfz14_8:=blk_frozen BK115.out 8
     have hfz14_9:=blk_frozen BK115.out 9
     have hfz14_10:=blk_frozen BK115.out 10
     have hfz14_11:=blk_frozen BK115.out 11
     have hfz14_12:=blk_frozen BK115.out 12
     have hfz14_13:=blk_frozen BK115.out 13
     have hfz14_14:=blk_frozen BK115.out 14
     have hfz14_15:=blk_frozen BK115.out 15
     have hfz14_16:=blk_frozen BK115.out 16
     go_wp2
     go_meet
     case rel=>exact ⟨_,(true),(by first|rfl|(simp;done)|(simp [*];done)),H',⟨by first|omega|exact Nat.le_refl _⟩,⟨by (with_reducible repeat (first|refine blk_drewN ?_ _|refine blk_drew ?_|refine blk_alloc ?_ _));exact BK115.out⟩,⟨by repeat (first|(with_reducible first|exact HB.out|apply below_alloc|apply pw_below_drewN|apply below_drew1|refine below_set ?_ GE115.out)|exact HB.out)⟩⟩
    ·rw [if_neg c13] at H
     have c13b0 : (a0_0 == 2)=false:=beq_eq_false_iff_ne.mpr c13
     have c13b1 : (a0_0 != 2)=true:=bne_iff_ne.mpr c13
     (first|rw [c13b0]|(simp only [i64_w,i32_w];rw [c13b0])|skip)
     have H':=Aside0.mk H
     clear H
     have hcz15_0 : w12.cell? ⟨gb115,0,none⟩=some (.int .i64 a0_0):=(blk_cell BK115.out 0).trans rfl
     have hcz15_1 : w12.cell? ⟨gb115,1,none⟩=some (.int .i64 a0_1):=(blk_cell BK115.out 1).trans rfl
     have hcz15_2 : w12.cell? ⟨gb115,2,none⟩=some (.int .u64 a0_2):=(blk_cell BK115.out 2).trans rfl
     have hcz15_3 : w12.cell? ⟨gb115,3,none⟩=some (.int .u64 a0_3):=(blk_cell BK115.out 3).trans rfl
     have hcz15_4 : w12.cell? ⟨gb115,4,none⟩=some (.int .u32 a0_4):=(blk_cell BK115.out 4).trans rfl
     have hcz15_5 : w12.cell? ⟨gb115,5,none⟩=some (.int .i64 a0_5):=(blk_cell BK115.out 5).trans rfl
     have hcz15_6 : w12.cell? ⟨gb115,6,none⟩=some (.int .i64 a0_6):=(blk_cell BK115.out 6).trans rfl
     have hcz15_7 : w12.cell? ⟨gb115,7,none⟩=some (.string a0_7):=(blk_cell BK115.out 7).trans rfl
     have hcz15_8 : w12.cell? ⟨gb115,8,none⟩=some (.string a0_8):=(blk_cell BK115.out 8).trans rfl
     have hcz15_9 : w12.cell? ⟨gb115,9,none⟩=some (.int .i64 a0_9):=(blk_cell BK115.out 9).trans rfl
     have hcz15_10 : w12.cell? ⟨gb115,10,none⟩=some (.int .i64 a0_10):=(blk_cell BK115.out 10).trans rfl
     have hcz15_11 : w12.cell? ⟨gb115,11,none⟩=some (.string a0_11):=(blk_cell BK115.out 11).trans rfl
     have hcz15_12 : w12.cell? ⟨gb115,12,none⟩=some (.int .u32 a0_12):=(blk_cell BK115.out 12).trans rfl
     have hcz15_13 : w12.cell? ⟨gb115,13,none⟩=some (.int .i64 a0_13):=(blk_cell BK115.out 13).trans rfl
     have hcz15_14 : w12.cell? ⟨gb115,14,none⟩=some (.bool a0_14):=(blk_cell BK115.out 14).trans rfl
     have hcz15_15 : w12.cell? ⟨gb115,15,none⟩=some (.slice A0_15 l0_15.length c0_15):=(blk_cell BK115.out 15).trans rfl
     have hcz15_16 : w12.cell? ⟨gb115,16,none⟩=some (.slice A0_16 l0_16.length c0_16):=(blk_cell BK115.out 16).trans rfl
     have hfz15_0:=blk_frozen BK115.out 0
     have hfz15_1:=blk_frozen BK115.out 1
     have hfz15_2:=blk_frozen BK115.out 2
     have hfz15_3:=blk_frozen BK115.out 3
     have hfz15_4:=blk_frozen BK115.out 4
     have hfz15_5:=blk_frozen BK115.out 5
     have hfz15_6:=blk_frozen BK115.out 6
     have hfz15_7:=blk_frozen BK115.out 7
     have hfz15_8:=blk_frozen BK115.out 8
     have hfz15_9:=blk_frozen BK115.out 9
     have hfz15_10:=blk_frozen BK115.out 10
     have hfz15_11:=blk_frozen BK115.out 11
     have hfz15_12:=blk_frozen BK115.out 12
     have hfz15_13:=blk_frozen BK115.out 13
     have hfz15_14:=blk_frozen BK115.out 14
     have hfz15_15:=blk_frozen BK115.out 15
     have hfz15_16:=blk_frozen BK115.out 16
     go_wp2
     go_meet
     case rel=>exact ⟨_,((a0_0 == 3)),(by first|rfl|(simp;done)|(simp [*];done)),H',⟨by first|omega|exact Nat.le_refl _⟩,⟨by (with_reducible repeat (first|refine blk_drewN ?_ _|refine blk_drew ?_|refine blk_alloc ?_ _));exact BK115.out⟩,⟨by repeat (first|(with_reducible first|exact HB.out|apply below_alloc|apply pw_below_drewN|apply below_drew1|refine below_set ?_ GE115.out)|exact HB.out)⟩⟩
   case rest =>
    clear HC7
    try clear c1
    try clear p2
    try clear c3
    try clear c4
    try clear c4b0
    try clear c4b1
    try clear c4b2
    try clear c6
    try clear c6b0
    try clear c6b1
    try clear c6b2
    try clear c12
    try clear c13
    try clear c13b0
    try clear c13b1
    try clear hcz14_0
    try clear hcz14_1
    try clear hcz14_10
    try clear hcz14_11
    try clear hcz14_12
    try clear hcz14_13
    try clear hcz14_14
    try clear hcz14_15
    try clear hcz14_16
    try clear hcz14_2
    try clear hcz14_3
    try clear hcz14_4
    try clear hcz14_5
    try clear hcz14_6
    try clear hcz14_7
    try clear hcz14_8
    try clear hcz14_9
    try clear hcz15_0
    try clear hcz15_1
    try clear hcz15_10
    try clear hcz15_11
    try clear hcz15_12
    try clear hcz15_13
    try clear hcz15_14
    try clear hcz15_15
    try clear hcz15_16
    try clear hcz15_2
    try clear hcz15_3
    try clear hcz15_4
    try clear hcz15_5
    try clear hcz15_6
    try clear hcz15_7
    try clear hcz15_8
    try clear hcz15_9
    try clear hfz14_0
    try clear hfz14_1
    try clear hfz14_10
    try clear hfz14_11
    try clear hfz14_12
    try clear hfz14_13
    try clear hfz14_14
    try clear hfz14_15
    try clear hfz14_16
    try clear hfz14_2
    try clear hfz14_3
    try clear hfz14_4
    try clear hfz14_5
    try clear hfz14_6
    try clear hfz14_7
    try clear hfz14_8
    try clear hfz14_9
    try clear hfz15_0
    try clear hfz15_1
    try clear hfz15_10
    try clear hfz15_11
    try clear hfz15_12
    try clear hfz15_13
    try clear hfz15_14
    try clear hfz15_15
    try clear hfz15_16
    try clear hfz15_2
    try clear hfz15_3
    try clear hfz15_4
    try clear hfz15_5
    try clear hfz15_6
    try clear hfz15_7
    try clear hfz15_8
    try clear hfz15_9
    obtain ⟨kq,x28_6,rfl,HA,HJ6,BK115,HB⟩:=hcut
    cases kq with
    | zero=>exact absurd HA.out (by simp [girderref04_Bytes.j0])
    | succ kj6 =>
     have H:=HA.out
     clear HA
     simp only [girderref04_Bytes.j0] at H
     have HC16:=Aside0.mk H
     clear H
     go_upto_if 28 with (fail)
     go_cut [3] from 29 to 33 (fun v3 wc=>∃ (kq : Nat) (x3_15 : ByteArray),v3=.string x3_15∧Aside0 (girderref04_Bytes.j1 kq x3_15 a0_0 a0_1 a0_2 a0_3 a0_4 a0_5 a0_6 a0_7 a0_8 a0_9 a0_10 a0_11 a0_12 a0_13 a0_14 l0_15 l0_16=some r)∧Aside0 (kq≤kj6)∧Aside0 (wc.heap[gb115]?=some (.cells #[.int .i64 a0_0,.int .i64 a0_1,.int .u64 a0_2,.int .u64 a0_3,.int .u32 a0_4,.int .i64 a0_5,.int .i64 a0_6,.string a0_7,.string a0_8,.int .i64 a0_9,.int .i64 a0_10,.string a0_11,.int .u32 a0_12,.int .i64 a0_13,.bool a0_14,(.slice A0_15 l0_15.length c0_15),(.slice A0_16 l0_16.length c0_16)] 47 (0,0)))∧Aside0 (Below w.heap.size w wc))
     case first =>
      have H:=HC16.out
      clear HC16
      by_cases c17 : x28_6=true
      ·subst c17
       have H1 : ((girderref01_Put.f a0_3 8).bind fun t119=>(if ((t116 ++ t117) ++ t118).size + t119.size≤9223372036854775807 then (girderref04_Bytes.j1 kj6 (((t116 ++ t117) ++ t118) ++ t119) a0_0 a0_1 a0_2 a0_3 a0_4 a0_5 a0_6 a0_7 a0_8 a0_9 a0_10 a0_11 a0_12 a0_13 a0_14 l0_15 l0_16) else (none)))=some r:=by rw [if_pos rfl] at H;exact H
       clear H
       have H:=H1
       clear H1
       replace H:=Option.bind_eq_some_iff.mp H
       obtain ⟨t119,A180,H⟩:=H
       replace H : (if ((t116 ++ t117) ++ t118).size + t119.size≤9223372036854775807 then (girderref04_Bytes.j1 kj6 (((t116 ++ t117) ++ t118) ++ t119) a0_0 a0_1 a0_2 a0_3 a0_4 a0_5 a0_6 a0_7 a0_8 a0_9 a0_10 a0_11 a0_12 a0_13 a0_14 l0_15 l0_16) else (none))=some r:=H
       have A18:=Aside0.mk A180
       clear A180
       by_cases c19 : ((t116 ++ t117) ++ t118).size + t119.size≤9223372036854775807
       ·rw [if_pos c19] at H
        have c19b0:=eq_true c19
        have c19b1 : decide (((t116 ++ t117) ++ t118).size + t119.size≤9223372036854775807)=true:=decide_eq_true c19
        try have c19b2 : (9223372036854775807 < ((t116 ++ t117) ++ t118).size + t119.size)=False:=eq_false (Nat.not_lt.2 c19)
        try have c19b3:=c19b2
        try simp only [ByteArray.size_append] at c19b3
        have H':=Aside0.mk H
        clear H
        have hcz20_0 : wc.cell? ⟨gb115,0,none⟩=some (.int .i64 a0_0):=(blk_cell BK115.out 0).trans rfl
        have hcz20_1 : wc.cell? ⟨gb115,1,none⟩=some (.int .i64 a0_1):=(blk_cell BK115.out 1).trans rfl
        have hcz20_2 : wc.cell? ⟨gb115,2,none⟩=some (.int .u64 a0_2):=(blk_cell BK115.out 2).trans rfl
        have hcz20_3 : wc.cell? ⟨gb115,3,none⟩=some (.int .u64 a0_3):=(blk_cell BK115.out 3).trans rfl
        have hcz20_4 : wc.cell? ⟨gb115,4,none⟩=some (.int .u32 a0_4):=(blk_cell BK115.out 4).trans rfl
        have hcz20_5 : wc.cell? ⟨gb115,5,none⟩=some (.int .i64 a0_5):=(blk_cell BK115.out 5).trans rfl
        have hcz20_6 : wc.cell? ⟨gb115,6,none⟩=some (.int .i64 a0_6):=(blk_cell BK115.out 6).trans rfl
        have hcz20_7 : wc.cell? ⟨gb115,7,none⟩=some (.string a0_7):=(blk_cell BK115.out 7).trans rfl
        have hcz20_8 : wc.cell? ⟨gb115,8,none⟩=some (.string a0_8):=(blk_cell BK115.out 8).trans rfl
        have hcz20_9 : wc.cell? ⟨gb115,9,none⟩=some (.int .i64 a0_9):=(blk_cell BK115.out 9).trans rfl
        have hcz20_10 : wc.cell? ⟨gb115,10,none⟩=some (.int .i64 a0_10):=(blk_cell BK115.out 10).trans rfl
        have hcz20_11 : wc.cell? ⟨gb115,11,none⟩=some (.string a0_11):=(blk_cell BK115.out 11).trans rfl
        have hcz20_12 : wc.cell? ⟨gb115,12,none⟩=some (.int .u32 a0_12):=(blk_cell BK115.out 12).trans rfl
        have hcz20_13 : wc.cell? ⟨gb115,13,none⟩=some (.int .i64 a0_13):=(blk_cell BK115.out 13).trans rfl
        have hcz20_14 : wc.cell? ⟨gb115,14,none⟩=some (.bool a0_14):=(blk_cell BK115.out 14).trans rfl
        have hcz20_15 : wc.cell? ⟨gb115,15,none⟩=some (.slice A0_15 l0_15.length c0_15):=(blk_cell BK115.out 15).trans rfl
        have hcz20_16 : wc.cell? ⟨gb115,16,none⟩=some (.slice A0_16 l0_16.length c0_16):=(blk_cell BK115.out 16).trans rfl
        have hfz20_0:=blk_frozen BK115.out 0
        have hfz20_1:=blk_frozen BK115.out 1
        have hfz20_2:=blk_frozen BK115.out 2
        have hfz20_3:=blk_frozen BK115.out 3
        have hfz20_4:=blk_frozen BK115.out 4
        have hfz20_5:=blk_frozen BK115.out 5
        have hfz20_6:=blk_frozen BK115.out 6
        have hfz20_7:=blk_frozen BK115.out 7
        have hfz20_8:=blk_frozen BK115.out 8
        have hfz20_9:=blk_frozen BK115.out 9
        have hfz20_10:=blk_frozen BK115.out 10
        have hfz20_11:=blk_frozen BK115.out 11
        have hfz20_12:=blk_frozen BK115.out 12
        have hfz20_13:=blk_frozen BK115.out 13
        have hfz20_14:=blk_frozen BK115.out 14
        have hfz20_15:=blk_frozen BK115.out 15
        have hfz20_16:=blk_frozen BK115.out 16
        go_wp2_with (first|((with_reducible refine gate_callee (f:=32) rfl ?_);refine goesL_ (some 32) rfl rfl Try.func32 (by kernel_rfl) rfl #[.int .u64 a0_3,.int .i64 8] rfl (by (try simp only [List.map_toArray,List.map_cons,List.map_nil]);first|done|rfl|(simp only [List.length_drop,List.length_take];rfl)) ?_;(with_reducible refine (girderref01_Put.calls a0_3 8 t119 _ A18.out).mono ?_);rintro e w21 ⟨rfl,hb⟩;refine ⟨_,rfl,?_⟩;have n0_:=Aside0.mk (blk_below (g:=gb115) (o:=.cells #[.int .i64 a0_0,.int .i64 a0_1,.int .u64 a0_2,.int .u64 a0_3,.int .u32 a0_4,.int .i64 a0_5,.int .i64 a0_6,.string a0_7,.string a0_8,.int .i64 a0_9,.int .i64 a0_10,.string a0_11,.int .u32 a0_12,.int .i64 a0_13,.bool a0_14,.slice A0_15 l0_15.length c0_15,.slice A0_16 l0_16.length c0_16] 47 (0,0)) (by (with_reducible repeat (first|refine blk_drewN ?_ _|refine blk_drew ?_|refine blk_alloc ?_ _));exact BK115.out) hb);have n1_:=Aside0.mk (below_step (by repeat (first|(with_reducible first|exact HB.out|apply below_alloc|apply pw_below_drewN|apply below_drew1|refine below_set ?_ GE115.out)|exact HB.out)) hb);clear BK115;clear HB;have BK115:=n0_;have HB:=n1_;clear n0_ n1_;(try clear hb);(try clear hb2);(try clear hk);(try clear hi)))
        go_meet
        case rel=>exact ⟨_,(((t116 ++ t117) ++ t118) ++ t119),(by first|rfl|(simp;done)|(simp [*];done)),H',⟨by have:=HJ6.out;first|omega|exact Nat.le_refl _⟩,⟨by (with_reducible repeat (first|refine blk_drewN ?_ _|refine blk_drew ?_|refine blk_alloc ?_ _));exact BK115.out⟩,⟨by repeat (first|(with_reducible first|exact HB.out|apply below_alloc|apply pw_below_drewN|apply below_drew1|refine below_set ?_ GE115.out)|exact HB.out)⟩⟩
       ·rw [if_neg c19] at H
        exact absurd H (by simp)
      ·replace c17:=Bool.eq_false_iff.mpr c17
       subst c17
       have H1 : (girderref04_Bytes.j1 kj6 ((t116 ++ t117) ++ t118) a0_0 a0_1 a0_2 a0_3 a0_4 a0_5 a0_6 a0_7 a0_8 a0_9 a0_10 a0_11 a0_12 a0_13 a0_14 l0_15 l0_16)=some r:=by rw [if_neg (show ¬ (false=true) by decide)] at H;exact H
       clear H
       have H:=H1
       clear H1
       have H':=Aside0.mk H
       clear H
       go_wp2
       go_meet
       case rel=>exact ⟨_,(((t116 ++ t117) ++ t118)),(by first|rfl|(simp;done)|(simp [*];done)),H',⟨by have:=HJ6.out;first|omega|exact Nat.le_refl _⟩,⟨by (with_reducible repeat (first|refine blk_drewN ?_ _|refine blk_drew ?_|refine blk_alloc ?_ _));exact BK115.out⟩,⟨by repeat (first|(with_reducible first|exact HB.out|apply below_alloc|apply pw_below_drewN|apply below_drew1|refine below_set ?_ GE115.out)|exact HB.out)⟩⟩
     case rest =>
      clear HC16
      try clear c1
      try clear p2
      try clear c3
      try clear c4
      try clear c4b0
      try clear c4b1
      try clear c4b2
      try clear c6
      try clear c6b0
      try clear c6b1
      try clear c6b2
      try clear c12
      try clear c13
      try clear c13b0
      try clear c13b1
      try clear c17
      try clear c19
      try clear c19b0
      try clear c19b1
      try clear c19b2
      try clear hcz14_0
      try clear hcz14_1
      try clear hcz14_10
      try clear hcz14_11
      try clear hcz14_12
      try clear hcz14_13
      try clear hcz14_14
      try clear hcz14_15
      try clear hcz14_16
      try clear hcz14_2
      try clear hcz14_3
      try clear hcz14_4
      try clear hcz14_5
      try clear hcz14_6
      try clear hcz14_7
      try clear hcz14_8
      try clear hcz14_9
      try clear hcz15_0
      try clear hcz15_1
      try clear hcz15_10
      try clear hcz15_11
      try clear hcz15_12
      try clear hcz15_13
      try clear hcz15_14
      try clear hcz15_15
      try clear hcz15_16
      try clear hcz15_2
      try clear hcz15_3
      try clear hcz15_4
      try clear hcz15_5
      try clear hcz15_6
      try clear hcz15_7
      try clear hcz15_8
      try clear hcz15_9
      try clear hcz20_0
      try clear hcz20_1
      try clear hcz20_10
      try clear hcz20_11
      try clear hcz20_12
      try clear hcz20_13
      try clear hcz20_14
      try clear hcz20_15
      try clear hcz20_16
      try clear hcz20_2
      try clear hcz20_3
      try clear hcz20_4
      try clear hcz20_5
      try clear hcz20_6
      try clear hcz20_7
      try clear hcz20_8
      try clear hcz20_9
      try clear hfz14_0
      try clear hfz14_1
      try clear hfz14_10
      try clear hfz14_11
      try clear hfz14_12
      try clear hfz14_13
      try clear hfz14_14
      try clear hfz14_15
      try clear hfz14_16
      try clear hfz14_2
      try clear hfz14_3
      try clear hfz14_4
      try clear hfz14_5
      try clear hfz14_6
      try clear hfz14_7
      try clear hfz14_8
      try clear hfz14_9
      try clear hfz15_0
      try clear hfz15_1
      try clear hfz15_10
      try clear hfz15_11
      try clear hfz15_12
      try clear hfz15_13
      try clear hfz15_14
      try clear hfz15_15
      try clear hfz15_16
      try clear hfz15_2
      try clear hfz15_3
      try clear hfz15_4
      try clear hfz15_5
      try clear hfz15_6
      try clear hfz15_7
      try clear hfz15_8
      try clear hfz15_9
      try clear hfz20_0
      try clear hfz20_1
      try clear hfz20_10
      try clear hfz20_11
      try clear hfz20_12
      try clear hfz20_13
      try clear hfz20_14
      try clear hfz20_15
      try clear hfz20_16
      try clear hfz20_2
      try clear hfz20_3
      try clear hfz20_4
      try clear hfz20_5
      try clear hfz20_6
      try clear hfz20_7
      try clear hfz20_8
      try clear hfz20_9
      try clear p2
      obtain ⟨kq,x3_15,rfl,HA,HJ15,BK115,HB⟩:=hcut
      cases kq with
      | zero=>exact absurd HA.out (by simp [girderref04_Bytes.j1])
      | succ kj15 =>
       have H:=HA.out
       clear HA
       simp only [girderref04_Bytes.j1] at H
       have HC22:=Aside0.mk H
       clear H
       go_upto_region 4 with (fail)
       go_cut [41] from 34 to 40 (fun v41 wc=>∃ (kq : Nat) (x41_21 : Bool),v41=.bool x41_21∧Aside0 (girderref04_Bytes.j2 kq x3_15 x41_21 a0_0 a0_1 a0_2 a0_3 a0_4 a0_5 a0_6 a0_7 a0_8 a0_9 a0_10 a0_11 a0_12 a0_13 a0_14 l0_15 l0_16=some r)∧Aside0 (kq≤kj15)∧Aside0 (wc.heap[gb115]?=some (.cells #[.int .i64 a0_0,.int .i64 a0_1,.int .u64 a0_2,.int .u64 a0_3,.int .u32 a0_4,.int .i64 a0_5,.int .i64 a0_6,.string a0_7,.string a0_8,.int .i64 a0_9,.int .i64 a0_10,.string a0_11,.int .u32 a0_12,.int .i64 a0_13,.bool a0_14,(.slice A0_15 l0_15.length c0_15),(.slice A0_16 l0_16.length c0_16)] 47 (0,0)))∧Aside0 (Below w.heap.size w wc))
       case first =>
        have H:=HC22.out
        clear HC22
        by_cases c23 : a0_0=1
        ·rw [if_pos c23] at H
         have c23b0 : (a0_0 == 1)=true:=beq_iff_eq.mpr c23
         have c23b1 : (a0_0 != 1)=false:=bne_eq_false_iff_eq.mpr c23
         clear c23
         (first|rw [c23b0]|(simp only [i64_w,i32_w];rw [c23b0])|skip)
         have H':=Aside0.mk H
         clear H
         have hcz24_0 : wc.cell? ⟨gb115,0,none⟩=some (.int .i64 a0_0):=(blk_cell BK115.out 0).trans rfl
         have hcz24_1 : wc.cell? ⟨gb115,1,none⟩=some (.int .i64 a0_1):=(blk_cell BK115.out 1).trans rfl
         have hcz24_2 : wc.cell? ⟨gb115,2,none⟩=some (.int .u64 a0_2):=(blk_cell BK115.out 2).trans rfl
         have hcz24_3 : wc.cell? ⟨gb115,3,none⟩=some (.int .u64 a0_3):=(blk_cell BK115.out 3).trans rfl
         have hcz24_4 : wc.cell? ⟨gb115,4,none⟩=some (.int .u32 a0_4):=(blk_cell BK115.out 4).trans rfl
         have hcz24_5 : wc.cell? ⟨gb115,5,none⟩=some (.int .i64 a0_5):=(blk_cell BK115.out 5).trans rfl
         have hcz24_6 : wc.cell? ⟨gb115,6,none⟩=some (.int .i64 a0_6):=(blk_cell BK115.out 6).trans rfl
         have hcz24_7 : wc.cell? ⟨gb115,7,none⟩=some (.string a0_7):=(blk_cell BK115.out 7).trans rfl
         have hcz24_8 : wc.cell? ⟨gb115,8,none⟩=some (.string a0_8):=(blk_cell BK115.out 8).trans rfl
         have hcz24_9 : wc.cell? ⟨gb115,9,none⟩=some (.int .i64 a0_9):=(blk_cell BK115.out 9).trans rfl
         have hcz24_10 : wc.cell? ⟨gb115,10,none⟩=some (.int .i64 a0_10):=(blk_cell BK115.out 10).trans rfl
         have hcz24_11 : wc.cell? ⟨gb115,11,none⟩=some (.string a0_11):=(blk_cell BK115.out 11).trans rfl
         have hcz24_12 : wc.cell? ⟨gb115,12,none⟩=some (.int .u32 a0_12):=(blk_cell BK115.out 12).trans rfl
         have hcz24_13 : wc.cell? ⟨gb115,13,none⟩=some (.int .i64 a0_13):=(blk_cell BK115.out 13).trans rfl
         have hcz24_14 : wc.cell? ⟨gb115,14,none⟩=some (.bool a0_14):=(blk_cell BK115.out 14).trans rfl
         have hcz24_15 : wc.cell? ⟨gb115,15,none⟩=some (.slice A0_15 l0_15.length c0_15):=(blk_cell BK115.out 15).trans rfl
         have hcz24_16 : wc.cell? ⟨gb115,16,none⟩=some (.slice A0_16 l0_16.length c0_16):=(blk_cell BK115.out 16).trans rfl
         have hfz24_0:=blk_frozen BK115.out 0
         have hfz24_1:=blk_frozen BK115.out 1
         have hfz24_2:=blk_frozen BK115.out 2
         have hfz24_3:=blk_frozen BK115.out 3
         have hfz24_4:=blk_frozen BK115.out 4
         have hfz24_5:=blk_frozen BK115.out 5
         have hfz24_6:=blk_frozen BK115.out 6
         have hfz24_7:=blk_frozen BK115.out 7
         have hfz24_8:=blk_frozen BK115.out 8
         have hfz24_9:=blk_frozen BK115.out 9
         have hfz24_10:=blk_frozen BK115.out 10
         have hfz24_11:=blk_frozen BK115.out 11
         have hfz24_12:=blk_frozen BK115.out 12
         have hfz24_13:=blk_frozen BK115.out 13
         have hfz24_14:=blk_frozen BK115.out 14
         have hfz24_15:=blk_frozen BK115.out 15
         have hfz24_16:=blk_frozen BK115.out 16
         go_wp2
         go_meet
         case rel=>exact ⟨_,(true),(by first|rfl|(simp;done)|(simp [*];done)),H',⟨by have:=HJ6.out;have:=HJ15.out;first|omega|exact Nat.le_refl _⟩,⟨by (with_reducible repeat (first|refine blk_drewN ?_ _|refine blk_drew ?_|refine blk_alloc ?_ _));exact BK115.out⟩,⟨by repeat (first|(with_reducible first|exact HB.out|apply below_alloc|apply pw_below_drewN|apply below_drew1|refine below_set ?_ GE115.out)|exact HB.out)⟩⟩
        ·rw [if_neg c23] at H
         have c23b0 : (a0_0 == 1)=false:=beq_eq_false_iff_ne.mpr c23
         have c23b1 : (a0_0 != 1)=true:=bne_iff_ne.mpr c23
         (first|rw [c23b0]|(simp only [i64_w,i32_w];rw [c23b0])|skip)
         have H':=Aside0.mk H
         clear H
         have hcz25_0 : wc.cell? ⟨gb115,0,none⟩=some (.int .i64 a0_0):=(blk_cell BK115.out 0).trans rfl
         have hcz25_1 : wc.cell? ⟨gb115,1,none⟩=some (.int .i64 a0_1):=(blk_cell BK115.out 1).trans rfl
         have hcz25_2 : wc.cell? ⟨gb115,2,none⟩=some (.int .u64 a0_2):=(blk_cell BK115.out 2).trans rfl
         have hcz25_3 : wc.cell? ⟨gb115,3,none⟩=some (.int .u64 a0_3):=(blk_cell BK115.out 3).trans rfl
         have hcz25_4 : wc.cell? ⟨gb115,4,none⟩=some (.int .u32 a0_4):=(blk_cell BK115.out 4).trans rfl
         have hcz25_5 : wc.cell? ⟨gb115,5,none⟩=some (.int .i64 a0_5):=(blk_cell BK115.out 5).trans rfl
         have hcz25_6 : wc.cell? ⟨gb115,6,none⟩=some (.int .i64 a0_6):=(blk_cell BK115.out 6).trans rfl
         have hcz25_7 : wc.cell? ⟨gb115,7,none⟩=some (.string a0_7):=(blk_cell BK115.out 7).trans rfl
         have hcz25_8 : wc.cell? ⟨gb115,8,none⟩=some (.string a0_8):=(blk_cell BK115.out 8).trans rfl
         have hcz25_9 : wc.cell? ⟨gb115,9,none⟩=some (.int .i64 a0_9):=(blk_cell BK115.out 9).trans rfl
         have hcz25_10 : wc.cell? ⟨gb115,10,none⟩=some (.int .i64 a0_10):=(blk_cell BK115.out 10).trans rfl
         have hcz25_11 : wc.cell? ⟨gb115,11,none⟩=some (.string a0_11):=(blk_cell BK115.out 11).trans rfl
         have hcz25_12 : wc.cell? ⟨gb115,12,none⟩=some (.int .u32 a0_12):=(blk_cell BK115.out 12).trans rfl
         have hcz25_13 : wc.cell? ⟨gb115,13,none⟩=some (.int .i64 a0_13):=(blk_cell BK115.out 13).trans rfl
         have hcz25_14 : wc.cell? ⟨gb115,14,none⟩=some (.bool a0_14):=(blk_cell BK115.out 14).trans rfl
         have hcz25_15 : wc.cell? ⟨gb115,15,none⟩=some (.slice A0_15 l0_15.length c0_15):=(blk_cell BK115.out 15).trans rfl
         have hcz25_16 : wc.cell? ⟨gb115,16,none⟩=some (.slice A0_16 l0_16.length c0_16):=(blk_cell BK115.out 16).trans rfl
         have hfz25_0:=blk_frozen BK115.out 0
         have hfz25_1:=blk_frozen BK115.out 1
         have hfz25_2:=blk_frozen BK115.out 2
         have hfz25_3:=blk_frozen BK115.out 3
         have hfz25_4:=blk_frozen BK115.out 4
         have hfz25_5:=blk_frozen BK115.out 5
         have hfz25_6:=blk_frozen BK115.out 6
         have hfz25_7:=blk_frozen BK115.out 7
         have hfz25_8:=blk_frozen BK115.out 8
         have hfz25_9:=blk_frozen BK115.out 9
         have hfz25_10:=blk_frozen BK115.out 10
         have hfz25_11:=blk_frozen BK115.out 11
         have hfz25_12:=blk_frozen BK115.out 12
         have hfz25_13:=blk_frozen BK115.out 13
         have hfz25_14:=blk_frozen BK115.out 14
         have hfz25_15:=blk_frozen BK115.out 15
         have hfz25_16:=blk_frozen BK115.out 16
         go_wp2
         go_meet
         case rel=>exact ⟨_,((a0_0 == 2)),(by first|rfl|(simp;done)|(simp [*];done)),H',⟨by have:=HJ6.out;have:=HJ15.out;first|omega|exact Nat.le_refl _⟩,⟨by (with_reducible repeat (first|refine blk_drewN ?_ _|refine blk_drew ?_|refine blk_alloc ?_ _));exact BK115.out⟩,⟨by repeat (first|(with_reducible first|exact HB.out|apply below_alloc|apply pw_below_drewN|apply below_drew1|refine below_set ?_ GE115.out)|exact HB.out)⟩⟩
       case rest =>
        clear HC22
        try clear c1
        try clear c2
        try clear p2
        try clear c3
        try clear c4
        try clear c4b0
        try clear c4b1
        try clear c4b2
        try clear c6
        try clear c6b0
        try clear c6b1
        try clear c6b2
        try clear c12
        try clear c13
        try clear c13b0
        try clear c13b1
        try clear c17
        try clear c19
        try clear c19b0
        try clear c19b1
        try clear c19b2
        try clear c23
        try clear c23b0
        try clear c23b1
        try clear hcz14_0
        try clear hcz14_1
        try clear hcz14_10
        try clear hcz14_11
        try clear hcz14_12
        try clear hcz14_13
        try clear hcz14_14
        try clear hcz14_15
        try clear hcz14_16
        try clear hcz14_2
        try clear hcz14_3
        try clear hcz14_4
        try clear hcz14_5
        try clear hcz14_6
        try clear hcz14_7
        try clear hcz14_8
        try clear hcz14_9
        try clear hcz15_0
        try clear hcz15_1
        try clear hcz15_10
        try clear hcz15_11
        try clear hcz15_12
        try clear hcz15_13
        try clear hcz15_14
        try clear hcz15_15
        try clear hcz15_16
        try clear hcz15_2
        try clear hcz15_3
        try clear hcz15_4
        try clear hcz15_5
        try clear hcz15_6
        try clear hcz15_7
        try clear hcz15_8
        try clear hcz15_9
        try clear hcz20_0
        try clear hcz20_1
        try clear hcz20_10
        try clear hcz20_11
        try clear hcz20_12
        try clear hcz20_13
        try clear hcz20_14
        try clear hcz20_15
        try clear hcz20_16
        try clear hcz20_2
        try clear hcz20_3
        try clear hcz20_4
        try clear hcz20_5
        try clear hcz20_6
        try clear hcz20_7
        try clear hcz20_8
        try clear hcz20_9
        try clear hcz24_0
        try clear hcz24_1
        try clear hcz24_10
        try clear hcz24_11
        try clear hcz24_12
        try clear hcz24_13
        try clear hcz24_14
        try clear hcz24_15
        try clear hcz24_16
        try clear hcz24_2
        try clear hcz24_3
        try clear hcz24_4
        try clear hcz24_5
        try clear hcz24_6
        try clear hcz24_7
        try clear hcz24_8
        try clear hcz24_9
        try clear hcz25_0
        try clear hcz25_1
        try clear hcz25_10
        try clear hcz25_11
        try clear hcz25_12
        try clear hcz25_13
        try clear hcz25_14
        try clear hcz25_15
        try clear hcz25_16
        try clear hcz25_2
        try clear hcz25_3
        try clear hcz25_4
        try clear hcz25_5
        try clear hcz25_6
        try clear hcz25_7
        try clear hcz25_8
        try clear hcz25_9
        try clear hfz14_0
        try clear hfz14_1
        try clear hfz14_10
        try clear hfz14_11
        try clear hfz14_12
        try clear hfz14_13
        try clear hfz14_14
        try clear hfz14_15
        try clear hfz14_16
        try clear hfz14_2
        try clear hfz14_3
        try clear hfz14_4
        try clear hfz14_5
        try clear hfz14_6
        try clear hfz14_7
        try clear hfz14_8
        try clear hfz14_9
        try clear hfz15_0
        try clear hfz15_1
        try clear hfz15_10
        try clear hfz15_11
        try clear hfz15_12
        try clear hfz15_13
        try clear hfz15_14
        try clear hfz15_15
        try clear hfz15_16
        try clear hfz15_2
        try clear hfz15_3
        try clear hfz15_4
        try clear hfz15_5
        try clear hfz15_6
        try clear hfz15_7
        try clear hfz15_8
        try clear hfz15_9
        try clear hfz20_0
        try clear hfz20_1
        try clear hfz20_10
        try clear hfz20_11
        try clear hfz20_12
        try clear hfz20_13
        try clear hfz20_14
        try clear hfz20_15
        try clear hfz20_16
        try clear hfz20_2
        try clear hfz20_3
        try clear hfz20_4
        try clear hfz20_5
        try clear hfz20_6
        try clear hfz20_7
        try clear hfz20_8
        try clear hfz20_9
        try clear hfz24_0
        try clear hfz24_1
        try clear hfz24_10
        try clear hfz24_11
        try clear hfz24_12
        try clear hfz24_13
        try clear hfz24_14
        try clear hfz24_15
        try clear hfz24_16
        try clear hfz24_2
        try clear hfz24_3
        try clear hfz24_4
        try clear hfz24_5
        try clear hfz24_6
        try clear hfz24_7
        try clear hfz24_8
        try clear hfz24_9
        try clear hfz25_0
        try clear hfz25_1
        try clear hfz25_10
        try clear hfz25_11
        try clear hfz25_12
        try clear hfz25_13
        try clear hfz25_14
        try clear hfz25_15
        try clear hfz25_16
        try clear hfz25_2
        try clear hfz25_3
        try clear hfz25_4
        try clear hfz25_5
        try clear hfz25_6
        try clear hfz25_7
        try clear hfz25_8
        try clear hfz25_9
        try clear p2
        obtain ⟨kq,x41_21,rfl,HA,HJ21,BK115,HB⟩:=hcut
        cases kq with
        | zero=>exact absurd HA.out (by simp [girderref04_Bytes.j2])
        | succ kj21 =>
         have H:=HA.out
         clear HA
         simp only [girderref04_Bytes.j2] at H
         have HC26:=Aside0.mk H
         clear H
         go_upto_if 41 with (fail)
         go_cut [3,4] from 42 to 102 (fun v3 v4_ wc=>∃ (kq : Nat) (x3_25 : ByteArray),v3=.string x3_25∧Aside0 (girderref04_Bytes.j4 kq x3_25 a0_0 a0_1 a0_2 a0_3 a0_4 a0_5 a0_6 a0_7 a0_8 a0_9 a0_10 a0_11 a0_12 a0_13 a0_14 l0_15 l0_16=some r)∧Aside0 (kq≤kj21)∧Aside0 (wc.heap[gb115]?=some (.cells #[.int .i64 a0_0,.int .i64 a0_1,.int .u64 a0_2,.int .u64 a0_3,.int .u32 a0_4,.int .i64 a0_5,.int .i64 a0_6,.string a0_7,.string a0_8,.int .i64 a0_9,.int .i64 a0_10,.string a0_11,.int .u32 a0_12,.int .i64 a0_13,.bool a0_14,(.slice A0_15 l0_15.length c0_15),(.slice A0_16 l0_16.length c0_16)] 47 (0,0)))∧Aside0 (Below w.heap.size w wc))
         case first =>
          have H:=HC26.out
          clear HC26
          by_cases c27 : x41_21=true
          ·subst c27
           have H1 : ((girderref01_Put.f (IntKind.u64.wrap (a0_4)) 4).bind fun t120=>((girderref01_Put.f (IntKind.u64.wrap (a0_5)) 1).bind fun t121=>(if t120.size + t121.size≤9223372036854775807 then ((girderref01_Put.f (IntKind.u64.wrap (a0_6)) 2).bind fun t122=>(if (t120 ++ t121).size + t122.size≤9223372036854775807 then ((girderref04_text.f a0_7).bind fun t123=>(if ((t120 ++ t121) ++ t122).size + t123.size≤9223372036854775807 then ((girderref04_text.f a0_8).bind fun t124=>(if (((t120 ++ t121) ++ t122) ++ t123).size + t124.size≤9223372036854775807 then ((girderref01_Put.f (IntKind.u64.wrap (a0_9)) 1).bind fun t125=>(if ((((t120 ++ t121) ++ t122) ++ t123) ++ t124).size + t125.size≤9223372036854775807 then (if x3_15.size + (((((t120 ++ t121) ++ t122) ++ t123) ++ t124) ++ t125).size≤9223372036854775807 then (if a0_9=2 then (if a0_14=true then (girderref04_Bytes.j3 kj21 (x3_15 ++ (((((t120 ++ t121) ++ t122) ++ t123) ++ t124) ++ t125)) 1 a0_0 a0_1 a0_2 a0_3 a0_4 a0_5 a0_6 a0_7 a0_8 a0_9 a0_10 a0_11 a0_12 a0_13 a0_14 l0_15 l0_16) else (girderref04_Bytes.j3 kj21 (x3_15 ++ (((((t120 ++ t121) ++ t122) ++ t123) ++ t124) ++ t125)) 0 a0_0 a0_1 a0_2 a0_3 a0_4 a0_5 a0_6 a0_7 a0_8 a0_9 a0_10 a0_11 a0_12 a0_13 a0_14 l0_15 l0_16)) else (girderref04_Bytes.j4 kj21 (x3_15 ++ (((((t120 ++ t121) ++ t122) ++ t123) ++ t124) ++ t125)) a0_0 a0_1 a0_2 a0_3 a0_4 a0_5 a0_6 a0_7 a0_8 a0_9 a0_10 a0_11 a0_12 a0_13 a0_14 l0_15 l0_16)) else (none)) else (none))) else (none))) else (none))) else (none))) else (none))))=some r:=by rw [if_pos rfl] at H;exact H
           clear H
           have H:=H1
           clear H1
           replace H:=Option.bind_eq_some_iff.mp H
           obtain ⟨t120,A280,H⟩:=H
           replace H : ((girderref01_Put.f (IntKind.u64.wrap (a0_5)) 1).bind fun t121=>(if t120.size + t121.size≤9223372036854775807 then ((girderref01_Put.f (IntKind.u64.wrap (a0_6)) 2).bind fun t122=>(if (t120 ++ t121).size + t122.size≤9223372036854775807 then ((girderref04_text.f a0_7).bind fun t123=>(if ((t120 ++ t121) ++ t122).size + t123.size≤9223372036854775807 then ((girderref04_text.f a0_8).bind fun t124=>(if (((t120 ++ t121) ++ t122) ++ t123).size + t124.size≤9223372036854775807 then ((girderref01_Put.f (IntKind.u64.wrap (a0_9)) 1).bind fun t125=>(if ((((t120 ++ t121) ++ t122) ++ t123) ++ t124).size + t125.size≤9223372036854775807 then (if x3_15.size + (((((t120 ++ t121) ++ t122) ++ t123) ++ t124) ++ t125).size≤9223372036854775807 then (if a0_9=2 then (if a0_14=true then (girderref04_Bytes.j3 kj21 (x3_15 ++ (((((t120 ++ t121) ++ t122) ++ t123) ++ t124) ++ t125)) 1 a0_0 a0_1 a0_2 a0_3 a0_4 a0_5 a0_6 a0_7 a0_8 a0_9 a0_10 a0_11 a0_12 a0_13 a0_14 l0_15 l0_16) else (girderref04_Bytes.j3 kj21 (x3_15 ++ (((((t120 ++ t121) ++ t122) ++ t123) ++ t124) ++ t125)) 0 a0_0 a0_1 a0_2 a0_3 a0_4 a0_5 a0_6 a0_7 a0_8 a0_9 a0_10 a0_11 a0_12 a0_13 a0_14 l0_15 l0_16)) else (girderref04_Bytes.j4 kj21 (x3_15 ++ (((((t120 ++ t121) ++ t122) ++ t123) ++ t124) ++ t125)) a0_0 a0_1 a0_2 a0_3 a0_4 a0_5 a0_6 a0_7 a0_8 a0_9 a0_10 a0_11 a0_12 a0_13 a0_14 l0_15 l0_16)) else (none)) else (none))) else (none))) else (none))) else (none))) else (none)))=some r:=H
           have A28:=Aside0.mk A280
           clear A280
           replace H:=Option.bind_eq_some_iff.mp H
           obtain ⟨t121,A290,H⟩:=H
           replace H : (if t120.size + t121.size≤9223372036854775807 then ((girderref01_Put.f (IntKind.u64.wrap (a0_6)) 2).bind fun t122=>(if (t120 ++ t121).size + t122.size≤9223372036854775807 then ((girderref04_text.f a0_7).bind fun t123=>(if ((t120 ++ t121) ++ t122).size + t123.size≤9223372036854775807 then ((girderref04_text.f a0_8).bind fun t124=>(if (((t120 ++ t121) ++ t122) ++ t123).size + t124.size≤9223372036854775807 then ((girderref01_Put.f (IntKind.u64.wrap (a0_9)) 1).bind fun t125=>(if ((((t120 ++ t121) ++ t122) ++ t123) ++ t124).size + t125.size≤9223372036854775807 then (if x3_15.size + (((((t120 ++ t121) ++ t122) ++ t123) ++ t124) ++ t125).size≤9223372036854775807 then (if a0_9=2 then (if a0_14=true then (girderref04_Bytes.j3 kj21 (x3_15 ++ (((((t120 ++ t121) ++ t122) ++ t123) ++ t124) ++ t125)) 1 a0_0 a0_1 a0_2 a0_3 a0_4 a0_5 a0_6 a0_7 a0_8 a0_9 a0_10 a0_11 a0_12 a0_13 a0_14 l0_15 l0_16) else (girderref04_Bytes.j3 kj21 (x3_15 ++ (((((t120 ++ t121) ++ t122) ++ t123) ++ t124) ++ t125)) 0 a0_0 a0_1 a0_2 a0_3 a0_4 a0_5 a0_6 a0_7 a0_8 a0_9 a0_10 a0_11 a0_12 a0_13 a0_14 l0_15 l0_16)) else (girderref04_Bytes.j4 kj21 (x3_15 ++ (((((t120 ++ t121) ++ t122) ++ t123) ++ t124) ++ t125)) a0_0 a0_1 a0_2 a0_3 a0_4 a0_5 a0_6 a0_7 a0_8 a0_9 a0_10 a0_11 a0_12 a0_13 a0_14 l0_15 l0_16)) else (none)) else (none))) else (none))) else (none))) else (none))) else (none))=some r:=H
           have A29:=Aside0.mk A290
           clear A290
           by_cases c30 : t120.size + t121.size≤9223372036854775807
           ·rw [if_pos c30] at H
            have c30b0:=eq_true c30
            have c30b1 : decide (t120.size + t121.size≤9223372036854775807)=true:=decide_eq_true c30
            try have c30b2 : (9223372036854775807 < t120.size + t121.size)=False:=eq_false (Nat.not_lt.2 c30)
            replace H:=Option.bind_eq_some_iff.mp H
            obtain ⟨t122,A310,H⟩:=H
            replace H : (if (t120 ++ t121).size + t122.size≤9223372036854775807 then ((girderref04_text.f a0_7).bind fun t123=>(if ((t120 ++ t121) ++ t122).size + t123.size≤9223372036854775807 then ((girderref04_text.f a0_8).bind fun t124=>(if (((t120 ++ t121) ++ t122) ++ t123).size + t124.size≤9223372036854775807 then ((girderref01_Put.f (IntKind.u64.wrap (a0_9)) 1).bind fun t125=>(if ((((t120 ++ t121) ++ t122) ++ t123) ++ t124).size + t125.size≤9223372036854775807 then (if x3_15.size + (((((t120 ++ t121) ++ t122) ++ t123) ++ t124) ++ t125).size≤9223372036854775807 then (if a0_9=2 then (if a0_14=true then (girderref04_Bytes.j3 kj21 (x3_15 ++ (((((t120 ++ t121) ++ t122) ++ t123) ++ t124) ++ t125)) 1 a0_0 a0_1 a0_2 a0_3 a0_4 a0_5 a0_6 a0_7 a0_8 a0_9 a0_10 a0_11 a0_12 a0_13 a0_14 l0_15 l0_16) else (girderref04_Bytes.j3 kj21 (x3_15 ++ (((((t120 ++ t121) ++ t122) ++ t123) ++ t124) ++ t125)) 0 a0_0 a0_1 a0_2 a0_3 a0_4 a0_5 a0_6 a0_7 a0_8 a0_9 a0_10 a0_11 a0_12 a0_13 a0_14 l0_15 l0_16)) else (girderref04_Bytes.j4 kj21 (x3_15 ++ (((((t120 ++ t121) ++ t122) ++ t123) ++ t124) ++ t125)) a0_0 a0_1 a0_2 a0_3 a0_4 a0_5 a0_6 a0_7 a0_8 a0_9 a0_10 a0_11 a0_12 a0_13 a0_14 l0_15 l0_16)) else (none)) else (none))) else (none))) else (none))) else (none))=some r:=H
            have A31:=Aside0.mk A310
            clear A310
            by_cases c32 : (t120 ++ t121).size + t122.size≤9223372036854775807
            ·rw [if_pos c32] at H
             have c32b0:=eq_true c32
             have c32b1 : decide ((t120 ++ t121).size + t122.size≤9223372036854775807)=true:=decide_eq_true c32
             try have c32b2 : (9223372036854775807 < (t120 ++ t121).size + t122.size)=False:=eq_false (Nat.not_lt.2 c32)
             try have c32b3:=c32b2
             try simp only [ByteArray.size_append] at c32b3
             replace H:=Option.bind_eq_some_iff.mp H
             obtain ⟨t123,A330,H⟩:=H
             replace H : (if ((t120 ++ t121) ++ t122).size + t123.size≤9223372036854775807 then ((girderref04_text.f a0_8).bind fun t124=>(if (((t120 ++ t121) ++ t122) ++ t123).size + t124.size≤9223372036854775807 then ((girderref01_Put.f (IntKind.u64.wrap (a0_9)) 1).bind fun t125=>(if ((((t120 ++ t121) ++ t122) ++ t123) ++ t124).size + t125.size≤9223372036854775807 then (if x3_15.size + (((((t120 ++ t121) ++ t122) ++ t123) ++ t124) ++ t125).size≤9223372036854775807 then (if a0_9=2 then (if a0_14=true then (girderref04_Bytes.j3 kj21 (x3_15 ++ (((((t120 ++ t121) ++ t122) ++ t123) ++ t124) ++ t125)) 1 a0_0 a0_1 a0_2 a0_3 a0_4 a0_5 a0_6 a0_7 a0_8 a0_9 a0_10 a0_11 a0_12 a0_13 a0_14 l0_15 l0_16) else (girderref04_Bytes.j3 kj21 (x3_15 ++ (((((t120 ++ t121) ++ t122) ++ t123) ++ t124) ++ t125)) 0 a0_0 a0_1 a0_2 a0_3 a0_4 a0_5 a0_6 a0_7 a0_8 a0_9 a0_10 a0_11 a0_12 a0_13 a0_14 l0_15 l0_16)) else (girderref04_Bytes.j4 kj21 (x3_15 ++ (((((t120 ++ t121) ++ t122) ++ t123) ++ t124) ++ t125)) a0_0 a0_1 a0_2 a0_3 a0_4 a0_5 a0_6 a0_7 a0_8 a0_9 a0_10 a0_11 a0_12 a0_13 a0_14 l0_15 l0_16)) else (none)) else (none))) else (none))) else (none))=some r:=H
             have A33:=Aside0.mk A330
             clear A330
             by_cases c34 : ((t120 ++ t121) ++ t122).size + t123.size≤9223372036854775807
             ·rw [if_pos c34] at H
              have c34b0:=eq_true c34
              have c34b1 : decide (((t120 ++ t121) ++ t122).size + t123.size≤9223372036854775807)=true:=decide_eq_true c34
              try have c34b2 : (9223372036854775807 < ((t120 ++ t121) ++ t122).size + t123.size)=False:=eq_false (Nat.not_lt.2 c34)
              try have c34b3:=c34b2
              try simp only [ByteArray.size_append] at c34b3
              replace H:=Option.bind_eq_some_iff.mp H
              obtain ⟨t124,A350,H⟩:=H
              replace H : (if (((t120 ++ t121) ++ t122) ++ t123).size + t124.size≤9223372036854775807 then ((girderref01_Put.f (IntKind.u64.wrap (a0_9)) 1).bind fun t125=>(if ((((t120 ++ t121) ++ t122) ++ t123) ++ t124).size + t125.size≤9223372036854775807 then (if x3_15.size + (((((t120 ++ t121) ++ t122) ++ t123) ++ t124) ++ t125).size≤9223372036854775807 then (if a0_9=2 then (if a0_14=true then (girderref04_Bytes.j3 kj21 (x3_15 ++ (((((t120 ++ t121) ++ t122) ++ t123) ++ t124) ++ t125)) 1 a0_0 a0_1 a0_2 a0_3 a0_4 a0_5 a0_6 a0_7 a0_8 a0_9 a0_10 a0_11 a0_12 a0_13 a0_14 l0_15 l0_16) else (girderref04_Bytes.j3 kj21 (x3_15 ++ (((((t120 ++ t121) ++ t122) ++ t123) ++ t124) ++ t125)) 0 a0_0 a0_1 a0_2 a0_3 a0_4 a0_5 a0_6 a0_7 a0_8 a0_9 a0_10 a0_11 a0_12 a0_13 a0_14 l0_15 l0_16)) else (girderref04_Bytes.j4 kj21 (x3_15 ++ (((((t120 ++ t121) ++ t122) ++ t123) ++ t124) ++ t125)) a0_0 a0_1 a0_2 a0_3 a0_4 a0_5 a0_6 a0_7 a0_8 a0_9 a0_10 a0_11 a0_12 a0_13 a0_14 l0_15 l0_16)) else (none)) else (none))) else (none))=some r:=H
              have A35:=Aside0.mk A350
              clear A350
              by_cases c36 : (((t120 ++ t121) ++ t122) ++ t123).size + t124.size≤9223372036854775807
              ·rw [if_pos c36] at H
               have c36b0:=eq_true c36
               have c36b1 : decide ((((t120 ++ t121) ++ t122) ++ t123).size + t124.size≤9223372036854775807)=true:=decide_eq_true c36
               try have c36b2 : (9223372036854775807 < (((t120 ++ t121) ++ t122) ++ t123).size + t124.size)=False:=eq_false (Nat.not_lt.2 c36)
               try have c36b3:=c36b2
               try simp only [ByteArray.size_append] at c36b3
               replace H:=Option.bind_eq_some_iff.mp H
               obtain ⟨t125,A370,H⟩:=H
               replace H : (if ((((t120 ++ t121) ++ t122) ++ t123) ++ t124).size + t125.size≤9223372036854775807 then (if x3_15.size + (((((t120 ++ t121) ++ t122) ++ t123) ++ t124) ++ t125).size≤9223372036854775807 then (if a0_9=2 then (if a0_14=true then (girderref04_Bytes.j3 kj21 (x3_15 ++ (((((t120 ++ t121) ++ t122) ++ t123) ++ t124) ++ t125)) 1 a0_0 a0_1 a0_2 a0_3 a0_4 a0_5 a0_6 a0_7 a0_8 a0_9 a0_10 a0_11 a0_12 a0_13 a0_14 l0_15 l0_16) else (girderref04_Bytes.j3 kj21 (x3_15 ++ (((((t120 ++ t121) ++ t122) ++ t123) ++ t124) ++ t125)) 0 a0_0 a0_1 a0_2 a0_3 a0_4 a0_5 a0_6 a0_7 a0_8 a0_9 a0_10 a0_11 a0_12 a0_13 a0_14 l0_15 l0_16)) else (girderref04_Bytes.j4 kj21 (x3_15 ++ (((((t120 ++ t121) ++ t122) ++ t123) ++ t124) ++ t125)) a0_0 a0_1 a0_2 a0_3 a0_4 a0_5 a0_6 a0_7 a0_8 a0_9 a0_10 a0_11 a0_12 a0_13 a0_14 l0_15 l0_16)) else (none)) else (none))=some r:=H
               have A37:=Aside0.mk A370
               clear A370
               by_cases c38 : ((((t120 ++ t121) ++ t122) ++ t123) ++ t124).size + t125.size≤9223372036854775807
               ·rw [if_pos c38] at H
                have c38b0:=eq_true c38
                have c38b1 : decide (((((t120 ++ t121) ++ t122) ++ t123) ++ t124).size + t125.size≤9223372036854775807)=true:=decide_eq_true c38
                try have c38b2 : (9223372036854775807 < ((((t120 ++ t121) ++ t122) ++ t123) ++ t124).size + t125.size)=False:=eq_false (Nat.not_lt.2 c38)
                try have c38b3:=c38b2
                try simp only [ByteArray.size_append] at c38b3
                by_cases c39 : x3_15.size + (((((t120 ++ t121) ++ t122) ++ t123) ++ t124) ++ t125).size≤9223372036854775807
                ·rw [if_pos c39] at H
                 have c39b0:=eq_true c39
                 have c39b1 : decide (x3_15.size + (((((t120 ++ t121) ++ t122) ++ t123) ++ t124) ++ t125).size≤9223372036854775807)=true:=decide_eq_true c39
                 try have c39b2 : (9223372036854775807 < x3_15.size + (((((t120 ++ t121) ++ t122) ++ t123) ++ t124) ++ t125).size)=False:=eq_false (Nat.not_lt.2 c39)
                 try have c39b3:=c39b2
                 try simp only [ByteArray.size_append] at c39b3
                 by_cases c40 : a0_9=2
                 ·rw [if_pos c40] at H
                  have c40b0 : (a0_9 == 2)=true:=beq_iff_eq.mpr c40
                  have c40b1 : (a0_9 != 2)=false:=bne_eq_false_iff_eq.mpr c40
                  clear c40
                  (first|rw [c40b0]|(simp only [i64_w,i32_w];rw [c40b0])|skip)
                  have HC41:=Aside0.mk H
                  clear H
                  try go_wp2
                  have n0_:=Aside0.mk (blk_drew BK115.out)
                  have n1_:=Aside0.mk (below_drew1 HB.out)
                  clear BK115
                  clear HB
                  have BK115:=n0_
                  have HB:=n1_
                  clear n0_ n1_
                  refine start_ (n:=34) (S:=fun w'=>w'.cell? ⟨gb115,0,none⟩=some (.int .i64 a0_0)∧w'.cell? ⟨gb115,1,none⟩=some (.int .i64 a0_1)∧w'.cell? ⟨gb115,2,none⟩=some (.int .u64 a0_2)∧w'.cell? ⟨gb115,3,none⟩=some (.int .u64 a0_3)∧w'.cell? ⟨gb115,4,none⟩=some (.int .u32 a0_4)∧w'.cell? ⟨gb115,5,none⟩=some (.int .i64 a0_5)∧w'.cell? ⟨gb115,6,none⟩=some (.int .i64 a0_6)∧w'.cell? ⟨gb115,7,none⟩=some (.string a0_7)∧w'.cell? ⟨gb115,8,none⟩=some (.string a0_8)∧w'.cell? ⟨gb115,9,none⟩=some (.int .i64 a0_9)∧w'.cell? ⟨gb115,10,none⟩=some (.int .i64 a0_10)∧w'.cell? ⟨gb115,11,none⟩=some (.string a0_11)∧w'.cell? ⟨gb115,12,none⟩=some (.int .u32 a0_12)∧w'.cell? ⟨gb115,13,none⟩=some (.int .i64 a0_13)∧w'.cell? ⟨gb115,14,none⟩=some (.bool a0_14)∧w'.cell? ⟨gb115,15,none⟩=some (.slice A0_15 l0_15.length c0_15)∧w'.cell? ⟨gb115,16,none⟩=some (.slice A0_16 l0_16.length c0_16)) (ds:=[]) #[false,false,false,false,false,false,false,false,false,false,false,false,false,false,false,false,false,false,false,false,false,false,false,false,false,false,false,false,false,false,false,false,false,false] (by kernel_rfl) rfl rfl ⟨(blk_cell BK115.out 0).trans rfl,(blk_cell BK115.out 1).trans rfl,(blk_cell BK115.out 2).trans rfl,(blk_cell BK115.out 3).trans rfl,(blk_cell BK115.out 4).trans rfl,(blk_cell BK115.out 5).trans rfl,(blk_cell BK115.out 6).trans rfl,(blk_cell BK115.out 7).trans rfl,(blk_cell BK115.out 8).trans rfl,(blk_cell BK115.out 9).trans rfl,(blk_cell BK115.out 10).trans rfl,(blk_cell BK115.out 11).trans rfl,(blk_cell BK115.out 12).trans rfl,(blk_cell BK115.out 13).trans rfl,(blk_cell BK115.out 14).trans rfl,(blk_cell BK115.out 15).trans rfl,(blk_cell BK115.out 16).trans rfl⟩ (fun hHeld=>?_);refine with_tabW girderref04_Bytes.tab5 girderref04_Bytes.bits5 (fun HT_ HW_=>?_)
                  generalize wc.drew=w42 at BK115 HB hHeld ⊢
                  refine pure_ (i:=0) (N:=some 42) (v:=?_) (a':=?_) #[true,false,false,false,false,false,false,false,false,false,false,false,false,false,false,false,false,false,false,false,false,false,false,false,false,false,false,false,false,false,false,false,false,false] rfl rfl (any_of HT_.out (by kernel_rfl)) (fun _ _ _ h=>h) (Or.inl ⟨by rfl,?_⟩) ?_ ?_;rotate_left;(focus (intro w';go_simp;with_reducible rfl));rotate_left;(focus (simp only [Act.put,sA_,sB_,sC_,i64_w,i32_w];rfl))
                  refine pure_ (i:=1) (N:=some 43) (v:=?_) (a':=?_) #[true,true,false,false,false,false,false,false,false,false,false,false,false,false,false,false,false,false,false,false,false,false,false,false,false,false,false,false,false,false,false,false,false,false] rfl rfl (any_of HT_.out (by kernel_rfl)) (fun _ _ _ h=>h) (Or.inl ⟨by rfl,?_⟩) ?_ ?_;rotate_left;(focus (intro w';go_simp;with_reducible rfl));rotate_left;(focus (simp only [Act.put,sA_,sB_,sC_,i64_w,i32_w];rfl))
                  refine pure_ (i:=5) (N:=some 47) (v:=?_) (a':=?_) #[true,true,false,false,false,true,false,false,false,false,false,false,false,false,false,false,false,false,false,false,false,false,false,false,false,false,false,false,false,false,false,false,false,false] rfl rfl (any_of HT_.out (by kernel_rfl)) (fun _ _ _ h=>h) (Or.inl ⟨by rfl,?_⟩) ?_ ?_;rotate_left;(focus (intro w';go_simp;with_reducible rfl));rotate_left;(focus (simp only [Act.put,sA_,sB_,sC_,i64_w,i32_w];rfl))
                  refine pure_ (i:=6) (N:=some 48) (v:=?_) (a':=?_) #[true,true,false,false,false,true,true,false,false,false,false,false,false,false,false,false,false,false,false,false,false,false,false,false,false,false,false,false,false,false,false,false,false,false] rfl rfl (any_of HT_.out (by kernel_rfl)) (fun _ _ _ h=>h) (Or.inl ⟨by rfl,?_⟩) ?_ ?_;rotate_left;(focus (intro w';go_simp;with_reducible rfl));rotate_left;(focus (simp only [Act.put,sA_,sB_,sC_,i64_w,i32_w];rfl))
                  refine pure_ (i:=11) (N:=some 53) (v:=?_) (a':=?_) #[true,true,false,false,false,true,true,false,false,false,false,true,false,false,false,false,false,false,false,false,false,false,false,false,false,false,false,false,false,false,false,false,false,false] rfl rfl (any_of HT_.out (by kernel_rfl)) (fun _ _ _ h=>h) (Or.inl ⟨by rfl,?_⟩) ?_ ?_;rotate_left;(focus (intro w';go_simp;with_reducible rfl));rotate_left;(focus (simp only [Act.put,sA_,sB_,sC_,i64_w,i32_w];rfl))
                  refine pure_ (i:=12) (N:=some 54) (v:=?_) (a':=?_) #[true,true,false,false,false,true,true,false,false,false,false,true,true,false,false,false,false,false,false,false,false,false,false,false,false,false,false,false,false,false,false,false,false,false] rfl rfl (any_of HT_.out (by kernel_rfl)) (fun _ _ _ h=>h) (Or.inl ⟨by rfl,?_⟩) ?_ ?_;rotate_left;(focus (intro w';go_simp;with_reducible rfl));rotate_left;(focus (simp only [Act.put,sA_,sB_,sC_,i64_w,i32_w];rfl))
                  refine pure_ (i:=17) (N:=some 59) (v:=?_) (a':=?_) #[true,true,false,false,false,true,true,false,false,false,false,true,true,false,false,false,false,true,false,false,false,false,false,false,false,false,false,false,false,false,false,false,false,false] rfl rfl (any_of HT_.out (by kernel_rfl)) (fun _ _ _ h=>h) (Or.inl ⟨by rfl,?_⟩) ?_ ?_;rotate_left;(focus (intro w';go_simp;with_reducible rfl));rotate_left;(focus (simp only [Act.put,sA_,sB_,sC_,i64_w,i32_w];rfl))
                  refine pure_ (i:=18) (N:=some 60) (v:=?_) (a':=?_) #[true,true,false,false,false,true,true,false,false,false,false,true,true,false,false,false,false,true,true,false,false,false,false,false,false,false,false,false,false,false,false,false,false,false] rfl rfl (any_of HT_.out (by kernel_rfl)) (fun _ _ _ h=>h) (Or.inl ⟨by rfl,?_⟩) ?_ ?_;rotate_left;(focus (intro w';go_simp;with_reducible rfl));rotate_left;(focus (simp only [Act.put,sA_,sB_,sC_,i64_w,i32_w];rfl))
                  refine pure_ (i:=22) (N:=some 64) (v:=?_) (a':=?_) #[true,true,false,false,false,true,true,false,false,false,false,true,true,false,false,false,false,true,true,false,false,false,true,false,false,false,false,false,false,false,false,false,false,false] rfl rfl (any_of HT_.out (by kernel_rfl)) (fun _ _ _ h=>h) (Or.inl ⟨by rfl,?_⟩) ?_ ?_;rotate_left;(focus (intro w';go_simp;with_reducible rfl));rotate_left;(focus (simp only [Act.put,sA_,sB_,sC_,i64_w,i32_w];rfl))
                  refine pure_ (i:=23) (N:=some 65) (v:=?_) (a':=?_) #[true,true,false,false,false,true,true,false,false,false,false,true,true,false,false,false,false,true,true,false,false,false,true,true,false,false,false,false,false,false,false,false,false,false] rfl rfl (any_of HT_.out (by kernel_rfl)) (fun _ _ _ h=>h) (Or.inl ⟨by rfl,?_⟩) ?_ ?_;rotate_left;(focus (intro w';go_simp;with_reducible rfl));rotate_left;(focus (simp only [Act.put,sA_,sB_,sC_,i64_w,i32_w];rfl))
                  refine pure_ (i:=27) (N:=some 69) (v:=?_) (a':=?_) #[true,true,false,false,false,true,true,false,false,false,false,true,true,false,false,false,false,true,true,false,false,false,true,true,false,false,false,true,false,false,false,false,false,false] rfl rfl (any_of HT_.out (by kernel_rfl)) (fun _ _ _ h=>h) (Or.inl ⟨by rfl,?_⟩) ?_ ?_;rotate_left;(focus (intro w';go_simp;with_reducible rfl));rotate_left;(focus (simp only [Act.put,sA_,sB_,sC_,i64_w,i32_w];rfl))
                  refine take_ (i:=2) (N:=some 44) (v:=?_) (a':=?_) #[true,true,true,false,false,true,true,false,false,false,false,true,true,false,false,false,false,true,true,false,false,false,true,true,false,false,false,true,false,false,false,false,false,false] rfl rfl (take_ofW HT_.out HW_.out (by kernel_rfl)) (fun _ _ _ h=>h) (Or.inl ⟨by rfl,?_⟩) hHeld ?_ ?_;rotate_left;(focus (rintro w' ⟨s0,s1,s2,s3,s4,s5,s6,s7,s8,s9,s10,s11,s12,s13,s14,s15,s16⟩;go_simp;with_reducible rfl));rotate_left;(focus (simp only [Act.put,sA_,sB_,sC_,i64_w,i32_w];rfl))
                  refine pure_ (i:=3) (N:=some 45) (v:=?_) (a':=?_) #[true,true,true,true,false,true,true,false,false,false,false,true,true,false,false,false,false,true,true,false,false,false,true,true,false,false,false,true,false,false,false,false,false,false] rfl rfl (any_of HT_.out (by kernel_rfl)) (fun _ _ _ h=>h) (Or.inl ⟨by rfl,?_⟩) ?_ ?_;rotate_left;(focus (intro w';go_simp;with_reducible rfl));rotate_left;(focus (simp only [Act.put,sA_,sB_,sC_,i64_w,i32_w];rfl))
                  refine take_ (i:=7) (N:=some 49) (v:=?_) (a':=?_) #[true,true,true,true,false,true,true,true,false,false,false,true,true,false,false,false,false,true,true,false,false,false,true,true,false,false,false,true,false,false,false,false,false,false] rfl rfl (take_ofW HT_.out HW_.out (by kernel_rfl)) (fun _ _ _ h=>h) (Or.inl ⟨by rfl,?_⟩) hHeld ?_ ?_;rotate_left;(focus (rintro w' ⟨s0,s1,s2,s3,s4,s5,s6,s7,s8,s9,s10,s11,s12,s13,s14,s15,s16⟩;go_simp;with_reducible rfl));rotate_left;(focus (simp only [Act.put,sA_,sB_,sC_,i64_w,i32_w];rfl))
                  refine pure_ (i:=8) (N:=some 50) (v:=?_) (a':=?_) #[true,true,true,true,false,true,true,true,true,false,false,true,true,false,false,false,false,true,true,false,false,false,true,true,false,false,false,true,false,false,false,false,false,false] rfl rfl (any_of HT_.out (by kernel_rfl)) (fun _ _ _ h=>h) (Or.inl ⟨by rfl,?_⟩) ?_ ?_;rotate_left;(focus (intro w';go_simp;with_reducible rfl));rotate_left;(focus (simp only [Act.put,sA_,sB_,sC_,i64_w,i32_w];rfl))
                  refine take_ (i:=13) (N:=some 55) (v:=?_) (a':=?_) #[true,true,true,true,false,true,true,true,true,false,false,true,true,true,false,false,false,true,true,false,false,false,true,true,false,false,false,true,false,false,false,false,false,false] rfl rfl (take_ofW HT_.out HW_.out (by kernel_rfl)) (fun _ _ _ h=>h) (Or.inl ⟨by rfl,?_⟩) hHeld ?_ ?_;rotate_left;(focus (rintro w' ⟨s0,s1,s2,s3,s4,s5,s6,s7,s8,s9,s10,s11,s12,s13,s14,s15,s16⟩;go_simp;with_reducible rfl));rotate_left;(focus (simp only [Act.put,sA_,sB_,sC_,i64_w,i32_w];rfl))
                  refine pure_ (i:=14) (N:=some 56) (v:=?_) (a':=?_) #[true,true,true,true,false,true,true,true,true,false,false,true,true,true,true,false,false,true,true,false,false,false,true,true,false,false,false,true,false,false,false,false,false,false] rfl rfl (any_of HT_.out (by kernel_rfl)) (fun _ _ _ h=>h) (Or.inl ⟨by rfl,?_⟩) ?_ ?_;rotate_left;(focus (intro w';go_simp;with_reducible rfl));rotate_left;(focus (simp only [Act.put,sA_,sB_,sC_,i64_w,i32_w];rfl))
                  refine take_ (i:=19) (N:=some 61) (v:=?_) (a':=?_) #[true,true,true,true,false,true,true,true,true,false,false,true,true,true,true,false,false,true,true,true,false,false,true,true,false,false,false,true,false,false,false,false,false,false] rfl rfl (take_ofW HT_.out HW_.out (by kernel_rfl)) (fun _ _ _ h=>h) (Or.inl ⟨by rfl,?_⟩) hHeld ?_ ?_;rotate_left;(focus (rintro w' ⟨s0,s1,s2,s3,s4,s5,s6,s7,s8,s9,s10,s11,s12,s13,s14,s15,s16⟩;go_simp;with_reducible rfl));rotate_left;(focus (simp only [Act.put,sA_,sB_,sC_,i64_w,i32_w];rfl))
                  refine take_ (i:=24) (N:=some 66) (v:=?_) (a':=?_) #[true,true,true,true,false,true,true,true,true,false,false,true,true,true,true,false,false,true,true,true,false,false,true,true,true,false,false,true,false,false,false,false,false,false] rfl rfl (take_ofW HT_.out HW_.out (by kernel_rfl)) (fun _ _ _ h=>h) (Or.inl ⟨by rfl,?_⟩) hHeld ?_ ?_;rotate_left;(focus (rintro w' ⟨s0,s1,s2,s3,s4,s5,s6,s7,s8,s9,s10,s11,s12,s13,s14,s15,s16⟩;go_simp;with_reducible rfl));rotate_left;(focus (simp only [Act.put,sA_,sB_,sC_,i64_w,i32_w];rfl))
                  refine take_ (i:=28) (N:=some 70) (v:=?_) (a':=?_) #[true,true,true,true,false,true,true,true,true,false,false,true,true,true,true,false,false,true,true,true,false,false,true,true,true,false,false,true,true,false,false,false,false,false] rfl rfl (take_ofW HT_.out HW_.out (by kernel_rfl)) (fun _ _ _ h=>h) (Or.inl ⟨by rfl,?_⟩) hHeld ?_ ?_;rotate_left;(focus (rintro w' ⟨s0,s1,s2,s3,s4,s5,s6,s7,s8,s9,s10,s11,s12,s13,s14,s15,s16⟩;go_simp;with_reducible rfl));rotate_left;(focus (simp only [Act.put,sA_,sB_,sC_,i64_w,i32_w];rfl))
                  refine pure_ (i:=29) (N:=some 71) (v:=?_) (a':=?_) #[true,true,true,true,false,true,true,true,true,false,false,true,true,true,true,false,false,true,true,true,false,false,true,true,true,false,false,true,true,true,false,false,false,false] rfl rfl (any_of HT_.out (by kernel_rfl)) (fun _ _ _ h=>h) (Or.inl ⟨by rfl,?_⟩) ?_ ?_;rotate_left;(focus (intro w';go_simp;with_reducible rfl));rotate_left;(focus (simp only [Act.put,sA_,sB_,sC_,i64_w,i32_w];rfl))
                  refine one_ (i:=4) (N:=some 46) #[true,true,true,true,true,true,true,true,true,false,false,true,true,true,true,false,false,true,true,true,false,false,true,true,true,false,false,true,true,true,false,false,false,false] rfl rfl (one_of HT_.out (by kernel_rfl)) (by decide) (fun K hK=>?_)
                  refine goes_ Try.func32 (by kernel_rfl) rfl #[.int .u64 (IntKind.u64.wrap (a0_4)),.int .i64 4] (by rfl) rfl rfl (by (try simp only [List.map_toArray,List.map_cons,List.map_nil]);first|done|rfl|(simp only [List.length_drop,List.length_take];rfl)) ?_
                  with_reducible refine (girderref01_Put.calls (IntKind.u64.wrap (a0_4)) 4 t120 _ A28.out).mono ?_
                  rintro e w43 ⟨rfl,hb⟩
                  refine ⟨_,rfl,?_⟩
                  have n0_:=Aside0.mk (blk_below (g:=gb115) (o:=.cells #[.int .i64 a0_0,.int .i64 a0_1,.int .u64 a0_2,.int .u64 a0_3,.int .u32 a0_4,.int .i64 a0_5,.int .i64 a0_6,.string a0_7,.string a0_8,.int .i64 a0_9,.int .i64 a0_10,.string a0_11,.int .u32 a0_12,.int .i64 a0_13,.bool a0_14,.slice A0_15 l0_15.length c0_15,.slice A0_16 l0_16.length c0_16] 47 (0,0)) (by (with_reducible repeat (first|refine blk_drewN ?_ _|refine blk_drew ?_|refine blk_alloc ?_ _));exact BK115.out) hb)
                  have n1_:=Aside0.mk (below_step (by repeat (first|(with_reducible first|exact HB.out|apply below_alloc|apply pw_below_drewN|apply below_drew1|refine below_set ?_ GE115.out)|exact HB.out)) hb)
                  clear BK115
                  clear HB
                  have BK115:=n0_
                  have HB:=n1_
                  clear n0_ n1_
                  (try clear hb)
                  (try clear hb2)
                  (try clear hk)
                  (try clear hi)
                  refine hK.out _ _ ⟨(blk_cell BK115.out 0).trans rfl,(blk_cell BK115.out 1).trans rfl,(blk_cell BK115.out 2).trans rfl,(blk_cell BK115.out 3).trans rfl,(blk_cell BK115.out 4).trans rfl,(blk_cell BK115.out 5).trans rfl,(blk_cell BK115.out 6).trans rfl,(blk_cell BK115.out 7).trans rfl,(blk_cell BK115.out 8).trans rfl,(blk_cell BK115.out 9).trans rfl,(blk_cell BK115.out 10).trans rfl,(blk_cell BK115.out 11).trans rfl,(blk_cell BK115.out 12).trans rfl,(blk_cell BK115.out 13).trans rfl,(blk_cell BK115.out 14).trans rfl,(blk_cell BK115.out 15).trans rfl,(blk_cell BK115.out 16).trans rfl⟩ (fun hHeld=>?_)
                  clear hK K
                  refine norm_ (a':=?_) ?_ ?_
                  rotate_left
                  ·show Act.put _ (some 46) _=_
                   simp only [Act.put,sA_,sB_,sC_,i64_w,i32_w]
                   rfl
                  refine one_ (i:=9) (N:=some 51) #[true,true,true,true,true,true,true,true,true,true,false,true,true,true,true,false,false,true,true,true,false,false,true,true,true,false,false,true,true,true,false,false,false,false] rfl rfl (one_of HT_.out (by kernel_rfl)) (by decide) (fun K hK=>?_)
                  refine goes_ Try.func32 (by kernel_rfl) rfl #[.int .u64 (IntKind.u64.wrap (a0_5)),.int .i64 1] (by rfl) rfl rfl (by (try simp only [List.map_toArray,List.map_cons,List.map_nil]);first|done|rfl|(simp only [List.length_drop,List.length_take];rfl)) ?_
                  with_reducible refine (girderref01_Put.calls (IntKind.u64.wrap (a0_5)) 1 t121 _ A29.out).mono ?_
                  rintro e w44 ⟨rfl,hb⟩
                  refine ⟨_,rfl,?_⟩
                  have n0_:=Aside0.mk (blk_below (g:=gb115) (o:=.cells #[.int .i64 a0_0,.int .i64 a0_1,.int .u64 a0_2,.int .u64 a0_3,.int .u32 a0_4,.int .i64 a0_5,.int .i64 a0_6,.string a0_7,.string a0_8,.int .i64 a0_9,.int .i64 a0_10,.string a0_11,.int .u32 a0_12,.int .i64 a0_13,.bool a0_14,.slice A0_15 l0_15.length c0_15,.slice A0_16 l0_16.length c0_16] 47 (0,0)) (by (with_reducible repeat (first|refine blk_drewN ?_ _|refine blk_drew ?_|refine blk_alloc ?_ _));exact BK115.out) hb)
                  have n1_:=Aside0.mk (below_step (by repeat (first|(with_reducible first|exact HB.out|apply below_alloc|apply pw_below_drewN|apply below_drew1|refine below_set ?_ GE115.out)|exact HB.out)) hb)
                  clear BK115
                  clear HB
                  have BK115:=n0_
                  have HB:=n1_
                  clear n0_ n1_
                  (try clear hb)
                  (try clear hb2)
                  (try clear hk)
                  (try clear hi)
                  refine hK.out _ _ ⟨(blk_cell BK115.out 0).trans rfl,(blk_cell BK115.out 1).trans rfl,(blk_cell BK115.out 2).trans rfl,(blk_cell BK115.out 3).trans rfl,(blk_cell BK115.out 4).trans rfl,(blk_cell BK115.out 5).trans rfl,(blk_cell BK115.out 6).trans rfl,(blk_cell BK115.out 7).trans rfl,(blk_cell BK115.out 8).trans rfl,(blk_cell BK115.out 9).trans rfl,(blk_cell BK115.out 10).trans rfl,(blk_cell BK115.out 11).trans rfl,(blk_cell BK115.out 12).trans rfl,(blk_cell BK115.out 13).trans rfl,(blk_cell BK115.out 14).trans rfl,(blk_cell BK115.out 15).trans rfl,(blk_cell BK115.out 16).trans rfl⟩ (fun hHeld=>?_)
                  clear hK K
                  refine norm_ (a':=?_) ?_ ?_
                  rotate_left
                  ·show Act.put _ (some 51) _=_
                   simp only [Act.put,sA_,sB_,sC_,i64_w,i32_w]
                   rfl
                  refine pure_ (i:=10) (N:=some 52) (v:=?_) (a':=?_) #[true,true,true,true,true,true,true,true,true,true,true,true,true,true,true,false,false,true,true,true,false,false,true,true,true,false,false,true,true,true,false,false,false,false] rfl rfl (any_of HT_.out (by kernel_rfl)) (fun _ _ _ h=>h) (Or.inl ⟨by rfl,?_⟩) ?_ ?_;rotate_left;(focus (intro w';go_simp;with_reducible rfl));rotate_left;(focus (simp only [Act.put,sA_,sB_,sC_,i64_w,i32_w];rfl))
                  refine one_ (i:=15) (N:=some 57) #[true,true,true,true,true,true,true,true,true,true,true,true,true,true,true,true,false,true,true,true,false,false,true,true,true,false,false,true,true,true,false,false,false,false] rfl rfl (one_of HT_.out (by kernel_rfl)) (by decide) (fun K hK=>?_)
                  refine goes_ Try.func32 (by kernel_rfl) rfl #[.int .u64 (IntKind.u64.wrap (a0_6)),.int .i64 2] (by rfl) rfl rfl (by (try simp only [List.map_toArray,List.map_cons,List.map_nil]);first|done|rfl|(simp only [List.length_drop,List.length_take];rfl)) ?_
                  with_reducible refine (girderref01_Put.calls (IntKind.u64.wrap (a0_6)) 2 t122 _ A31.out).mono ?_
                  rintro e w45 ⟨rfl,hb⟩
                  refine ⟨_,rfl,?_⟩
                  have n0_:=Aside0.mk (blk_below (g:=gb115) (o:=.cells #[.int .i64 a0_0,.int .i64 a0_1,.int .u64 a0_2,.int .u64 a0_3,.int .u32 a0_4,.int .i64 a0_5,.int .i64 a0_6,.string a0_7,.string a0_8,.int .i64 a0_9,.int .i64 a0_10,.string a0_11,.int .u32 a0_12,.int .i64 a0_13,.bool a0_14,.slice A0_15 l0_15.length c0_15,.slice A0_16 l0_16.length c0_16] 47 (0,0)) (by (with_reducible repeat (first|refine blk_drewN ?_ _|refine blk_drew ?_|refine blk_alloc ?_ _));exact BK115.out) hb)
                  have n1_:=Aside0.mk (below_step (by repeat (first|(with_reducible first|exact HB.out|apply below_alloc|apply pw_below_drewN|apply below_drew1|refine below_set ?_ GE115.out)|exact HB.out)) hb)
                  clear BK115
                  clear HB
                  have BK115:=n0_
                  have HB:=n1_
                  clear n0_ n1_
                  (try clear hb)
                  (try clear hb2)
                  (try clear hk)
                  (try clear hi)
                  refine hK.out _ _ ⟨(blk_cell BK115.out 0).trans rfl,(blk_cell BK115.out 1).trans rfl,(blk_cell BK115.out 2).trans rfl,(blk_cell BK115.out 3).trans rfl,(blk_cell BK115.out 4).trans rfl,(blk_cell BK115.out 5).trans rfl,(blk_cell BK115.out 6).trans rfl,(blk_cell BK115.out 7).trans rfl,(blk_cell BK115.out 8).trans rfl,(blk_cell BK115.out 9).trans rfl,(blk_cell BK115.out 10).trans rfl,(blk_cell BK115.out 11).trans rfl,(blk_cell BK115.out 12).trans rfl,(blk_cell BK115.out 13).trans rfl,(blk_cell BK115.out 14).trans rfl,(blk_cell BK115.out 15).trans rfl,(blk_cell BK115.out 16).trans rfl⟩ (fun hHeld=>?_)
                  clear hK K
                  refine norm_ (a':=?_) ?_ ?_
                  rotate_left
                  ·show Act.put _ (some 57) _=_
                   simp only [Act.put,sA_,sB_,sC_,i64_w,i32_w]
                   rfl
                  refine pure_ (i:=16) (N:=some 58) (v:=?_) (a':=?_) #[true,true,true,true,true,true,true,true,true,true,true,true,true,true,true,true,true,true,true,true,false,false,true,true,true,false,false,true,true,true,false,false,false,false] rfl rfl (any_of HT_.out (by kernel_rfl)) (fun _ _ _ h=>h) (Or.inl ⟨by rfl,?_⟩) ?_ ?_;rotate_left;(focus (intro w';go_simp;with_reducible rfl));rotate_left;(focus (simp only [Act.put,sA_,sB_,sC_,i64_w,i32_w];rfl))
                  refine one_ (i:=20) (N:=some 62) #[true,true,true,true,true,true,true,true,true,true,true,true,true,true,true,true,true,true,true,true,true,false,true,true,true,false,false,true,true,true,false,false,false,false] rfl rfl (one_of HT_.out (by kernel_rfl)) (by decide) (fun K hK=>?_)
                  refine goes_ Try.func33 (by kernel_rfl) rfl #[.string a0_7] (by rfl) rfl rfl (by (try simp only [List.map_toArray,List.map_cons,List.map_nil]);first|done|rfl|(simp only [List.length_drop,List.length_take];rfl)) ?_
                  with_reducible refine (girderref04_text.calls a0_7 t123 _ A33.out).mono ?_
                  rintro e w46 ⟨rfl,hb⟩
                  refine ⟨_,rfl,?_⟩
                  have n0_:=Aside0.mk (blk_below (g:=gb115) (o:=.cells #[.int .i64 a0_0,.int .i64 a0_1,.int .u64 a0_2,.int .u64 a0_3,.int .u32 a0_4,.int .i64 a0_5,.int .i64 a0_6,.string a0_7,.string a0_8,.int .i64 a0_9,.int .i64 a0_10,.string a0_11,.int .u32 a0_12,.int .i64 a0_13,.bool a0_14,.slice A0_15 l0_15.length c0_15,.slice A0_16 l0_16.length c0_16] 47 (0,0)) (by (with_reducible repeat (first|refine blk_drewN ?_ _|refine blk_drew ?_|refine blk_alloc ?_ _));exact BK115.out) hb)
                  have n1_:=Aside0.mk (below_step (by repeat (first|(with_reducible first|exact HB.out|apply below_alloc|apply pw_below_drewN|apply below_drew1|refine below_set ?_ GE115.out)|exact HB.out)) hb)
                  clear BK115
                  clear HB
                  have BK115:=n0_
                  have HB:=n1_
                  clear n0_ n1_
                  (try clear hb)
                  (try clear hb2)
                  (try clear hk)
                  (try clear hi)
                  refine hK.out _ _ ⟨(blk_cell BK115.out 0).trans rfl,(blk_cell BK115.out 1).trans rfl,(blk_cell BK115.out 2).trans rfl,(blk_cell BK115.out 3).trans rfl,(blk_cell BK115.out 4).trans rfl,(blk_cell BK115.out 5).trans rfl,(blk_cell BK115.out 6).trans rfl,(blk_cell BK115.out 7).trans rfl,(blk_cell BK115.out 8).trans rfl,(blk_cell BK115.out 9).trans rfl,(blk_cell BK115.out 10).trans rfl,(blk_cell BK115.out 11).trans rfl,(blk_cell BK115.out 12).trans rfl,(blk_cell BK115.out 13).trans rfl,(blk_cell BK115.out 14).trans rfl,(blk_cell BK115.out 15).trans rfl,(blk_cell BK115.out 16).trans rfl⟩ (fun hHeld=>?_)
                  clear hK K
                  refine norm_ (a':=?_) ?_ ?_
                  rotate_left
                  ·show Act.put _ (some 62) _=_
                   simp only [Act.put,sA_,sB_,sC_,i64_w,i32_w]
                   rfl
                  refine pure_ (i:=21) (N:=some 63) (v:=?_) (a':=?_) #[true,true,true,true,true,true,true,true,true,true,true,true,true,true,true,true,true,true,true,true,true,true,true,true,true,false,false,true,true,true,false,false,false,false] rfl rfl (any_of HT_.out (by kernel_rfl)) (fun _ _ _ h=>h) (Or.inl ⟨by rfl,?_⟩) ?_ ?_;rotate_left;(focus (intro w';go_simp;with_reducible rfl));rotate_left;(focus (simp only [Act.put,sA_,sB_,sC_,i64_w,i32_w];rfl))
                  refine one_ (i:=25) (N:=some 67) #[true,true,true,true,true,true,true,true,true,true,true,true,true,true,true,true,true,true,true,true,true,true,true,true,true,true,false,true,true,true,false,false,false,false] rfl rfl (one_of HT_.out (by kernel_rfl)) (by decide) (fun K hK=>?_)
                  refine goes_ Try.func33 (by kernel_rfl) rfl #[.string a0_8] (by rfl) rfl rfl (by (try simp only [List.map_toArray,List.map_cons,List.map_nil]);first|done|rfl|(simp only [List.length_drop,List.length_take];rfl)) ?_
                  with_reducible refine (girderref04_text.calls a0_8 t124 _ A35.out).mono ?_
                  rintro e w47 ⟨rfl,hb⟩
                  refine ⟨_,rfl,?_⟩
                  have n0_:=Aside0.mk (blk_below (g:=gb115) (o:=.cells #[.int .i64 a0_0,.int .i64 a0_1,.int .u64 a0_2,.int .u64 a0_3,.int .u32 a0_4,.int .i64 a0_5,.int .i64 a0_6,.string a0_7,.string a0_8,.int .i64 a0_9,.int .i64 a0_10,.string a0_11,.int .u32 a0_12,.int .i64 a0_13,.bool a0_14,.slice A0_15 l0_15.length c0_15,.slice A0_16 l0_16.length c0_16] 47 (0,0)) (by (with_reducible repeat (first|refine blk_drewN ?_ _|refine blk_drew ?_|refine blk_alloc ?_ _));exact BK115.out) hb)
                  have n1_:=Aside0.mk (below_step (by repeat (first|(with_reducible first|exact HB.out|apply below_alloc|apply pw_below_drewN|apply below_drew1|refine below_set ?_ GE115.out)|exact HB.out)) hb)
                  clear BK115
                  clear HB
                  have BK115:=n0_
                  have HB:=n1_
                  clear n0_ n1_
                  (try clear hb)
                  (try clear hb2)
                  (try clear hk)
                  (try clear hi)
                  refine hK.out _ _ ⟨(blk_cell BK115.out 0).trans rfl,(blk_cell BK115.out 1).trans rfl,(blk_cell BK115.out 2).trans rfl,(blk_cell BK115.out 3).trans rfl,(blk_cell BK115.out 4).trans rfl,(blk_cell BK115.out 5).trans rfl,(blk_cell BK115.out 6).trans rfl,(blk_cell BK115.out 7).trans rfl,(blk_cell BK115.out 8).trans rfl,(blk_cell BK115.out 9).trans rfl,(blk_cell BK115.out 10).trans rfl,(blk_cell BK115.out 11).trans rfl,(blk_cell BK115.out 12).trans rfl,(blk_cell BK115.out 13).trans rfl,(blk_cell BK115.out 14).trans rfl,(blk_cell BK115.out 15).trans rfl,(blk_cell BK115.out 16).trans rfl⟩ (fun hHeld=>?_)
                  clear hK K
                  refine norm_ (a':=?_) ?_ ?_
                  rotate_left
                  ·show Act.put _ (some 67) _=_
                   simp only [Act.put,sA_,sB_,sC_,i64_w,i32_w]
                   rfl
                  refine pure_ (i:=26) (N:=some 68) (v:=?_) (a':=?_) #[true,true,true,true,true,true,true,true,true,true,true,true,true,true,true,true,true,true,true,true,true,true,true,true,true,true,true,true,true,true,false,false,false,false] rfl rfl (any_of HT_.out (by kernel_rfl)) (fun _ _ _ h=>h) (Or.inl ⟨by rfl,?_⟩) ?_ ?_;rotate_left;(focus (intro w';go_simp;with_reducible rfl));rotate_left;(focus (simp only [Act.put,sA_,sB_,sC_,i64_w,i32_w];rfl))
                  refine one_ (i:=30) (N:=some 72) #[true,true,true,true,true,true,true,true,true,true,true,true,true,true,true,true,true,true,true,true,true,true,true,true,true,true,true,true,true,true,true,false,false,false] rfl rfl (one_of HT_.out (by kernel_rfl)) (by decide) (fun K hK=>?_)
                  refine goes_ Try.func32 (by kernel_rfl) rfl #[.int .u64 (IntKind.u64.wrap (a0_9)),.int .i64 1] (by rfl) rfl rfl (by (try simp only [List.map_toArray,List.map_cons,List.map_nil]);first|done|rfl|(simp only [List.length_drop,List.length_take];rfl)) ?_
                  with_reducible refine (girderref01_Put.calls (IntKind.u64.wrap (a0_9)) 1 t125 _ A37.out).mono ?_
                  rintro e w48 ⟨rfl,hb⟩
                  refine ⟨_,rfl,?_⟩
                  have n0_:=Aside0.mk (blk_below (g:=gb115) (o:=.cells #[.int .i64 a0_0,.int .i64 a0_1,.int .u64 a0_2,.int .u64 a0_3,.int .u32 a0_4,.int .i64 a0_5,.int .i64 a0_6,.string a0_7,.string a0_8,.int .i64 a0_9,.int .i64 a0_10,.string a0_11,.int .u32 a0_12,.int .i64 a0_13,.bool a0_14,.slice A0_15 l0_15.length c0_15,.slice A0_16 l0_16.length c0_16] 47 (0,0)) (by (with_reducible repeat (first|refine blk_drewN ?_ _|refine blk_drew ?_|refine blk_alloc ?_ _));exact BK115.out) hb)
                  have n1_:=Aside0.mk (below_step (by repeat (first|(with_reducible first|exact HB.out|apply below_alloc|apply pw_below_drewN|apply below_drew1|refine below_set ?_ GE115.out)|exact HB.out)) hb)
                  clear BK115
                  clear HB
                  have BK115:=n0_
                  have HB:=n1_
                  clear n0_ n1_
                  (try clear hb)
                  (try clear hb2)
                  (try clear hk)
                  (try clear hi)
                  refine hK.out _ _ ⟨(blk_cell BK115.out 0).trans rfl,(blk_cell BK115.out 1).trans rfl,(blk_cell BK115.out 2).trans rfl,(blk_cell BK115.out 3).trans rfl,(blk_cell BK115.out 4).trans rfl,(blk_cell BK115.out 5).trans rfl,(blk_cell BK115.out 6).trans rfl,(blk_cell BK115.out 7).trans rfl,(blk_cell BK115.out 8).trans rfl,(blk_cell BK115.out 9).trans rfl,(blk_cell BK115.out 10).trans rfl,(blk_cell BK115.out 11).trans rfl,(blk_cell BK115.out 12).trans rfl,(blk_cell BK115.out 13).trans rfl,(blk_cell BK115.out 14).trans rfl,(blk_cell BK115.out 15).trans rfl,(blk_cell BK115.out 16).trans rfl⟩ (fun hHeld=>?_)
                  clear hK K
                  refine norm_ (a':=?_) ?_ ?_
                  rotate_left
                  ·show Act.put _ (some 72) _=_
                   simp only [Act.put,sA_,sB_,sC_,i64_w,i32_w]
                   rfl
                  refine pure_ (i:=31) (N:=some 73) (v:=?_) (a':=?_) #[true,true,true,true,true,true,true,true,true,true,true,true,true,true,true,true,true,true,true,true,true,true,true,true,true,true,true,true,true,true,true,true,false,false] rfl rfl (any_of HT_.out (by kernel_rfl)) (fun _ _ _ h=>h) (Or.inl ⟨by rfl,?_⟩) ?_ ?_;rotate_left;(focus (intro w';go_simp;with_reducible rfl));rotate_left;(focus (simp only [Act.put,sA_,sB_,sC_,i64_w,i32_w];rfl))
                  refine pure_ (i:=32) (N:=some 74) (v:=?_) (a':=?_) #[true,true,true,true,true,true,true,true,true,true,true,true,true,true,true,true,true,true,true,true,true,true,true,true,true,true,true,true,true,true,true,true,true,false] rfl rfl (any_of HT_.out (by kernel_rfl)) (fun _ _ _ h=>h) (Or.inl ⟨by rfl,?_⟩) ?_ ?_;rotate_left;(focus (intro w';go_simp;with_reducible rfl));rotate_left;(focus (simp only [Act.put,sA_,sB_,sC_,i64_w,i32_w];rfl))
                  refine pure_ (i:=33) (N:=some 3) (v:=?_) (a':=?_) #[true,true,true,true,true,true,true,true,true,true,true,true,true,true,true,true,true,true,true,true,true,true,true,true,true,true,true,true,true,true,true,true,true,true] rfl rfl (any_of HT_.out (by kernel_rfl)) (fun _ _ _ h=>h) (Or.inl ⟨by rfl,?_⟩) ?_ ?_;rotate_left;(focus (intro w';go_simp;with_reducible rfl));rotate_left;(focus (simp only [Act.put,sA_,sB_,sC_,i64_w,i32_w];rfl))
                  refine done_ (done_of HT_.out (by kernel_rfl)) ?_
                  have hcz49_0 : w48.cell? ⟨gb115,0,none⟩=some (.int .i64 a0_0):=(blk_cell BK115.out 0).trans rfl
                  have hcz49_1 : w48.cell? ⟨gb115,1,none⟩=some (.int .i64 a0_1):=(blk_cell BK115.out 1).trans rfl
                  have hcz49_2 : w48.cell? ⟨gb115,2,none⟩=some (.int .u64 a0_2):=(blk_cell BK115.out 2).trans rfl
                  have hcz49_3 : w48.cell? ⟨gb115,3,none⟩=some (.int .u64 a0_3):=(blk_cell BK115.out 3).trans rfl
                  have hcz49_4 : w48.cell? ⟨gb115,4,none⟩=some (.int .u32 a0_4):=(blk_cell BK115.out 4).trans rfl
                  have hcz49_5 : w48.cell? ⟨gb115,5,none⟩=some (.int .i64 a0_5):=(blk_cell BK115.out 5).trans rfl
                  have hcz49_6 : w48.cell? ⟨gb115,6,none⟩=some (.int .i64 a0_6):=(blk_cell BK115.out 6).trans rfl
                  have hcz49_7 : w48.cell? ⟨gb115,7,none⟩=some (.string a0_7):=(blk_cell BK115.out 7).trans rfl
                  have hcz49_8 : w48.cell? ⟨gb115,8,none⟩=some (.string a0_8):=(blk_cell BK115.out 8).trans rfl
                  have hcz49_9 : w48.cell? ⟨gb115,9,none⟩=some (.int .i64 a0_9):=(blk_cell BK115.out 9).trans rfl
                  have hcz49_10 : w48.cell? ⟨gb115,10,none⟩=some (.int .i64 a0_10):=(blk_cell BK115.out 10).trans rfl
                  have hcz49_11 : w48.cell? ⟨gb115,11,none⟩=some (.string a0_11):=(blk_cell BK115.out 11).trans rfl
                  have hcz49_12 : w48.cell? ⟨gb115,12,none⟩=some (.int .u32 a0_12):=(blk_cell BK115.out 12).trans rfl
                  have hcz49_13 : w48.cell? ⟨gb115,13,none⟩=some (.int .i64 a0_13):=(blk_cell BK115.out 13).trans rfl
                  have hcz49_14 : w48.cell? ⟨gb115,14,none⟩=some (.bool a0_14):=(blk_cell BK115.out 14).trans rfl
                  have hcz49_15 : w48.cell? ⟨gb115,15,none⟩=some (.slice A0_15 l0_15.length c0_15):=(blk_cell BK115.out 15).trans rfl
                  have hcz49_16 : w48.cell? ⟨gb115,16,none⟩=some (.slice A0_16 l0_16.length c0_16):=(blk_cell BK115.out 16).trans rfl
                  have hfz49_0:=blk_frozen BK115.out 0
                  have hfz49_1:=blk_frozen BK115.out 1
                  have hfz49_2:=blk_frozen BK115.out 2
                  have hfz49_3:=blk_frozen BK115.out 3
                  have hfz49_4:=blk_frozen BK115.out 4
                  have hfz49_5:=blk_frozen BK115.out 5
                  have hfz49_6:=blk_frozen BK115.out 6
                  have hfz49_7:=blk_frozen BK115.out 7
                  have hfz49_8:=blk_frozen BK115.out 8
                  have hfz49_9:=blk_frozen BK115.out 9
                  have hfz49_10:=blk_frozen BK115.out 10
                  have hfz49_11:=blk_frozen BK115.out 11
                  have hfz49_12:=blk_frozen BK115.out 12
                  have hfz49_13:=blk_frozen BK115.out 13
                  have hfz49_14:=blk_frozen BK115.out 14
                  have hfz49_15:=blk_frozen BK115.out 15
                  have hfz49_16:=blk_frozen BK115.out 16
                  go_upto_if 79 with (fail)
                  go_cut [4] from 80 to 80 (fun v4 wc=>∃ (kq : Nat) (x4_40 : Int),v4=.int .u64 x4_40∧Aside0 (girderref04_Bytes.j3 kq (x3_15 ++ (((((t120 ++ t121) ++ t122) ++ t123) ++ t124) ++ t125)) x4_40 a0_0 a0_1 a0_2 a0_3 a0_4 a0_5 a0_6 a0_7 a0_8 a0_9 a0_10 a0_11 a0_12 a0_13 a0_14 l0_15 l0_16=some r)∧Aside0 (kq≤kj21)∧Aside0 (wc.heap[gb115]?=some (.cells #[.int .i64 a0_0,.int .i64 a0_1,.int .u64 a0_2,.int .u64 a0_3,.int .u32 a0_4,.int .i64 a0_5,.int .i64 a0_6,.string a0_7,.string a0_8,.int .i64 a0_9,.int .i64 a0_10,.string a0_11,.int .u32 a0_12,.int .i64 a0_13,.bool a0_14,(.slice A0_15 l0_15.length c0_15),(.slice A0_16 l0_16.length c0_16)] 47 (0,0)))∧Aside0 (Below w.heap.size w wc))
                  case first =>
                   have H:=HC41.out
                   clear HC41
                   by_cases c50 : a0_14=true
                   ·subst c50
                    have H1 : (girderref04_Bytes.j3 kj21 (x3_15 ++ (((((t120 ++ t121) ++ t122) ++ t123) ++ t124) ++ t125)) 1 a0_0 a0_1 a0_2 a0_3 a0_4 a0_5 a0_6 a0_7 a0_8 a0_9 a0_10 a0_11 a0_12 a0_13 true l0_15 l0_16)=some r:=by rw [if_pos rfl] at H;exact H
                    clear H
                    have H:=H1
                    clear H1
                    have H':=Aside0.mk H
                    clear H
                    go_wp2
                    go_meet
                    case rel=>exact ⟨_,(1),(by first|rfl|(simp;done)|(simp [*];done)),H',⟨by have:=HJ6.out;have:=HJ15.out;have:=HJ21.out;first|omega|exact Nat.le_refl _⟩,⟨by (with_reducible repeat (first|refine blk_drewN ?_ _|refine blk_drew ?_|refine blk_alloc ?_ _));exact BK115.out⟩,⟨by repeat (first|(with_reducible first|exact HB.out|apply below_alloc|apply pw_below_drewN|apply below_drew1|refine below_set ?_ GE115.out)|exact HB.out)⟩⟩
                   ·replace c50:=Bool.eq_false_iff.mpr c50
                    subst c50
                    have H1 : (girderref04_Bytes.j3 kj21 (x3_15 ++ (((((t120 ++ t121) ++ t122) ++ t123) ++ t124) ++ t125)) 0 a0_0 a0_1 a0_2 a0_3 a0_4 a0_5 a0_6 a0_7 a0_8 a0_9 a0_10 a0_11 a0_12 a0_13 false l0_15 l0_16)=some r:=by rw [if_neg (show ¬ (false=true) by decide)] at H;exact H
                    clear H
                    have H:=H1
                    clear H1
                    have H':=Aside0.mk H
                    clear H
                    go_wp2
                    go_meet
                    case rel=>exact ⟨_,(0),(by first|rfl|(simp;done)|(simp [*];done)),H',⟨by have:=HJ6.out;have:=HJ15.out;have:=HJ21.out;first|omega|exact Nat.le_refl _⟩,⟨by (with_reducible repeat (first|refine blk_drewN ?_ _|refine blk_drew ?_|refine blk_alloc ?_ _));exact BK115.out⟩,⟨by repeat (first|(with_reducible first|exact HB.out|apply below_alloc|apply pw_below_drewN|apply below_drew1|refine below_set ?_ GE115.out)|exact HB.out)⟩⟩
                  case rest =>
                   clear HC41
                   try clear c2
                   try clear p2
                   try clear c3
                   try clear c4
                   try clear c5
                   try clear c27
                   try clear c30
                   try clear c30b0
                   try clear c30b1
                   try clear c30b2
                   try clear c32
                   try clear c32b0
                   try clear c32b1
                   try clear c32b2
                   try clear c33
                   try clear c34
                   try clear c34b0
                   try clear c34b1
                   try clear c34b2
                   try clear c36
                   try clear c36b0
                   try clear c36b1
                   try clear c36b2
                   try clear c38
                   try clear c38b0
                   try clear c38b1
                   try clear c38b2
                   try clear c39
                   try clear c39b0
                   try clear c39b1
                   try clear c39b2
                   try clear c40
                   try clear c40b0
                   try clear c40b1
                   try clear c50
                   try clear hcz49_0
                   try clear hcz49_1
                   try clear hcz49_10
                   try clear hcz49_11
                   try clear hcz49_12
                   try clear hcz49_13
                   try clear hcz49_14
                   try clear hcz49_15
                   try clear hcz49_16
                   try clear hcz49_2
                   try clear hcz49_3
                   try clear hcz49_4
                   try clear hcz49_5
                   try clear hcz49_6
                   try clear hcz49_7
                   try clear hcz49_8
                   try clear hcz49_9
                   try clear hfz15_11
                   try clear hfz15_12
                   try clear hfz15_13
                   try clear hfz15_14
                   try clear hfz15_15
                   try clear hfz15_16
                   try clear hfz15_2
                   try clear hfz15_3
                   try clear hfz15_4
                   try clear hfz15_5
                   try clear hfz15_6
                   try clear hfz15_7
                   try clear hfz15_8
                   try clear hfz15_9
                   try clear hfz20_0
                   try clear hfz20_1
                   try clear hfz20_10
                   try clear hfz20_11
                   try clear hfz20_12
                   try clear hfz20_13
                   try clear hfz20_14
                   try clear hfz20_15
                   try clear hfz20_16
                   try clear hfz20_2
                   try clear hfz20_3
                   try clear hfz20_4
                   try clear hfz20_5
                   try clear hfz20_6
                   try clear hfz20_7
                   try clear hfz20_8
                   try clear hfz20_9
                   try clear hfz24_0
                   try clear hfz24_1
                   try clear hfz24_10
                   try clear hfz24_11
                   try clear hfz24_12
                   try clear hfz24_13
                   try clear hfz24_14
                   try clear hfz24_15
                   try clear hfz24_16
                   try clear hfz24_2
                   try clear hfz24_3
                   try clear hfz24_4
                   try clear hfz24_5
                   try clear hfz24_6
                   try clear hfz24_7
                   try clear hfz24_8
                   try clear hfz24_9
                   try clear hfz25_0
                   try clear hfz25_1
                   try clear hfz25_10
                   try clear hfz25_11
                   try clear hfz25_12
                   try clear hfz25_13
                   try clear hfz25_14
                   try clear hfz25_15
                   try clear hfz25_16
                   try clear hfz25_2
                   try clear hfz25_3
                   try clear hfz25_4
                   try clear hfz25_5
                   try clear hfz25_6
                   try clear hfz25_7
                   try clear hfz25_8
                   try clear hfz25_9
                   try clear hfz49_0
                   try clear hfz49_1
                   try clear hfz49_10
                   try clear hfz49_11
                   try clear hfz49_12
                   try clear hfz49_13
                   try clear hfz49_14
                   try clear hfz49_15
                   try clear hfz49_16
                   try clear hfz49_2
                   try clear hfz49_3
                   try clear hfz49_4
                   try clear hfz49_5
                   try clear hfz49_6
                   try clear hfz49_7
                   try clear hfz49_8
                   try clear hfz49_9
                   try clear p2
                   obtain ⟨kq,x4_40,rfl,HA,HJ40,BK115,HB⟩:=hcut
                   cases kq with
                   | zero=>exact absurd HA.out (by simp [girderref04_Bytes.j3])
                   | succ kj40 =>
                    have H:=HA.out
                    clear HA
                    simp only [girderref04_Bytes.j3] at H
                    replace H:=Option.bind_eq_some_iff.mp H
                    obtain ⟨t126,A510,H⟩:=H
                    replace H : ((girderref04_text.f a0_11).bind fun t127=>(if t126.size + t127.size≤9223372036854775807 then ((girderref01_Put.f (IntKind.u64.wrap (a0_12)) 4).bind fun t128=>(if (t126 ++ t127).size + t128.size≤9223372036854775807 then ((girderref01_Put.f (IntKind.u64.wrap (a0_13)) 2).bind fun t129=>(if ((t126 ++ t127) ++ t128).size + t129.size≤9223372036854775807 then ((girderref01_Put.f x4_40 1).bind fun t130=>(if (((t126 ++ t127) ++ t128) ++ t129).size + t130.size≤9223372036854775807 then (if (x3_15 ++ (((((t120 ++ t121) ++ t122) ++ t123) ++ t124) ++ t125)).size + ((((t126 ++ t127) ++ t128) ++ t129) ++ t130).size≤9223372036854775807 then (girderref04_Bytes.j4 kj40 ((x3_15 ++ (((((t120 ++ t121) ++ t122) ++ t123) ++ t124) ++ t125)) ++ ((((t126 ++ t127) ++ t128) ++ t129) ++ t130)) a0_0 a0_1 a0_2 a0_3 a0_4 a0_5 a0_6 a0_7 a0_8 a0_9 a0_10 a0_11 a0_12 a0_13 a0_14 l0_15 l0_16) else (none)) else (none))) else (none))) else (none))) else (none)))=some r:=H
                    have A51:=Aside0.mk A510
                    clear A510
                    replace H:=Option.bind_eq_some_iff.mp H
                    obtain ⟨t127,A520,H⟩:=H
                    replace H : (if t126.size + t127.size≤9223372036854775807 then ((girderref01_Put.f (IntKind.u64.wrap (a0_12)) 4).bind fun t128=>(if (t126 ++ t127).size + t128.size≤9223372036854775807 then ((girderref01_Put.f (IntKind.u64.wrap (a0_13)) 2).bind fun t129=>(if ((t126 ++ t127) ++ t128).size + t129.size≤9223372036854775807 then ((girderref01_Put.f x4_40 1).bind fun t130=>(if (((t126 ++ t127) ++ t128) ++ t129).size + t130.size≤9223372036854775807 then (if (x3_15 ++ (((((t120 ++ t121) ++ t122) ++ t123) ++ t124) ++ t125)).size + ((((t126 ++ t127) ++ t128) ++ t129) ++ t130).size≤9223372036854775807 then (girderref04_Bytes.j4 kj40 ((x3_15 ++ (((((t120 ++ t121) ++ t122) ++ t123) ++ t124) ++ t125)) ++ ((((t126 ++ t127) ++ t128) ++ t129) ++ t130)) a0_0 a0_1 a0_2 a0_3 a0_4 a0_5 a0_6 a0_7 a0_8 a0_9 a0_10 a0_11 a0_12 a0_13 a0_14 l0_15 l0_16) else (none)) else (none))) else (none))) else (none))) else (none))=some r:=H
                    have A52:=Aside0.mk A520
                    clear A520
                    by_cases c53 : t126.size + t127.size≤9223372036854775807
                    ·rw [if_pos c53] at H
                     have c53b0:=eq_true c53
                     have c53b1 : decide (t126.size + t127.size≤9223372036854775807)=true:=decide_eq_true c53
                     try have c53b2 : (9223372036854775807 < t126.size + t127.size)=False:=eq_false (Nat.not_lt.2 c53)
                     replace H:=Option.bind_eq_some_iff.mp H
                     obtain ⟨t128,A540,H⟩:=H
                     replace H : (if (t126 ++ t127).size + t128.size≤9223372036854775807 then ((girderref01_Put.f (IntKind.u64.wrap (a0_13)) 2).bind fun t129=>(if ((t126 ++ t127) ++ t128).size + t129.size≤9223372036854775807 then ((girderref01_Put.f x4_40 1).bind fun t130=>(if (((t126 ++ t127) ++ t128) ++ t129).size + t130.size≤9223372036854775807 then (if (x3_15 ++ (((((t120 ++ t121) ++ t122) ++ t123) ++ t124) ++ t125)).size + ((((t126 ++ t127) ++ t128) ++ t129) ++ t130).size≤9223372036854775807 then (girderref04_Bytes.j4 kj40 ((x3_15 ++ (((((t120 ++ t121) ++ t122) ++ t123) ++ t124) ++ t125)) ++ ((((t126 ++ t127) ++ t128) ++ t129) ++ t130)) a0_0 a0_1 a0_2 a0_3 a0_4 a0_5 a0_6 a0_7 a0_8 a0_9 a0_10 a0_11 a0_12 a0_13 a0_14 l0_15 l0_16) else (none)) else (none))) else (none))) else (none))=some r:=H
                     have A54:=Aside0.mk A540
                     clear A540
                     by_cases c55 : (t126 ++ t127).size + t128.size≤9223372036854775807
                     ·rw [if_pos c55] at H
                      have c55b0:=eq_true c55
                      have c55b1 : decide ((t126 ++ t127).size + t128.size≤9223372036854775807)=true:=decide_eq_true c55
                      try have c55b2 : (9223372036854775807 < (t126 ++ t127).size + t128.size)=False:=eq_false (Nat.not_lt.2 c55)
                      try have c55b3:=c55b2
                      try simp only [ByteArray.size_append] at c55b3
                      replace H:=Option.bind_eq_some_iff.mp H
                      obtain ⟨t129,A560,H⟩:=H
                      replace H : (if ((t126 ++ t127) ++ t128).size + t129.size≤9223372036854775807 then ((girderref01_Put.f x4_40 1).bind fun t130=>(if (((t126 ++ t127) ++ t128) ++ t129).size + t130.size≤9223372036854775807 then (if (x3_15 ++ (((((t120 ++ t121) ++ t122) ++ t123) ++ t124) ++ t125)).size + ((((t126 ++ t127) ++ t128) ++ t129) ++ t130).size≤9223372036854775807 then (girderref04_Bytes.j4 kj40 ((x3_15 ++ (((((t120 ++ t121) ++ t122) ++ t123) ++ t124) ++ t125)) ++ ((((t126 ++ t127) ++ t128) ++ t129) ++ t130)) a0_0 a0_1 a0_2 a0_3 a0_4 a0_5 a0_6 a0_7 a0_8 a0_9 a0_10 a0_11 a0_12 a0_13 a0_14 l0_15 l0_16) else (none)) else (none))) else (none))=some r:=H
                      have A56:=Aside0.mk A560
                      clear A560
                      by_cases c57 : ((t126 ++ t127) ++ t128).size + t129.size≤9223372036854775807
                      ·rw [if_pos c57] at H
                       have c57b0:=eq_true c57
                       have c57b1 : decide (((t126 ++ t127) ++ t128).size + t129.size≤9223372036854775807)=true:=decide_eq_true c57
                       try have c57b2 : (9223372036854775807 < ((t126 ++ t127) ++ t128).size + t129.size)=False:=eq_false (Nat.not_lt.2 c57)
                       try have c57b3:=c57b2
                       try simp only [ByteArray.size_append] at c57b3
                       replace H:=Option.bind_eq_some_iff.mp H
                       obtain ⟨t130,A580,H⟩:=H
                       replace H : (if (((t126 ++ t127) ++ t128) ++ t129).size + t130.size≤9223372036854775807 then (if (x3_15 ++ (((((t120 ++ t121) ++ t122) ++ t123) ++ t124) ++ t125)).size + ((((t126 ++ t127) ++ t128) ++ t129) ++ t130).size≤9223372036854775807 then (girderref04_Bytes.j4 kj40 ((x3_15 ++ (((((t120 ++ t121) ++ t122) ++ t123) ++ t124) ++ t125)) ++ ((((t126 ++ t127) ++ t128) ++ t129) ++ t130)) a0_0 a0_1 a0_2 a0_3 a0_4 a0_5 a0_6 a0_7 a0_8 a0_9 a0_10 a0_11 a0_12 a0_13 a0_14 l0_15 l0_16) else (none)) else (none))=some r:=H
                       have A58:=Aside0.mk A580
                       clear A580
                       by_cases c59 : (((t126 ++ t127) ++ t128) ++ t129).size + t130.size≤9223372036854775807
                       ·rw [if_pos c59] at H
                        have c59b0:=eq_true c59
                        have c59b1 : decide ((((t126 ++ t127) ++ t128) ++ t129).size + t130.size≤9223372036854775807)=true:=decide_eq_true c59
                        try have c59b2 : (9223372036854775807 < (((t126 ++ t127) ++ t128) ++ t129).size + t130.size)=False:=eq_false (Nat.not_lt.2 c59)
                        try have c59b3:=c59b2
                        try simp only [ByteArray.size_append] at c59b3
                        by_cases c60 : (x3_15 ++ (((((t120 ++ t121) ++ t122) ++ t123) ++ t124) ++ t125)).size + ((((t126 ++ t127) ++ t128) ++ t129) ++ t130).size≤9223372036854775807
                        ·rw [if_pos c60] at H
                         have c60b0:=eq_true c60
                         have c60b1 : decide ((x3_15 ++ (((((t120 ++ t121) ++ t122) ++ t123) ++ t124) ++ t125)).size + ((((t126 ++ t127) ++ t128) ++ t129) ++ t130).size≤9223372036854775807)=true:=decide_eq_true c60
                         try have c60b2 : (9223372036854775807 < (x3_15 ++ (((((t120 ++ t121) ++ t122) ++ t123) ++ t124) ++ t125)).size + ((((t126 ++ t127) ++ t128) ++ t129) ++ t130).size)=False:=eq_false (Nat.not_lt.2 c60)
                         try have c60b3:=c60b2
                         try simp only [ByteArray.size_append] at c60b3
                         have H':=Aside0.mk H
                         clear H
                         try go_wp2
                         have n0_:=Aside0.mk (blk_drew BK115.out)
                         have n1_:=Aside0.mk (below_drew1 HB.out)
                         clear BK115
                         clear HB
                         have BK115:=n0_
                         have HB:=n1_
                         clear n0_ n1_
                         refine start_ (n:=24) (S:=fun w'=>w'.cell? ⟨gb115,0,none⟩=some (.int .i64 a0_0)∧w'.cell? ⟨gb115,1,none⟩=some (.int .i64 a0_1)∧w'.cell? ⟨gb115,2,none⟩=some (.int .u64 a0_2)∧w'.cell? ⟨gb115,3,none⟩=some (.int .u64 a0_3)∧w'.cell? ⟨gb115,4,none⟩=some (.int .u32 a0_4)∧w'.cell? ⟨gb115,5,none⟩=some (.int .i64 a0_5)∧w'.cell? ⟨gb115,6,none⟩=some (.int .i64 a0_6)∧w'.cell? ⟨gb115,7,none⟩=some (.string a0_7)∧w'.cell? ⟨gb115,8,none⟩=some (.string a0_8)∧w'.cell? ⟨gb115,9,none⟩=some (.int .i64 a0_9)∧w'.cell? ⟨gb115,10,none⟩=some (.int .i64 a0_10)∧w'.cell? ⟨gb115,11,none⟩=some (.string a0_11)∧w'.cell? ⟨gb115,12,none⟩=some (.int .u32 a0_12)∧w'.cell? ⟨gb115,13,none⟩=some (.int .i64 a0_13)∧w'.cell? ⟨gb115,14,none⟩=some (.bool a0_14)∧w'.cell? ⟨gb115,15,none⟩=some (.slice A0_15 l0_15.length c0_15)∧w'.cell? ⟨gb115,16,none⟩=some (.slice A0_16 l0_16.length c0_16)) (ds:=[]) #[false,false,false,false,false,false,false,false,false,false,false,false,false,false,false,false,false,false,false,false,false,false,false,false] (by kernel_rfl) rfl rfl ⟨(blk_cell BK115.out 0).trans rfl,(blk_cell BK115.out 1).trans rfl,(blk_cell BK115.out 2).trans rfl,(blk_cell BK115.out 3).trans rfl,(blk_cell BK115.out 4).trans rfl,(blk_cell BK115.out 5).trans rfl,(blk_cell BK115.out 6).trans rfl,(blk_cell BK115.out 7).trans rfl,(blk_cell BK115.out 8).trans rfl,(blk_cell BK115.out 9).trans rfl,(blk_cell BK115.out 10).trans rfl,(blk_cell BK115.out 11).trans rfl,(blk_cell BK115.out 12).trans rfl,(blk_cell BK115.out 13).trans rfl,(blk_cell BK115.out 14).trans rfl,(blk_cell BK115.out 15).trans rfl,(blk_cell BK115.out 16).trans rfl⟩ (fun hHeld=>?_);refine with_tabW girderref04_Bytes.tab10 girderref04_Bytes.bits10 (fun HT_ HW_=>?_)
                         generalize wc.drew=w61 at BK115 HB hHeld ⊢
                         refine pure_ (i:=0) (N:=some 80) (v:=?_) (a':=?_) #[true,false,false,false,false,false,false,false,false,false,false,false,false,false,false,false,false,false,false,false,false,false,false,false] rfl rfl (any_of HT_.out (by kernel_rfl)) (fun _ _ _ h=>h) (Or.inl ⟨by rfl,?_⟩) ?_ ?_;rotate_left;(focus (intro w';go_simp;with_reducible rfl));rotate_left;(focus (simp only [Act.put,sA_,sB_,sC_,i64_w,i32_w];rfl))
                         refine pure_ (i:=1) (N:=some 81) (v:=?_) (a':=?_) #[true,true,false,false,false,false,false,false,false,false,false,false,false,false,false,false,false,false,false,false,false,false,false,false] rfl rfl (any_of HT_.out (by kernel_rfl)) (fun _ _ _ h=>h) (Or.inl ⟨by rfl,?_⟩) ?_ ?_;rotate_left;(focus (intro w';go_simp;with_reducible rfl));rotate_left;(focus (simp only [Act.put,sA_,sB_,sC_,i64_w,i32_w];rfl))
                         refine pure_ (i:=5) (N:=some 85) (v:=?_) (a':=?_) #[true,true,false,false,false,true,false,false,false,false,false,false,false,false,false,false,false,false,false,false,false,false,false,false] rfl rfl (any_of HT_.out (by kernel_rfl)) (fun _ _ _ h=>h) (Or.inl ⟨by rfl,?_⟩) ?_ ?_;rotate_left;(focus (intro w';go_simp;with_reducible rfl));rotate_left;(focus (simp only [Act.put,sA_,sB_,sC_,i64_w,i32_w];rfl))
                         refine pure_ (i:=9) (N:=some 89) (v:=?_) (a':=?_) #[true,true,false,false,false,true,false,false,false,true,false,false,false,false,false,false,false,false,false,false,false,false,false,false] rfl rfl (any_of HT_.out (by kernel_rfl)) (fun _ _ _ h=>h) (Or.inl ⟨by rfl,?_⟩) ?_ ?_;rotate_left;(focus (intro w';go_simp;with_reducible rfl));rotate_left;(focus (simp only [Act.put,sA_,sB_,sC_,i64_w,i32_w];rfl))
                         refine pure_ (i:=14) (N:=some 94) (v:=?_) (a':=?_) #[true,true,false,false,false,true,false,false,false,true,false,false,false,false,true,false,false,false,false,false,false,false,false,false] rfl rfl (any_of HT_.out (by kernel_rfl)) (fun _ _ _ h=>h) (Or.inl ⟨by rfl,?_⟩) ?_ ?_;rotate_left;(focus (intro w';go_simp;with_reducible rfl));rotate_left;(focus (simp only [Act.put,sA_,sB_,sC_,i64_w,i32_w];rfl))
                         refine pure_ (i:=19) (N:=some 99) (v:=?_) (a':=?_) #[true,true,false,false,false,true,false,false,false,true,false,false,false,false,true,false,false,false,false,true,false,false,false,false] rfl rfl (any_of HT_.out (by kernel_rfl)) (fun _ _ _ h=>h) (Or.inl ⟨by rfl,?_⟩) ?_ ?_;rotate_left;(focus (intro w';go_simp;with_reducible rfl));rotate_left;(focus (simp only [Act.put,sA_,sB_,sC_,i64_w,i32_w];rfl))
                         refine take_ (i:=2) (N:=some 82) (v:=?_) (a':=?_) #[true,true,true,false,false,true,false,false,false,true,false,false,false,false,true,false,false,false,false,true,false,false,false,false] rfl rfl (take_ofW HT_.out HW_.out (by kernel_rfl)) (fun _ _ _ h=>h) (Or.inl ⟨by rfl,?_⟩) hHeld ?_ ?_;rotate_left;(focus (rintro w' ⟨s0,s1,s2,s3,s4,s5,s6,s7,s8,s9,s10,s11,s12,s13,s14,s15,s16⟩;go_simp;with_reducible rfl));rotate_left;(focus (simp only [Act.put,sA_,sB_,sC_,i64_w,i32_w];rfl))
                         refine pure_ (i:=3) (N:=some 83) (v:=?_) (a':=?_) #[true,true,true,true,false,true,false,false,false,true,false,false,false,false,true,false,false,false,false,true,false,false,false,false] rfl rfl (any_of HT_.out (by kernel_rfl)) (fun _ _ _ h=>h) (Or.inl ⟨by rfl,?_⟩) ?_ ?_;rotate_left;(focus (intro w';go_simp;with_reducible rfl));rotate_left;(focus (simp only [Act.put,sA_,sB_,sC_,i64_w,i32_w];rfl))
                         refine take_ (i:=6) (N:=some 86) (v:=?_) (a':=?_) #[true,true,true,true,false,true,true,false,false,true,false,false,false,false,true,false,false,false,false,true,false,false,false,false] rfl rfl (take_ofW HT_.out HW_.out (by kernel_rfl)) (fun _ _ _ h=>h) (Or.inl ⟨by rfl,?_⟩) hHeld ?_ ?_;rotate_left;(focus (rintro w' ⟨s0,s1,s2,s3,s4,s5,s6,s7,s8,s9,s10,s11,s12,s13,s14,s15,s16⟩;go_simp;with_reducible rfl));rotate_left;(focus (simp only [Act.put,sA_,sB_,sC_,i64_w,i32_w];rfl))
                         refine take_ (i:=10) (N:=some 90) (v:=?_) (a':=?_) #[true,true,true,true,false,true,true,false,false,true,true,false,false,false,true,false,false,false,false,true,false,false,false,false] rfl rfl (take_ofW HT_.out HW_.out (by kernel_rfl)) (fun _ _ _ h=>h) (Or.inl ⟨by rfl,?_⟩) hHeld ?_ ?_;rotate_left;(focus (rintro w' ⟨s0,s1,s2,s3,s4,s5,s6,s7,s8,s9,s10,s11,s12,s13,s14,s15,s16⟩;go_simp;with_reducible rfl));rotate_left;(focus (simp only [Act.put,sA_,sB_,sC_,i64_w,i32_w];rfl))
                         refine pure_ (i:=11) (N:=some 91) (v:=?_) (a':=?_) #[true,true,true,true,false,true,true,false,false,true,true,true,false,false,true,false,false,false,false,true,false,false,false,false] rfl rfl (any_of HT_.out (by kernel_rfl)) (fun _ _ _ h=>h) (Or.inl ⟨by rfl,?_⟩) ?_ ?_;rotate_left;(focus (intro w';go_simp;with_reducible rfl));rotate_left;(focus (simp only [Act.put,sA_,sB_,sC_,i64_w,i32_w];rfl))
                         refine take_ (i:=15) (N:=some 95) (v:=?_) (a':=?_) #[true,true,true,true,false,true,true,false,false,true,true,true,false,false,true,true,false,false,false,true,false,false,false,false] rfl rfl (take_ofW HT_.out HW_.out (by kernel_rfl)) (fun _ _ _ h=>h) (Or.inl ⟨by rfl,?_⟩) hHeld ?_ ?_;rotate_left;(focus (rintro w' ⟨s0,s1,s2,s3,s4,s5,s6,s7,s8,s9,s10,s11,s12,s13,s14,s15,s16⟩;go_simp;with_reducible rfl));rotate_left;(focus (simp only [Act.put,sA_,sB_,sC_,i64_w,i32_w];rfl))
                         refine pure_ (i:=16) (N:=some 96) (v:=?_) (a':=?_) #[true,true,true,true,false,true,true,false,false,true,true,true,false,false,true,true,true,false,false,true,false,false,false,false] rfl rfl (any_of HT_.out (by kernel_rfl)) (fun _ _ _ h=>h) (Or.inl ⟨by rfl,?_⟩) ?_ ?_;rotate_left;(focus (intro w';go_simp;with_reducible rfl));rotate_left;(focus (simp only [Act.put,sA_,sB_,sC_,i64_w,i32_w];rfl))
                         refine one_ (i:=4) (N:=some 84) #[true,true,true,true,true,true,true,false,false,true,true,true,false,false,true,true,true,false,false,true,false,false,false,false] rfl rfl (one_of HT_.out (by kernel_rfl)) (by decide) (fun K hK=>?_)
                         refine goes_ Try.func32 (by kernel_rfl) rfl #[.int .u64 (IntKind.u64.wrap (a0_10)),.int .i64 2] (by rfl) rfl rfl (by (try simp only [List.map_toArray,List.map_cons,List.map_nil]);first|done|rfl|(simp only [List.length_drop,List.length_take];rfl)) ?_
                         with_reducible refine (girderref01_Put.calls (IntKind.u64.wrap (a0_10)) 2 t126 _ A51.out).mono ?_
                         rintro e w62 ⟨rfl,hb⟩
                         refine ⟨_,rfl,?_⟩
                         have n0_:=Aside0.mk (blk_below (g:=gb115) (o:=.cells #[.int .i64 a0_0,.int .i64 a0_1,.int .u64 a0_2,.int .u64 a0_3,.int .u32 a0_4,.int .i64 a0_5,.int .i64 a0_6,.string a0_7,.string a0_8,.int .i64 a0_9,.int .i64 a0_10,.string a0_11,.int .u32 a0_12,.int .i64 a0_13,.bool a0_14,.slice A0_15 l0_15.length c0_15,.slice A0_16 l0_16.length c0_16] 47 (0,0)) (by (with_reducible repeat (first|refine blk_drewN ?_ _|refine blk_drew ?_|refine blk_alloc ?_ _));exact BK115.out) hb)
                         have n1_:=Aside0.mk (below_step (by repeat (first|(with_reducible first|exact HB.out|apply below_alloc|apply pw_below_drewN|apply below_drew1|refine below_set ?_ GE115.out)|exact HB.out)) hb)
                         clear BK115
                         clear HB
                         have BK115:=n0_
                         have HB:=n1_
                         clear n0_ n1_
                         (try clear hb)
                         (try clear hb2)
                         (try clear hk)
                         (try clear hi)
                         refine hK.out _ _ ⟨(blk_cell BK115.out 0).trans rfl,(blk_cell BK115.out 1).trans rfl,(blk_cell BK115.out 2).trans rfl,(blk_cell BK115.out 3).trans rfl,(blk_cell BK115.out 4).trans rfl,(blk_cell BK115.out 5).trans rfl,(blk_cell BK115.out 6).trans rfl,(blk_cell BK115.out 7).trans rfl,(blk_cell BK115.out 8).trans rfl,(blk_cell BK115.out 9).trans rfl,(blk_cell BK115.out 10).trans rfl,(blk_cell BK115.out 11).trans rfl,(blk_cell BK115.out 12).trans rfl,(blk_cell BK115.out 13).trans rfl,(blk_cell BK115.out 14).trans rfl,(blk_cell BK115.out 15).trans rfl,(blk_cell BK115.out 16).trans rfl⟩ (fun hHeld=>?_)
                         clear hK K
                         refine norm_ (a':=?_) ?_ ?_
                         rotate_left
                         ·show Act.put _ (some 84) _=_
                          simp only [Act.put,sA_,sB_,sC_,i64_w,i32_w]
                          rfl
                         refine one_ (i:=7) (N:=some 87) #[true,true,true,true,true,true,true,true,false,true,true,true,false,false,true,true,true,false,false,true,false,false,false,false] rfl rfl (one_of HT_.out (by kernel_rfl)) (by decide) (fun K hK=>?_)
                         refine goes_ Try.func33 (by kernel_rfl) rfl #[.string a0_11] (by rfl) rfl rfl (by (try simp only [List.map_toArray,List.map_cons,List.map_nil]);first|done|rfl|(simp only [List.length_drop,List.length_take];rfl)) ?_
                         with_reducible refine (girderref04_text.calls a0_11 t127 _ A52.out).mono ?_
                         rintro e w63 ⟨rfl,hb⟩
                         refine ⟨_,rfl,?_⟩
                         have n0_:=Aside0.mk (blk_below (g:=gb115) (o:=.cells #[.int .i64 a0_0,.int .i64 a0_1,.int .u64 a0_2,.int .u64 a0_3,.int .u32 a0_4,.int .i64 a0_5,.int .i64 a0_6,.string a0_7,.string a0_8,.int .i64 a0_9,.int .i64 a0_10,.string a0_11,.int .u32 a0_12,.int .i64 a0_13,.bool a0_14,.slice A0_15 l0_15.length c0_15,.slice A0_16 l0_16.length c0_16] 47 (0,0)) (by (with_reducible repeat (first|refine blk_drewN ?_ _|refine blk_drew ?_|refine blk_alloc ?_ _));exact BK115.out) hb)
                         have n1_:=Aside0.mk (below_step (by repeat (first|(with_reducible first|exact HB.out|apply below_alloc|apply pw_below_drewN|apply below_drew1|refine below_set ?_ GE115.out)|exact HB.out)) hb)
                         clear BK115
                         clear HB
                         have BK115:=n0_
                         have HB:=n1_
                         clear n0_ n1_
                         (try clear hb)
                         (try clear hb2)
                         (try clear hk)
                         (try clear hi)
                         refine hK.out _ _ ⟨(blk_cell BK115.out 0).trans rfl,(blk_cell BK115.out 1).trans rfl,(blk_cell BK115.out 2).trans rfl,(blk_cell BK115.out 3).trans rfl,(blk_cell BK115.out 4).trans rfl,(blk_cell BK115.out 5).trans rfl,(blk_cell BK115.out 6).trans rfl,(blk_cell BK115.out 7).trans rfl,(blk_cell BK115.out 8).trans rfl,(blk_cell BK115.out 9).trans rfl,(blk_cell BK115.out 10).trans rfl,(blk_cell BK115.out 11).trans rfl,(blk_cell BK115.out 12).trans rfl,(blk_cell BK115.out 13).trans rfl,(blk_cell BK115.out 14).trans rfl,(blk_cell BK115.out 15).trans rfl,(blk_cell BK115.out 16).trans rfl⟩ (fun hHeld=>?_)
                         clear hK K
                         refine norm_ (a':=?_) ?_ ?_
                         rotate_left
                         ·show Act.put _ (some 87) _=_
                          simp only [Act.put,sA_,sB_,sC_,i64_w,i32_w]
                          rfl
                         refine pure_ (i:=8) (N:=some 88) (v:=?_) (a':=?_) #[true,true,true,true,true,true,true,true,true,true,true,true,false,false,true,true,true,false,false,true,false,false,false,false] rfl rfl (any_of HT_.out (by kernel_rfl)) (fun _ _ _ h=>h) (Or.inl ⟨by rfl,?_⟩) ?_ ?_;rotate_left;(focus (intro w';go_simp;with_reducible rfl));rotate_left;(focus (simp only [Act.put,sA_,sB_,sC_,i64_w,i32_w];rfl))
                         refine one_ (i:=12) (N:=some 92) #[true,true,true,true,true,true,true,true,true,true,true,true,true,false,true,true,true,false,false,true,false,false,false,false] rfl rfl (one_of HT_.out (by kernel_rfl)) (by decide) (fun K hK=>?_)
                         refine goes_ Try.func32 (by kernel_rfl) rfl #[.int .u64 (IntKind.u64.wrap (a0_12)),.int .i64 4] (by rfl) rfl rfl (by (try simp only [List.map_toArray,List.map_cons,List.map_nil]);first|done|rfl|(simp only [List.length_drop,List.length_take];rfl)) ?_
                         with_reducible refine (girderref01_Put.calls (IntKind.u64.wrap (a0_12)) 4 t128 _ A54.out).mono ?_
                         rintro e w64 ⟨rfl,hb⟩
                         refine ⟨_,rfl,?_⟩
                         have n0_:=Aside0.mk (blk_below (g:=gb115) (o:=.cells #[.int .i64 a0_0,.int .i64 a0_1,.int .u64 a0_2,.int .u64 a0_3,.int .u32 a0_4,.int .i64 a0_5,.int .i64 a0_6,.string a0_7,.string a0_8,.int .i64 a0_9,.int .i64 a0_10,.string a0_11,.int .u32 a0_12,.int .i64 a0_13,.bool a0_14,.slice A0_15 l0_15.length c0_15,.slice A0_16 l0_16.length c0_16] 47 (0,0)) (by (with_reducible repeat (first|refine blk_drewN ?_ _|refine blk_drew ?_|refine blk_alloc ?_ _));exact BK115.out) hb)
                         have n1_:=Aside0.mk (below_step (by repeat (first|(with_reducible first|exact HB.out|apply below_alloc|apply pw_below_drewN|apply below_drew1|refine below_set ?_ GE115.out)|exact HB.out)) hb)
                         clear BK115
                         clear HB
                         have BK115:=n0_
                         have HB:=n1_
                         clear n0_ n1_
                         (try clear hb)
                         (try clear hb2)
                         (try clear hk)
                         (try clear hi)
                         refine hK.out _ _ ⟨(blk_cell BK115.out 0).trans rfl,(blk_cell BK115.out 1).trans rfl,(blk_cell BK115.out 2).trans rfl,(blk_cell BK115.out 3).trans rfl,(blk_cell BK115.out 4).trans rfl,(blk_cell BK115.out 5).trans rfl,(blk_cell BK115.out 6).trans rfl,(blk_cell BK115.out 7).trans rfl,(blk_cell BK115.out 8).trans rfl,(blk_cell BK115.out 9).trans rfl,(blk_cell BK115.out 10).trans rfl,(blk_cell BK115.out 11).trans rfl,(blk_cell BK115.out 12).trans rfl,(blk_cell BK115.out 13).trans rfl,(blk_cell BK115.out 14).trans rfl,(blk_cell BK115.out 15).trans rfl,(blk_cell BK115.out 16).trans rfl⟩ (fun hHeld=>?_)
                         clear hK K
                         refine norm_ (a':=?_) ?_ ?_
                         rotate_left
                         ·show Act.put _ (some 92) _=_
                          simp only [Act.put,sA_,sB_,sC_,i64_w,i32_w]
                          rfl
                         refine pure_ (i:=13) (N:=some 93) (v:=?_) (a':=?_) #[true,true,true,true,true,true,true,true,true,true,true,true,true,true,true,true,true,false,false,true,false,false,false,false] rfl rfl (any_of HT_.out (by kernel_rfl)) (fun _ _ _ h=>h) (Or.inl ⟨by rfl,?_⟩) ?_ ?_;rotate_left;(focus (intro w';go_simp;with_reducible rfl));rotate_left;(focus (simp only [Act.put,sA_,sB_,sC_,i64_w,i32_w];rfl))
                         refine one_ (i:=17) (N:=some 97) #[true,true,true,true,true,true,true,true,true,true,true,true,true,true,true,true,true,true,false,true,false,false,false,false] rfl rfl (one_of HT_.out (by kernel_rfl)) (by decide) (fun K hK=>?_)
                         refine goes_ Try.func32 (by kernel_rfl) rfl #[.int .u64 (IntKind.u64.wrap (a0_13)),.int .i64 2] (by rfl) rfl rfl (by (try simp only [List.map_toArray,List.map_cons,List.map_nil]);first|done|rfl|(simp only [List.length_drop,List.length_take];rfl)) ?_
                         with_reducible refine (girderref01_Put.calls (IntKind.u64.wrap (a0_13)) 2 t129 _ A56.out).mono ?_
                         rintro e w65 ⟨rfl,hb⟩
                         refine ⟨_,rfl,?_⟩
                         have n0_:=Aside0.mk (blk_below (g:=gb115) (o:=.cells #[.int .i64 a0_0,.int .i64 a0_1,.int .u64 a0_2,.int .u64 a0_3,.int .u32 a0_4,.int .i64 a0_5,.int .i64 a0_6,.string a0_7,.string a0_8,.int .i64 a0_9,.int .i64 a0_10,.string a0_11,.int .u32 a0_12,.int .i64 a0_13,.bool a0_14,.slice A0_15 l0_15.length c0_15,.slice A0_16 l0_16.length c0_16] 47 (0,0)) (by (with_reducible repeat (first|refine blk_drewN ?_ _|refine blk_drew ?_|refine blk_alloc ?_ _));exact BK115.out) hb)
                         have n1_:=Aside0.mk (below_step (by repeat (first|(with_reducible first|exact HB.out|apply below_alloc|apply pw_below_drewN|apply below_drew1|refine below_set ?_ GE115.out)|exact HB.out)) hb)
                         clear BK115
                         clear HB
                         have BK115:=n0_
                         have HB:=n1_
                         clear n0_ n1_
                         (try clear hb)
                         (try clear hb2)
                         (try clear hk)
                         (try clear hi)
                         refine hK.out _ _ ⟨(blk_cell BK115.out 0).trans rfl,(blk_cell BK115.out 1).trans rfl,(blk_cell BK115.out 2).trans rfl,(blk_cell BK115.out 3).trans rfl,(blk_cell BK115.out 4).trans rfl,(blk_cell BK115.out 5).trans rfl,(blk_cell BK115.out 6).trans rfl,(blk_cell BK115.out 7).trans rfl,(blk_cell BK115.out 8).trans rfl,(blk_cell BK115.out 9).trans rfl,(blk_cell BK115.out 10).trans rfl,(blk_cell BK115.out 11).trans rfl,(blk_cell BK115.out 12).trans rfl,(blk_cell BK115.out 13).trans rfl,(blk_cell BK115.out 14).trans rfl,(blk_cell BK115.out 15).trans rfl,(blk_cell BK115.out 16).trans rfl⟩ (fun hHeld=>?_)
                         clear hK K
                         refine norm_ (a':=?_) ?_ ?_
                         rotate_left
                         ·show Act.put _ (some 97) _=_
                          simp only [Act.put,sA_,sB_,sC_,i64_w,i32_w]
                          rfl
                         refine pure_ (i:=18) (N:=some 98) (v:=?_) (a':=?_) #[true,true,true,true,true,true,true,true,true,true,true,true,true,true,true,true,true,true,true,true,false,false,false,false] rfl rfl (any_of HT_.out (by kernel_rfl)) (fun _ _ _ h=>h) (Or.inl ⟨by rfl,?_⟩) ?_ ?_;rotate_left;(focus (intro w';go_simp;with_reducible rfl));rotate_left;(focus (simp only [Act.put,sA_,sB_,sC_,i64_w,i32_w];rfl))
                         refine one_ (i:=20) (N:=some 100) #[true,true,true,true,true,true,true,true,true,true,true,true,true,true,true,true,true,true,true,true,true,false,false,false] rfl rfl (one_of HT_.out (by kernel_rfl)) (by decide) (fun K hK=>?_)
                         refine goes_ Try.func32 (by kernel_rfl) rfl #[.int .u64 x4_40,.int .i64 1] (by rfl) rfl rfl (by (try simp only [List.map_toArray,List.map_cons,List.map_nil]);first|done|rfl|(simp only [List.length_drop,List.length_take];rfl)) ?_
                         with_reducible refine (girderref01_Put.calls x4_40 1 t130 _ A58.out).mono ?_
                         rintro e w66 ⟨rfl,hb⟩
                         refine ⟨_,rfl,?_⟩
                         have n0_:=Aside0.mk (blk_below (g:=gb115) (o:=.cells #[.int .i64 a0_0,.int .i64 a0_1,.int .u64 a0_2,.int .u64 a0_3,.int .u32 a0_4,.int .i64 a0_5,.int .i64 a0_6,.string a0_7,.string a0_8,.int .i64 a0_9,.int .i64 a0_10,.string a0_11,.int .u32 a0_12,.int .i64 a0_13,.bool a0_14,.slice A0_15 l0_15.length c0_15,.slice A0_16 l0_16.length c0_16] 47 (0,0)) (by (with_reducible repeat (first|refine blk_drewN ?_ _|refine blk_drew ?_|refine blk_alloc ?_ _));exact BK115.out) hb)
                         have n1_:=Aside0.mk (below_step (by repeat (first|(with_reducible first|exact HB.out|apply below_alloc|apply pw_below_drewN|apply below_drew1|refine below_set ?_ GE115.out)|exact HB.out)) hb)
                         clear BK115
                         clear HB
                         have BK115:=n0_
                         have HB:=n1_
                         clear n0_ n1_
                         (try clear hb)
                         (try clear hb2)
                         (try clear hk)
                         (try clear hi)
                         refine hK.out _ _ ⟨(blk_cell BK115.out 0).trans rfl,(blk_cell BK115.out 1).trans rfl,(blk_cell BK115.out 2).trans rfl,(blk_cell BK115.out 3).trans rfl,(blk_cell BK115.out 4).trans rfl,(blk_cell BK115.out 5).trans rfl,(blk_cell BK115.out 6).trans rfl,(blk_cell BK115.out 7).trans rfl,(blk_cell BK115.out 8).trans rfl,(blk_cell BK115.out 9).trans rfl,(blk_cell BK115.out 10).trans rfl,(blk_cell BK115.out 11).trans rfl,(blk_cell BK115.out 12).trans rfl,(blk_cell BK115.out 13).trans rfl,(blk_cell BK115.out 14).trans rfl,(blk_cell BK115.out 15).trans rfl,(blk_cell BK115.out 16).trans rfl⟩ (fun hHeld=>?_)
                         clear hK K
                         refine norm_ (a':=?_) ?_ ?_
                         rotate_left
                         ·show Act.put _ (some 100) _=_
                          simp only [Act.put,sA_,sB_,sC_,i64_w,i32_w]
                          rfl
                         refine pure_ (i:=21) (N:=some 101) (v:=?_) (a':=?_) #[true,true,true,true,true,true,true,true,true,true,true,true,true,true,true,true,true,true,true,true,true,true,false,false] rfl rfl (any_of HT_.out (by kernel_rfl)) (fun _ _ _ h=>h) (Or.inl ⟨by rfl,?_⟩) ?_ ?_;rotate_left;(focus (intro w';go_simp;with_reducible rfl));rotate_left;(focus (simp only [Act.put,sA_,sB_,sC_,i64_w,i32_w];rfl))
                         refine pure_ (i:=22) (N:=some 102) (v:=?_) (a':=?_) #[true,true,true,true,true,true,true,true,true,true,true,true,true,true,true,true,true,true,true,true,true,true,true,false] rfl rfl (any_of HT_.out (by kernel_rfl)) (fun _ _ _ h=>h) (Or.inl ⟨by rfl,?_⟩) ?_ ?_;rotate_left;(focus (intro w';go_simp;with_reducible rfl));rotate_left;(focus (simp only [Act.put,sA_,sB_,sC_,i64_w,i32_w];rfl))
                         refine pure_ (i:=23) (N:=some 3) (v:=?_) (a':=?_) #[true,true,true,true,true,true,true,true,true,true,true,true,true,true,true,true,true,true,true,true,true,true,true,true] rfl rfl (any_of HT_.out (by kernel_rfl)) (fun _ _ _ h=>h) (Or.inl ⟨by rfl,?_⟩) ?_ ?_;rotate_left;(focus (intro w';go_simp;with_reducible rfl));rotate_left;(focus (simp only [Act.put,sA_,sB_,sC_,i64_w,i32_w];rfl))
                         refine done_ (done_of HT_.out (by kernel_rfl)) ?_
                         try go_wp2
                         go_meet
                         case rel=>exact ⟨_,((x3_15 ++ (((((t120 ++ t121) ++ t122) ++ t123) ++ t124) ++ t125)) ++ ((((t126 ++ t127) ++ t128) ++ t129) ++ t130)),(by first|rfl|(simp;done)|(simp [*];done)),H',⟨by have:=HJ6.out;have:=HJ15.out;have:=HJ21.out;have:=HJ40.out;first|omega|exact Nat.le_refl _⟩,⟨by (with_reducible repeat (first|refine blk_drewN ?_ _|refine blk_drew ?_|refine blk_alloc ?_ _));exact BK115.out⟩,⟨by repeat (first|(with_reducible first|exact HB.out|apply below_alloc|apply pw_below_drewN|apply below_drew1|refine below_set ?_ GE115.out)|exact HB.out)⟩⟩
                        ·rw [if_neg c60] at H
                         exact absurd H (by simp)
                       ·rw [if_neg c59] at H
                        exact absurd H (by simp)
                      ·rw [if_neg c57] at H
                       exact absurd H (by simp)
                     ·rw [if_neg c55] at H
                      exact absurd H (by simp)
                    ·rw [if_neg c53] at H
                     exact absurd H (by simp)
                 ·rw [if_neg c40] at H
                  have c40b0 : (a0_9 == 2)=false:=beq_eq_false_iff_ne.mpr c40
                  have c40b1 : (a0_9 != 2)=true:=bne_iff_ne.mpr c40
                  (first|rw [c40b0]|(simp only [i64_w,i32_w];rw [c40b0])|skip)
                  have H':=Aside0.mk H
                  clear H
                  try go_wp2
                  have n0_:=Aside0.mk (blk_drew BK115.out)
                  have n1_:=Aside0.mk (below_drew1 HB.out)
                  clear BK115
                  clear HB
                  have BK115:=n0_
                  have HB:=n1_
                  clear n0_ n1_
                  refine start_ (n:=34) (S:=fun w'=>w'.cell? ⟨gb115,0,none⟩=some (.int .i64 a0_0)∧w'.cell? ⟨gb115,1,none⟩=some (.int .i64 a0_1)∧w'.cell? ⟨gb115,2,none⟩=some (.int .u64 a0_2)∧w'.cell? ⟨gb115,3,none⟩=some (.int .u64 a0_3)∧w'.cell? ⟨gb115,4,none⟩=some (.int .u32 a0_4)∧w'.cell? ⟨gb115,5,none⟩=some (.int .i64 a0_5)∧w'.cell? ⟨gb115,6,none⟩=some (.int .i64 a0_6)∧w'.cell? ⟨gb115,7,none⟩=some (.string a0_7)∧w'.cell? ⟨gb115,8,none⟩=some (.string a0_8)∧w'.cell? ⟨gb115,9,none⟩=some (.int .i64 a0_9)∧w'.cell? ⟨gb115,10,none⟩=some (.int .i64 a0_10)∧w'.cell? ⟨gb115,11,none⟩=some (.string a0_11)∧w'.cell? ⟨gb115,12,none⟩=some (.int .u32 a0_12)∧w'.cell? ⟨gb115,13,none⟩=some (.int .i64 a0_13)∧w'.cell? ⟨gb115,14,none⟩=some (.bool a0_14)∧w'.cell? ⟨gb115,15,none⟩=some (.slice A0_15 l0_15.length c0_15)∧w'.cell? ⟨gb115,16,none⟩=some (.slice A0_16 l0_16.length c0_16)) (ds:=[]) #[false,false,false,false,false,false,false,false,false,false,false,false,false,false,false,false,false,false,false,false,false,false,false,false,false,false,false,false,false,false,false,false,false,false] (by kernel_rfl) rfl rfl ⟨(blk_cell BK115.out 0).trans rfl,(blk_cell BK115.out 1).trans rfl,(blk_cell BK115.out 2).trans rfl,(blk_cell BK115.out 3).trans rfl,(blk_cell BK115.out 4).trans rfl,(blk_cell BK115.out 5).trans rfl,(blk_cell BK115.out 6).trans rfl,(blk_cell BK115.out 7).trans rfl,(blk_cell BK115.out 8).trans rfl,(blk_cell BK115.out 9).trans rfl,(blk_cell BK115.out 10).trans rfl,(blk_cell BK115.out 11).trans rfl,(blk_cell BK115.out 12).trans rfl,(blk_cell BK115.out 13).trans rfl,(blk_cell BK115.out 14).trans rfl,(blk_cell BK115.out 15).trans rfl,(blk_cell BK115.out 16).trans rfl⟩ (fun hHeld=>?_);refine with_tabW girderref04_Bytes.tab5 girderref04_Bytes.bits5 (fun HT_ HW_=>?_)
                  generalize wc.drew=w67 at BK115 HB hHeld ⊢
                  refine pure_ (i:=0) (N:=some 42) (v:=?_) (a':=?_) #[true,false,false,false,false,false,false,false,false,false,false,false,false,false,false,false,false,false,false,false,false,false,false,false,false,false,false,false,false,false,false,false,false,false] rfl rfl (any_of HT_.out (by kernel_rfl)) (fun _ _ _ h=>h) (Or.inl ⟨by rfl,?_⟩) ?_ ?_;rotate_left;(focus (intro w';go_simp;with_reducible rfl));rotate_left;(focus (simp only [Act.put,sA_,sB_,sC_,i64_w,i32_w];rfl))
                  refine pure_ (i:=1) (N:=some 43) (v:=?_) (a':=?_) #[true,true,false,false,false,false,false,false,false,false,false,false,false,false,false,false,false,false,false,false,false,false,false,false,false,false,false,false,false,false,false,false,false,false] rfl rfl (any_of HT_.out (by kernel_rfl)) (fun _ _ _ h=>h) (Or.inl ⟨by rfl,?_⟩) ?_ ?_;rotate_left;(focus (intro w';go_simp;with_reducible rfl));rotate_left;(focus (simp only [Act.put,sA_,sB_,sC_,i64_w,i32_w];rfl))
                  refine pure_ (i:=5) (N:=some 47) (v:=?_) (a':=?_) #[true,true,false,false,false,true,false,false,false,false,false,false,false,false,false,false,false,false,false,false,false,false,false,false,false,false,false,false,false,false,false,false,false,false] rfl rfl (any_of HT_.out (by kernel_rfl)) (fun _ _ _ h=>h) (Or.inl ⟨by rfl,?_⟩) ?_ ?_;rotate_left;(focus (intro w';go_simp;with_reducible rfl));rotate_left;(focus (simp only [Act.put,sA_,sB_,sC_,i64_w,i32_w];rfl))
                  refine pure_ (i:=6) (N:=some 48) (v:=?_) (a':=?_) #[true,true,false,false,false,true,true,false,false,false,false,false,false,false,false,false,false,false,false,false,false,false,false,false,false,false,false,false,false,false,false,false,false,false] rfl rfl (any_of HT_.out (by kernel_rfl)) (fun _ _ _ h=>h) (Or.inl ⟨by rfl,?_⟩) ?_ ?_;rotate_left;(focus (intro w';go_simp;with_reducible rfl));rotate_left;(focus (simp only [Act.put,sA_,sB_,sC_,i64_w,i32_w];rfl))
                  refine pure_ (i:=11) (N:=some 53) (v:=?_) (a':=?_) #[true,true,false,false,false,true,true,false,false,false,false,true,false,false,false,false,false,false,false,false,false,false,false,false,false,false,false,false,false,false,false,false,false,false] rfl rfl (any_of HT_.out (by kernel_rfl)) (fun _ _ _ h=>h) (Or.inl ⟨by rfl,?_⟩) ?_ ?_;rotate_left;(focus (intro w';go_simp;with_reducible rfl));rotate_left;(focus (simp only [Act.put,sA_,sB_,sC_,i64_w,i32_w];rfl))
                  refine pure_ (i:=12) (N:=some 54) (v:=?_) (a':=?_) #[true,true,false,false,false,true,true,false,false,false,false,true,true,false,false,false,false,false,false,false,false,false,false,false,false,false,false,false,false,false,false,false,false,false] rfl rfl (any_of HT_.out (by kernel_rfl)) (fun _ _ _ h=>h) (Or.inl ⟨by rfl,?_⟩) ?_ ?_;rotate_left;(focus (intro w';go_simp;with_reducible rfl));rotate_left;(focus (simp only [Act.put,sA_,sB_,sC_,i64_w,i32_w];rfl))
                  refine pure_ (i:=17) (N:=some 59) (v:=?_) (a':=?_) #[true,true,false,false,false,true,true,false,false,false,false,true,true,false,false,false,false,true,false,false,false,false,false,false,false,false,false,false,false,false,false,false,false,false] rfl rfl (any_of HT_.out (by kernel_rfl)) (fun _ _ _ h=>h) (Or.inl ⟨by rfl,?_⟩) ?_ ?_;rotate_left;(focus (intro w';go_simp;with_reducible rfl));rotate_left;(focus (simp only [Act.put,sA_,sB_,sC_,i64_w,i32_w];rfl))
                  refine pure_ (i:=18) (N:=some 60) (v:=?_) (a':=?_) #[true,true,false,false,false,true,true,false,false,false,false,true,true,false,false,false,false,true,true,false,false,false,false,false,false,false,false,false,false,false,false,false,false,false] rfl rfl (any_of HT_.out (by kernel_rfl)) (fun _ _ _ h=>h) (Or.inl ⟨by rfl,?_⟩) ?_ ?_;rotate_left;(focus (intro w';go_simp;with_reducible rfl));rotate_left;(focus (simp only [Act.put,sA_,sB_,sC_,i64_w,i32_w];rfl))
                  refine pure_ (i:=22) (N:=some 64) (v:=?_) (a':=?_) #[true,true,false,false,false,true,true,false,false,false,false,true,true,false,false,false,false,true,true,false,false,false,true,false,false,false,false,false,false,false,false,false,false,false] rfl rfl (any_of HT_.out (by kernel_rfl)) (fun _ _ _ h=>h) (Or.inl ⟨by rfl,?_⟩) ?_ ?_;rotate_left;(focus (intro w';go_simp;with_reducible rfl));rotate_left;(focus (simp only [Act.put,sA_,sB_,sC_,i64_w,i32_w];rfl))
                  refine pure_ (i:=23) (N:=some 65) (v:=?_) (a':=?_) #[true,true,false,false,false,true,true,false,false,false,false,true,true,false,false,false,false,true,true,false,false,false,true,true,false,false,false,false,false,false,false,false,false,false] rfl rfl (any_of HT_.out (by kernel_rfl)) (fun _ _ _ h=>h) (Or.inl ⟨by rfl,?_⟩) ?_ ?_;rotate_left;(focus (intro w';go_simp;with_reducible rfl));rotate_left;(focus (simp only [Act.put,sA_,sB_,sC_,i64_w,i32_w];rfl))
                  refine pure_ (i:=27) (N:=some 69) (v:=?_) (a':=?_) #[true,true,false,false,false,true,true,false,false,false,false,true,true,false,false,false,false,true,true,false,false,false,true,true,false,false,false,true,false,false,false,false,false,false] rfl rfl (any_of HT_.out (by kernel_rfl)) (fun _ _ _ h=>h) (Or.inl ⟨by rfl,?_⟩) ?_ ?_;rotate_left;(focus (intro w';go_simp;with_reducible rfl));rotate_left;(focus (simp only [Act.put,sA_,sB_,sC_,i64_w,i32_w];rfl))
                  refine take_ (i:=2) (N:=some 44) (v:=?_) (a':=?_) #[true,true,true,false,false,true,true,false,false,false,false,true,true,false,false,false,false,true,true,false,false,false,true,true,false,false,false,true,false,false,false,false,false,false] rfl rfl (take_ofW HT_.out HW_.out (by kernel_rfl)) (fun _ _ _ h=>h) (Or.inl ⟨by rfl,?_⟩) hHeld ?_ ?_;rotate_left;(focus (rintro w' ⟨s0,s1,s2,s3,s4,s5,s6,s7,s8,s9,s10,s11,s12,s13,s14,s15,s16⟩;go_simp;with_reducible rfl));rotate_left;(focus (simp only [Act.put,sA_,sB_,sC_,i64_w,i32_w];rfl))
                  refine pure_ (i:=3) (N:=some 45) (v:=?_) (a':=?_) #[true,true,true,true,false,true,true,false,false,false,false,true,true,false,false,false,false,true,true,false,false,false,true,true,false,false,false,true,false,false,false,false,false,false] rfl rfl (any_of HT_.out (by kernel_rfl)) (fun _ _ _ h=>h) (Or.inl ⟨by rfl,?_⟩) ?_ ?_;rotate_left;(focus (intro w';go_simp;with_reducible rfl));rotate_left;(focus (simp only [Act.put,sA_,sB_,sC_,i64_w,i32_w];rfl))
                  refine take_ (i:=7) (N:=some 49) (v:=?_) (a':=?_) #[true,true,true,true,false,true,true,true,false,false,false,true,true,false,false,false,false,true,true,false,false,false,true,true,false,false,false,true,false,false,false,false,false,false] rfl rfl (take_ofW HT_.out HW_.out (by kernel_rfl)) (fun _ _ _ h=>h) (Or.inl ⟨by rfl,?_⟩) hHeld ?_ ?_;rotate_left;(focus (rintro w' ⟨s0,s1,s2,s3,s4,s5,s6,s7,s8,s9,s10,s11,s12,s13,s14,s15,s16⟩;go_simp;with_reducible rfl));rotate_left;(focus (simp only [Act.put,sA_,sB_,sC_,i64_w,i32_w];rfl))
                  refine pure_ (i:=8) (N:=some 50) (v:=?_) (a':=?_) #[true,true,true,true,false,true,true,true,true,false,false,true,true,false,false,false,false,true,true,false,false,false,true,true,false,false,false,true,false,false,false,false,false,false] rfl rfl (any_of HT_.out (by kernel_rfl)) (fun _ _ _ h=>h) (Or.inl ⟨by rfl,?_⟩) ?_ ?_;rotate_left;(focus (intro w';go_simp;with_reducible rfl));rotate_left;(focus (simp only [Act.put,sA_,sB_,sC_,i64_w,i32_w];rfl))
                  refine take_ (i:=13) (N:=some 55) (v:=?_) (a':=?_) #[true,true,true,true,false,true,true,true,true,false,false,true,true,true,false,false,false,true,true,false,false,false,true,true,false,false,false,true,false,false,false,false,false,false] rfl rfl (take_ofW HT_.out HW_.out (by kernel_rfl)) (fun _ _ _ h=>h) (Or.inl ⟨by rfl,?_⟩) hHeld ?_ ?_;rotate_left;(focus (rintro w' ⟨s0,s1,s2,s3,s4,s5,s6,s7,s8,s9,s10,s11,s12,s13,s14,s15,s16⟩;go_simp;with_reducible rfl));rotate_left;(focus (simp only [Act.put,sA_,sB_,sC_,i64_w,i32_w];rfl))
                  refine pure_ (i:=14) (N:=some 56) (v:=?_) (a':=?_) #[true,true,true,true,false,true,true,true,true,false,false,true,true,true,true,false,false,true,true,false,false,false,true,true,false,false,false,true,false,false,false,false,false,false] rfl rfl (any_of HT_.out (by kernel_rfl)) (fun _ _ _ h=>h) (Or.inl ⟨by rfl,?_⟩) ?_ ?_;rotate_left;(focus (intro w';go_simp;with_reducible rfl));rotate_left;(focus (simp only [Act.put,sA_,sB_,sC_,i64_w,i32_w];rfl))
                  refine take_ (i:=19) (N:=some 61) (v:=?_) (a':=?_) #[true,true,true,true,false,true,true,true,true,false,false,true,true,true,true,false,false,true,true,true,false,false,true,true,false,false,false,true,false,false,false,false,false,false] rfl rfl (take_ofW HT_.out HW_.out (by kernel_rfl)) (fun _ _ _ h=>h) (Or.inl ⟨by rfl,?_⟩) hHeld ?_ ?_;rotate_left;(focus (rintro w' ⟨s0,s1,s2,s3,s4,s5,s6,s7,s8,s9,s10,s11,s12,s13,s14,s15,s16⟩;go_simp;with_reducible rfl));rotate_left;(focus (simp only [Act.put,sA_,sB_,sC_,i64_w,i32_w];rfl))
                  refine take_ (i:=24) (N:=some 66) (v:=?_) (a':=?_) #[true,true,true,true,false,true,true,true,true,false,false,true,true,true,true,false,false,true,true,true,false,false,true,true,true,false,false,true,false,false,false,false,false,false] rfl rfl (take_ofW HT_.out HW_.out (by kernel_rfl)) (fun _ _ _ h=>h) (Or.inl ⟨by rfl,?_⟩) hHeld ?_ ?_;rotate_left;(focus (rintro w' ⟨s0,s1,s2,s3,s4,s5,s6,s7,s8,s9,s10,s11,s12,s13,s14,s15,s16⟩;go_simp;with_reducible rfl));rotate_left;(focus (simp only [Act.put,sA_,sB_,sC_,i64_w,i32_w];rfl))
                  refine take_ (i:=28) (N:=some 70) (v:=?_) (a':=?_) #[true,true,true,true,false,true,true,true,true,false,false,true,true,true,true,false,false,true,true,true,false,false,true,true,true,false,false,true,true,false,false,false,false,false] rfl rfl (take_ofW HT_.out HW_.out (by kernel_rfl)) (fun _ _ _ h=>h) (Or.inl ⟨by rfl,?_⟩) hHeld ?_ ?_;rotate_left;(focus (rintro w' ⟨s0,s1,s2,s3,s4,s5,s6,s7,s8,s9,s10,s11,s12,s13,s14,s15,s16⟩;go_simp;with_reducible rfl));rotate_left;(focus (simp only [Act.put,sA_,sB_,sC_,i64_w,i32_w];rfl))
                  refine pure_ (i:=29) (N:=some 71) (v:=?_) (a':=?_) #[true,true,true,true,false,true,true,true,true,false,false,true,true,true,true,false,false,true,true,true,false,false,true,true,true,false,false,true,true,true,false,false,false,false] rfl rfl (any_of HT_.out (by kernel_rfl)) (fun _ _ _ h=>h) (Or.inl ⟨by rfl,?_⟩) ?_ ?_;rotate_left;(focus (intro w';go_simp;with_reducible rfl));rotate_left;(focus (simp only [Act.put,sA_,sB_,sC_,i64_w,i32_w];rfl))
                  refine one_ (i:=4) (N:=some 46) #[true,true,true,true,true,true,true,true,true,false,false,true,true,true,true,false,false,true,true,true,false,false,true,true,true,false,false,true,true,true,false,false,false,false] rfl rfl (one_of HT_.out (by kernel_rfl)) (by decide) (fun K hK=>?_)
                  refine goes_ Try.func32 (by kernel_rfl) rfl #[.int .u64 (IntKind.u64.wrap (a0_4)),.int .i64 4] (by rfl) rfl rfl (by (try simp only [List.map_toArray,List.map_cons,List.map_nil]);first|done|rfl|(simp only [List.length_drop,List.length_take];rfl)) ?_
                  with_reducible refine (girderref01_Put.calls (IntKind.u64.wrap (a0_4)) 4 t120 _ A28.out).mono ?_
                  rintro e w68 ⟨rfl,hb⟩
                  refine ⟨_,rfl,?_⟩
                  have n0_:=Aside0.mk (blk_below (g:=gb115) (o:=.cells #[.int .i64 a0_0,.int .i64 a0_1,.int .u64 a0_2,.int .u64 a0_3,.int .u32 a0_4,.int .i64 a0_5,.int .i64 a0_6,.string a0_7,.string a0_8,.int .i64 a0_9,.int .i64 a0_10,.string a0_11,.int .u32 a0_12,.int .i64 a0_13,.bool a0_14,.slice A0_15 l0_15.length c0_15,.slice A0_16 l0_16.length c0_16] 47 (0,0)) (by (with_reducible repeat (first|refine blk_drewN ?_ _|refine blk_drew ?_|refine blk_alloc ?_ _));exact BK115.out) hb)
                  have n1_:=Aside0.mk (below_step (by repeat (first|(with_reducible first|exact HB.out|apply below_alloc|apply pw_below_drewN|apply below_drew1|refine below_set ?_ GE115.out)|exact HB.out)) hb)
                  clear BK115
                  clear HB
                  have BK115:=n0_
                  have HB:=n1_
                  clear n0_ n1_
                  (try clear hb)
                  (try clear hb2)
                  (try clear hk)
                  (try clear hi)
                  refine hK.out _ _ ⟨(blk_cell BK115.out 0).trans rfl,(blk_cell BK115.out 1).trans rfl,(blk_cell BK115.out 2).trans rfl,(blk_cell BK115.out 3).trans rfl,(blk_cell BK115.out 4).trans rfl,(blk_cell BK115.out 5).trans rfl,(blk_cell BK115.out 6).trans rfl,(blk_cell BK115.out 7).trans rfl,(blk_cell BK115.out 8).trans rfl,(blk_cell BK115.out 9).trans rfl,(blk_cell BK115.out 10).trans rfl,(blk_cell BK115.out 11).trans rfl,(blk_cell BK115.out 12).trans rfl,(blk_cell BK115.out 13).trans rfl,(blk_cell BK115.out 14).trans rfl,(blk_cell BK115.out 15).trans rfl,(blk_cell BK115.out 16).trans rfl⟩ (fun hHeld=>?_)
                  clear hK K
                  refine norm_ (a':=?_) ?_ ?_
                  rotate_left
                  ·show Act.put _ (some 46) _=_
                   simp only [Act.put,sA_,sB_,sC_,i64_w,i32_w]
                   rfl
                  refine one_ (i:=9) (N:=some 51) #[true,true,true,true,true,true,true,true,true,true,false,true,true,true,true,false,false,true,true,true,false,false,true,true,true,false,false,true,true,true,false,false,false,false] rfl rfl (one_of HT_.out (by kernel_rfl)) (by decide) (fun K hK=>?_)
                  refine goes_ Try.func32 (by kernel_rfl) rfl #[.int .u64 (IntKind.u64.wrap (a0_5)),.int .i64 1] (by rfl) rfl rfl (by (try simp only [List.map_toArray,List.map_cons,List.map_nil]);first|done|rfl|(simp only [List.length_drop,List.length_take];rfl)) ?_
                  with_reducible refine (girderref01_Put.calls (IntKind.u64.wrap (a0_5)) 1 t121 _ A29.out).mono ?_
                  rintro e w69 ⟨rfl,hb⟩
                  refine ⟨_,rfl,?_⟩
                  have n0_:=Aside0.mk (blk_below (g:=gb115) (o:=.cells #[.int .i64 a0_0,.int .i64 a0_1,.int .u64 a0_2,.int .u64 a0_3,.int .u32 a0_4,.int .i64 a0_5,.int .i64 a0_6,.string a0_7,.string a0_8,.int .i64 a0_9,.int .i64 a0_10,.string a0_11,.int .u32 a0_12,.int .i64 a0_13,.bool a0_14,.slice A0_15 l0_15.length c0_15,.slice A0_16 l0_16.length c0_16] 47 (0,0)) (by (with_reducible repeat (first|refine blk_drewN ?_ _|refine blk_drew ?_|refine blk_alloc ?_ _));exact BK115.out) hb)
                  have n1_:=Aside0.mk (below_step (by repeat (first|(with_reducible first|exact HB.out|apply below_alloc|apply pw_below_drewN|apply below_drew1|refine below_set ?_ GE115.out)|exact HB.out)) hb)
                  clear BK115
                  clear HB
                  have BK115:=n0_
                  have HB:=n1_
                  clear n0_ n1_
                  (try clear hb)
                  (try clear hb2)
                  (try clear hk)
                  (try clear hi)
                  refine hK.out _ _ ⟨(blk_cell BK115.out 0).trans rfl,(blk_cell BK115.out 1).trans rfl,(blk_cell BK115.out 2).trans rfl,(blk_cell BK115.out 3).trans rfl,(blk_cell BK115.out 4).trans rfl,(blk_cell BK115.out 5).trans rfl,(blk_cell BK115.out 6).trans rfl,(blk_cell BK115.out 7).trans rfl,(blk_cell BK115.out 8).trans rfl,(blk_cell BK115.out 9).trans rfl,(blk_cell BK115.out 10).trans rfl,(blk_cell BK115.out 11).trans rfl,(blk_cell BK115.out 12).trans rfl,(blk_cell BK115.out 13).trans rfl,(blk_cell BK115.out 14).trans rfl,(blk_cell BK115.out 15).trans rfl,(blk_cell BK115.out 16).trans rfl⟩ (fun hHeld=>?_)
                  clear hK K
                  refine norm_ (a':=?_) ?_ ?_
                  rotate_left
                  ·show Act.put _ (some 51) _=_
                   simp only [Act.put,sA_,sB_,sC_,i64_w,i32_w]
                   rfl
                  refine pure_ (i:=10) (N:=some 52) (v:=?_) (a':=?_) #[true,true,true,true,true,true,true,true,true,true,true,true,true,true,true,false,false,true,true,true,false,false,true,true,true,false,false,true,true,true,false,false,false,false] rfl rfl (any_of HT_.out (by kernel_rfl)) (fun _ _ _ h=>h) (Or.inl ⟨by rfl,?_⟩) ?_ ?_;rotate_left;(focus (intro w';go_simp;with_reducible rfl));rotate_left;(focus (simp only [Act.put,sA_,sB_,sC_,i64_w,i32_w];rfl))
                  refine one_ (i:=15) (N:=some 57) #[true,true,true,true,true,true,true,true,true,true,true,true,true,true,true,true,false,true,true,true,false,false,true,true,true,false,false,true,true,true,false,false,false,false] rfl rfl (one_of HT_.out (by kernel_rfl)) (by decide) (fun K hK=>?_)
                  refine goes_ Try.func32 (by kernel_rfl) rfl #[.int .u64 (IntKind.u64.wrap (a0_6)),.int .i64 2] (by rfl) rfl rfl (by (try simp only [List.map_toArray,List.map_cons,List.map_nil]);first|done|rfl|(simp only [List.length_drop,List.length_take];rfl)) ?_
                  with_reducible refine (girderref01_Put.calls (IntKind.u64.wrap (a0_6)) 2 t122 _ A31.out).mono ?_
                  rintro e w70 ⟨rfl,hb⟩
                  refine ⟨_,rfl,?_⟩
                  have n0_:=Aside0.mk (blk_below (g:=gb115) (o:=.cells #[.int .i64 a0_0,.int .i64 a0_1,.int .u64 a0_2,.int .u64 a0_3,.int .u32 a0_4,.int .i64 a0_5,.int .i64 a0_6,.string a0_7,.string a0_8,.int .i64 a0_9,.int .i64 a0_10,.string a0_11,.int .u32 a0_12,.int .i64 a0_13,.bool a0_14,.slice A0_15 l0_15.length c0_15,.slice A0_16 l0_16.length c0_16] 47 (0,0)) (by (with_reducible repeat (first|refine blk_drewN ?_ _|refine blk_drew ?_|refine blk_alloc ?_ _));exact BK115.out) hb)
                  have n1_:=Aside0.mk (below_step (by repeat (first|(with_reducible first|exact HB.out|apply below_alloc|apply pw_below_drewN|apply below_drew1|refine below_set ?_ GE115.out)|exact HB.out)) hb)
                  clear BK115
                  clear HB
                  have BK115:=n0_
                  have HB:=n1_
                  clear n0_ n1_
                  (try clear hb)
                  (try clear hb2)
                  (try clear hk)
                  (try clear hi)
                  refine hK.out _ _ ⟨(blk_cell BK115.out 0).trans rfl,(blk_cell BK115.out 1).trans rfl,(blk_cell BK115.out 2).trans rfl,(blk_cell BK115.out 3).trans rfl,(blk_cell BK115.out 4).trans rfl,(blk_cell BK115.out 5).trans rfl,(blk_cell BK115.out 6).trans rfl,(blk_cell BK115.out 7).trans rfl,(blk_cell BK115.out 8).trans rfl,(blk_cell BK115.out 9).trans rfl,(blk_cell BK115.out 10).trans rfl,(blk_cell BK115.out 11).trans rfl,(blk_cell BK115.out 12).trans rfl,(blk_cell BK115.out 13).trans rfl,(blk_cell BK115.out 14).trans rfl,(blk_cell BK115.out 15).trans rfl,(blk_cell BK115.out 16).trans rfl⟩ (fun hHeld=>?_)
                  clear hK K
                  refine norm_ (a':=?_) ?_ ?_
                  rotate_left
                  ·show Act.put _ (some 57) _=_
                   simp only [Act.put,sA_,sB_,sC_,i64_w,i32_w]
                   rfl
                  refine pure_ (i:=16) (N:=some 58) (v:=?_) (a':=?_) #[true,true,true,true,true,true,true,true,true,true,true,true,true,true,true,true,true,true,true,true,false,false,true,true,true,false,false,true,true,true,false,false,false,false] rfl rfl (any_of HT_.out (by kernel_rfl)) (fun _ _ _ h=>h) (Or.inl ⟨by rfl,?_⟩) ?_ ?_;rotate_left;(focus (intro w';go_simp;with_reducible rfl));rotate_left;(focus (simp only [Act.put,sA_,sB_,sC_,i64_w,i32_w];rfl))
                  refine one_ (i:=20) (N:=some 62) #[true,true,true,true,true,true,true,true,true,true,true,true,true,true,true,true,true,true,true,true,true,false,true,true,true,false,false,true,true,true,false,false,false,false] rfl rfl (one_of HT_.out (by kernel_rfl)) (by decide) (fun K hK=>?_)
                  refine goes_ Try.func33 (by kernel_rfl) rfl #[.string a0_7] (by rfl) rfl rfl (by (try simp only [List.map_toArray,List.map_cons,List.map_nil]);first|done|rfl|(simp only [List.length_drop,List.length_take];rfl)) ?_
                  with_reducible refine (girderref04_text.calls a0_7 t123 _ A33.out).mono ?_
                  rintro e w71 ⟨rfl,hb⟩
                  refine ⟨_,rfl,?_⟩
                  have n0_:=Aside0.mk (blk_below (g:=gb115) (o:=.cells #[.int .i64 a0_0,.int .i64 a0_1,.int .u64 a0_2,.int .u64 a0_3,.int .u32 a0_4,.int .i64 a0_5,.int .i64 a0_6,.string a0_7,.string a0_8,.int .i64 a0_9,.int .i64 a0_10,.string a0_11,.int .u32 a0_12,.int .i64 a0_13,.bool a0_14,.slice A0_15 l0_15.length c0_15,.slice A0_16 l0_16.length c0_16] 47 (0,0)) (by (with_reducible repeat (first|refine blk_drewN ?_ _|refine blk_drew ?_|refine blk_alloc ?_ _));exact BK115.out) hb)
                  have n1_:=Aside0.mk (below_step (by repeat (first|(with_reducible first|exact HB.out|apply below_alloc|apply pw_below_drewN|apply below_drew1|refine below_set ?_ GE115.out)|exact HB.out)) hb)
                  clear BK115
                  clear HB
                  have BK115:=n0_
                  have HB:=n1_
                  clear n0_ n1_
                  (try clear hb)
                  (try clear hb2)
                  (try clear hk)
                  (try clear hi)
                  refine hK.out _ _ ⟨(blk_cell BK115.out 0).trans rfl,(blk_cell BK115.out 1).trans rfl,(blk_cell BK115.out 2).trans rfl,(blk_cell BK115.out 3).trans rfl,(blk_cell BK115.out 4).trans rfl,(blk_cell BK115.out 5).trans rfl,(blk_cell BK115.out 6).trans rfl,(blk_cell BK115.out 7).trans rfl,(blk_cell BK115.out 8).trans rfl,(blk_cell BK115.out 9).trans rfl,(blk_cell BK115.out 10).trans rfl,(blk_cell BK115.out 11).trans rfl,(blk_cell BK115.out 12).trans rfl,(blk_cell BK115.out 13).trans rfl,(blk_cell BK115.out 14).trans rfl,(blk_cell BK115.out 15).trans rfl,(blk_cell BK115.out 16).trans rfl⟩ (fun hHeld=>?_)
                  clear hK K
                  refine norm_ (a':=?_) ?_ ?_
                  rotate_left
                  ·show Act.put _ (some 62) _=_
                   simp only [Act.put,sA_,sB_,sC_,i64_w,i32_w]
                   rfl
                  refine pure_ (i:=21) (N:=some 63) (v:=?_) (a':=?_) #[true,true,true,true,true,true,true,true,true,true,true,true,true,true,true,true,true,true,true,true,true,true,true,true,true,false,false,true,true,true,false,false,false,false] rfl rfl (any_of HT_.out (by kernel_rfl)) (fun _ _ _ h=>h) (Or.inl ⟨by rfl,?_⟩) ?_ ?_;rotate_left;(focus (intro w';go_simp;with_reducible rfl));rotate_left;(focus (simp only [Act.put,sA_,sB_,sC_,i64_w,i32_w];rfl))
                  refine one_ (i:=25) (N:=some 67) #[true,true,true,true,true,true,true,true,true,true,true,true,true,true,true,true,true,true,true,true,true,true,true,true,true,true,false,true,true,true,false,false,false,false] rfl rfl (one_of HT_.out (by kernel_rfl)) (by decide) (fun K hK=>?_)
                  refine goes_ Try.func33 (by kernel_rfl) rfl #[.string a0_8] (by rfl) rfl rfl (by (try simp only [List.map_toArray,List.map_cons,List.map_nil]);first|done|rfl|(simp only [List.length_drop,List.length_take];rfl)) ?_
                  with_reducible refine (girderref04_text.calls a0_8 t124 _ A35.out).mono ?_
                  rintro e w72 ⟨rfl,hb⟩
                  refine ⟨_,rfl,?_⟩
                  have n0_:=Aside0.mk (blk_below (g:=gb115) (o:=.cells #[.int .i64 a0_0,.int .i64 a0_1,.int .u64 a0_2,.int .u64 a0_3,.int .u32 a0_4,.int .i64 a0_5,.int .i64 a0_6,.string a0_7,.string a0_8,.int .i64 a0_9,.int .i64 a0_10,.string a0_11,.int .u32 a0_12,.int .i64 a0_13,.bool a0_14,.slice A0_15 l0_15.length c0_15,.slice A0_16 l0_16.length c0_16] 47 (0,0)) (by (with_reducible repeat (first|refine blk_drewN ?_ _|refine blk_drew ?_|refine blk_alloc ?_ _));exact BK115.out) hb)
                  have n1_:=Aside0.mk (below_step (by repeat (first|(with_reducible first|exact HB.out|apply below_alloc|apply pw_below_drewN|apply below_drew1|refine below_set ?_ GE115.out)|exact HB.out)) hb)
                  clear BK115
                  clear HB
                  have BK115:=n0_
                  have HB:=n1_
                  clear n0_ n1_
                  (try clear hb)
                  (try clear hb2)
                  (try clear hk)
                  (try clear hi)
                  refine hK.out _ _ ⟨(blk_cell BK115.out 0).trans rfl,(blk_cell BK115.out 1).trans rfl,(blk_cell BK115.out 2).trans rfl,(blk_cell BK115.out 3).trans rfl,(blk_cell BK115.out 4).trans rfl,(blk_cell BK115.out 5).trans rfl,(blk_cell BK115.out 6).trans rfl,(blk_cell BK115.out 7).trans rfl,(blk_cell BK115.out 8).trans rfl,(blk_cell BK115.out 9).trans rfl,(blk_cell BK115.out 10).trans rfl,(blk_cell BK115.out 11).trans rfl,(blk_cell BK115.out 12).trans rfl,(blk_cell BK115.out 13).trans rfl,(blk_cell BK115.out 14).trans rfl,(blk_cell BK115.out 15).trans rfl,(blk_cell BK115.out 16).trans rfl⟩ (fun hHeld=>?_)
                  clear hK K
                  refine norm_ (a':=?_) ?_ ?_
                  rotate_left
                  ·show Act.put _ (some 67) _=_
                   simp only [Act.put,sA_,sB_,sC_,i64_w,i32_w]
                   rfl
                  refine pure_ (i:=26) (N:=some 68) (v:=?_) (a':=?_) #[true,true,true,true,true,true,true,true,true,true,true,true,true,true,true,true,true,true,true,true,true,true,true,true,true,true,true,true,true,true,false,false,false,false] rfl rfl (any_of HT_.out (by kernel_rfl)) (fun _ _ _ h=>h) (Or.inl ⟨by rfl,?_⟩) ?_ ?_;rotate_left;(focus (intro w';go_simp;with_reducible rfl));rotate_left;(focus (simp only [Act.put,sA_,sB_,sC_,i64_w,i32_w];rfl))
                  refine one_ (i:=30) (N:=some 72) #[true,true,true,true,true,true,true,true,true,true,true,true,true,true,true,true,true,true,true,true,true,true,true,true,true,true,true,true,true,true,true,false,false,false] rfl rfl (one_of HT_.out (by kernel_rfl)) (by decide) (fun K hK=>?_)
                  refine goes_ Try.func32 (by kernel_rfl) rfl #[.int .u64 (IntKind.u64.wrap (a0_9)),.int .i64 1] (by rfl) rfl rfl (by (try simp only [List.map_toArray,List.map_cons,List.map_nil]);first|done|rfl|(simp only [List.length_drop,List.length_take];rfl)) ?_
                  with_reducible refine (girderref01_Put.calls (IntKind.u64.wrap (a0_9)) 1 t125 _ A37.out).mono ?_
                  rintro e w73 ⟨rfl,hb⟩
                  refine ⟨_,rfl,?_⟩
                  have n0_:=Aside0.mk (blk_below (g:=gb115) (o:=.cells #[.int .i64 a0_0,.int .i64 a0_1,.int .u64 a0_2,.int .u64 a0_3,.int .u32 a0_4,.int .i64 a0_5,.int .i64 a0_6,.string a0_7,.string a0_8,.int .i64 a0_9,.int .i64 a0_10,.string a0_11,.int .u32 a0_12,.int .i64 a0_13,.bool a0_14,.slice A0_15 l0_15.length c0_15,.slice A0_16 l0_16.length c0_16] 47 (0,0)) (by (with_reducible repeat (first|refine blk_drewN ?_ _|refine blk_drew ?_|refine blk_alloc ?_ _));exact BK115.out) hb)
                  have n1_:=Aside0.mk (below_step (by repeat (first|(with_reducible first|exact HB.out|apply below_alloc|apply pw_below_drewN|apply below_drew1|refine below_set ?_ GE115.out)|exact HB.out)) hb)
                  clear BK115
                  clear HB
                  have BK115:=n0_
                  have HB:=n1_
                  clear n0_ n1_
                  (try clear hb)
                  (try clear hb2)
                  (try clear hk)
                  (try clear hi)
                  refine hK.out _ _ ⟨(blk_cell BK115.out 0).trans rfl,(blk_cell BK115.out 1).trans rfl,(blk_cell BK115.out 2).trans rfl,(blk_cell BK115.out 3).trans rfl,(blk_cell BK115.out 4).trans rfl,(blk_cell BK115.out 5).trans rfl,(blk_cell BK115.out 6).trans rfl,(blk_cell BK115.out 7).trans rfl,(blk_cell BK115.out 8).trans rfl,(blk_cell BK115.out 9).trans rfl,(blk_cell BK115.out 10).trans rfl,(blk_cell BK115.out 11).trans rfl,(blk_cell BK115.out 12).trans rfl,(blk_cell BK115.out 13).trans rfl,(blk_cell BK115.out 14).trans rfl,(blk_cell BK115.out 15).trans rfl,(blk_cell BK115.out 16).trans rfl⟩ (fun hHeld=>?_)
                  clear hK K
                  refine norm_ (a':=?_) ?_ ?_
                  rotate_left
                  ·show Act.put _ (some 72) _=_
                   simp only [Act.put,sA_,sB_,sC_,i64_w,i32_w]
                   rfl
                  refine pure_ (i:=31) (N:=some 73) (v:=?_) (a':=?_) #[true,true,true,true,true,true,true,true,true,true,true,true,true,true,true,true,true,true,true,true,true,true,true,true,true,true,true,true,true,true,true,true,false,false] rfl rfl (any_of HT_.out (by kernel_rfl)) (fun _ _ _ h=>h) (Or.inl ⟨by rfl,?_⟩) ?_ ?_;rotate_left;(focus (intro w';go_simp;with_reducible rfl));rotate_left;(focus (simp only [Act.put,sA_,sB_,sC_,i64_w,i32_w];rfl))
                  refine pure_ (i:=32) (N:=some 74) (v:=?_) (a':=?_) #[true,true,true,true,true,true,true,true,true,true,true,true,true,true,true,true,true,true,true,true,true,true,true,true,true,true,true,true,true,true,true,true,true,false] rfl rfl (any_of HT_.out (by kernel_rfl)) (fun _ _ _ h=>h) (Or.inl ⟨by rfl,?_⟩) ?_ ?_;rotate_left;(focus (intro w';go_simp;with_reducible rfl));rotate_left;(focus (simp only [Act.put,sA_,sB_,sC_,i64_w,i32_w];rfl))
                  refine pure_ (i:=33) (N:=some 3) (v:=?_) (a':=?_) #[true,true,true,true,true,true,true,true,true,true,true,true,true,true,true,true,true,true,true,true,true,true,true,true,true,true,true,true,true,true,true,true,true,true] rfl rfl (any_of HT_.out (by kernel_rfl)) (fun _ _ _ h=>h) (Or.inl ⟨by rfl,?_⟩) ?_ ?_;rotate_left;(focus (intro w';go_simp;with_reducible rfl));rotate_left;(focus (simp only [Act.put,sA_,sB_,sC_,i64_w,i32_w];rfl))
                  refine done_ (done_of HT_.out (by kernel_rfl)) ?_
                  have hcz74_0 : w73.cell? ⟨gb115,0,none⟩=some (.int .i64 a0_0):=(blk_cell BK115.out 0).trans rfl
                  have hcz74_1 : w73.cell? ⟨gb115,1,none⟩=some (.int .i64 a0_1):=(blk_cell BK115.out 1).trans rfl
                  have hcz74_2 : w73.cell? ⟨gb115,2,none⟩=some (.int .u64 a0_2):=(blk_cell BK115.out 2).trans rfl
                  have hcz74_3 : w73.cell? ⟨gb115,3,none⟩=some (.int .u64 a0_3):=(blk_cell BK115.out 3).trans rfl
                  have hcz74_4 : w73.cell? ⟨gb115,4,none⟩=some (.int .u32 a0_4):=(blk_cell BK115.out 4).trans rfl
                  have hcz74_5 : w73.cell? ⟨gb115,5,none⟩=some (.int .i64 a0_5):=(blk_cell BK115.out 5).trans rfl
                  have hcz74_6 : w73.cell? ⟨gb115,6,none⟩=some (.int .i64 a0_6):=(blk_cell BK115.out 6).trans rfl
                  have hcz74_7 : w73.cell? ⟨gb115,7,none⟩=some (.string a0_7):=(blk_cell BK115.out 7).trans rfl
                  have hcz74_8 : w73.cell? ⟨gb115,8,none⟩=some (.string a0_8):=(blk_cell BK115.out 8).trans rfl
                  have hcz74_9 : w73.cell? ⟨gb115,9,none⟩=some (.int .i64 a0_9):=(blk_cell BK115.out 9).trans rfl
                  have hcz74_10 : w73.cell? ⟨gb115,10,none⟩=some (.int .i64 a0_10):=(blk_cell BK115.out 10).trans rfl
                  have hcz74_11 : w73.cell? ⟨gb115,11,none⟩=some (.string a0_11):=(blk_cell BK115.out 11).trans rfl
                  have hcz74_12 : w73.cell? ⟨gb115,12,none⟩=some (.int .u32 a0_12):=(blk_cell BK115.out 12).trans rfl
                  have hcz74_13 : w73.cell? ⟨gb115,13,none⟩=some (.int .i64 a0_13):=(blk_cell BK115.out 13).trans rfl
                  have hcz74_14 : w73.cell? ⟨gb115,14,none⟩=some (.bool a0_14):=(blk_cell BK115.out 14).trans rfl
                  have hcz74_15 : w73.cell? ⟨gb115,15,none⟩=some (.slice A0_15 l0_15.length c0_15):=(blk_cell BK115.out 15).trans rfl
                  have hcz74_16 : w73.cell? ⟨gb115,16,none⟩=some (.slice A0_16 l0_16.length c0_16):=(blk_cell BK115.out 16).trans rfl
                  have hfz74_0:=blk_frozen BK115.out 0
                  have hfz74_1:=blk_frozen BK115.out 1
                  have hfz74_2:=blk_frozen BK115.out 2
                  have hfz74_3:=blk_frozen BK115.out 3
                  have hfz74_4:=blk_frozen BK115.out 4
                  have hfz74_5:=blk_frozen BK115.out 5
                  have hfz74_6:=blk_frozen BK115.out 6
                  have hfz74_7:=blk_frozen BK115.out 7
                  have hfz74_8:=blk_frozen BK115.out 8
                  have hfz74_9:=blk_frozen BK115.out 9
                  have hfz74_10:=blk_frozen BK115.out 10
                  have hfz74_11:=blk_frozen BK115.out 11
                  have hfz74_12:=blk_frozen BK115.out 12
                  have hfz74_13:=blk_frozen BK115.out 13
                  have hfz74_14:=blk_frozen BK115.out 14
                  have hfz74_15:=blk_frozen BK115.out 15
                  have hfz74_16:=blk_frozen BK115.out 16
                  try go_wp2
                  go_meet
                  case rel=>exact ⟨_,(x3_15 ++ (((((t120 ++ t121) ++ t122) ++ t123) ++ t124) ++ t125)),(by first|rfl|(simp;done)|(simp [*];done)),H',⟨by have:=HJ6.out;have:=HJ15.out;have:=HJ21.out;first|omega|exact Nat.le_refl _⟩,⟨by (with_reducible repeat (first|refine blk_drewN ?_ _|refine blk_drew ?_|refine blk_alloc ?_ _));exact BK115.out⟩,⟨by repeat (first|(with_reducible first|exact HB.out|apply below_alloc|apply pw_below_drewN|apply below_drew1|refine below_set ?_ GE115.out)|exact HB.out)⟩⟩
                ·rw [if_neg c39] at H
                 exact absurd H (by simp)
               ·rw [if_neg c38] at H
                exact absurd H (by simp)
              ·rw [if_neg c36] at H
               exact absurd H (by simp)
             ·rw [if_neg c34] at H
              exact absurd H (by simp)
            ·rw [if_neg c32] at H
             exact absurd H (by simp)
           ·rw [if_neg c30] at H
            exact absurd H (by simp)
          ·replace c27:=Bool.eq_false_iff.mpr c27
           subst c27
           have H1 : (girderref04_Bytes.j4 kj21 x3_15 a0_0 a0_1 a0_2 a0_3 a0_4 a0_5 a0_6 a0_7 a0_8 a0_9 a0_10 a0_11 a0_12 a0_13 a0_14 l0_15 l0_16)=some r:=by rw [if_neg (show ¬ (false=true) by decide)] at H;exact H
           clear H
           have H:=H1
           clear H1
           have H':=Aside0.mk H
           clear H
           go_wp2
           go_meet
           case rel=>exact ⟨_,(x3_15),(by first|rfl|(simp;done)|(simp [*];done)),H',⟨by have:=HJ6.out;have:=HJ15.out;have:=HJ21.out;first|omega|exact Nat.le_refl _⟩,⟨by (with_reducible repeat (first|refine blk_drewN ?_ _|refine blk_drew ?_|refine blk_alloc ?_ _));exact BK115.out⟩,⟨by repeat (first|(with_reducible first|exact HB.out|apply below_alloc|apply pw_below_drewN|apply below_drew1|refine below_set ?_ GE115.out)|exact HB.out)⟩⟩
         case rest =>
          clear HC26
          try clear c2
          try clear p2
          try clear c3
          try clear c4
          try clear c5
          try clear c6
          try clear c27
          try clear c30
          try clear c32
          try clear c33
          try clear c34
          try clear c36
          try clear c38
          try clear c39
          try clear c40
          try clear c40b0
          try clear c40b1
          try clear c53
          try clear c55
          try clear c57
          try clear c59
          try clear c60
          try clear hcz74_0
          try clear hcz74_1
          try clear hcz74_10
          try clear hcz74_11
          try clear hcz74_12
          try clear hcz74_13
          try clear hcz74_14
          try clear hcz74_15
          try clear hcz74_16
          try clear hcz74_2
          try clear hcz74_3
          try clear hcz74_4
          try clear hcz74_5
          try clear hcz74_6
          try clear hcz74_7
          try clear hcz74_8
          try clear hcz74_9
          try clear hfz74_0
          try clear hfz74_1
          try clear hfz74_10
          try clear hfz74_11
          try clear hfz74_12
          try clear hfz74_13
          try clear hfz74_14
          try clear hfz74_15
          try clear hfz74_16
          try clear hfz74_2
          try clear hfz74_3
          try clear hfz74_4
          try clear hfz74_5
          try clear hfz74_6
          try clear hfz74_7
          try clear hfz74_8
          try clear hfz74_9
          obtain ⟨kq,x3_25,rfl,HA,HJ25,BK115,HB⟩:=hcut
          cases kq with
          | zero=>exact absurd HA.out (by simp [girderref04_Bytes.j4])
          | succ kj25 =>
           have H:=HA.out
           clear HA
           simp only [girderref04_Bytes.j4] at H
           by_cases c75 : a0_0=8
           ·rw [if_pos c75] at H
            have c75b0 : (a0_0 == 8)=true:=beq_iff_eq.mpr c75
            have c75b1 : (a0_0 != 8)=false:=bne_eq_false_iff_eq.mpr c75
            clear c75
            replace H:=Option.bind_eq_some_iff.mp H
            obtain ⟨t131,A760,H⟩:=H
            replace H : (if x3_25.size + t131.size≤9223372036854775807 then (girderref04_Bytes.l0 kj25 (x3_25 ++ t131) 0 a0_0 a0_1 a0_2 a0_3 a0_4 a0_5 a0_6 a0_7 a0_8 a0_9 a0_10 a0_11 a0_12 a0_13 a0_14 l0_15 l0_16) else (none))=some r:=H
            have A76:=Aside0.mk A760
            clear A760
            by_cases c77 : x3_25.size + t131.size≤9223372036854775807
            ·rw [if_pos c77] at H
             have c77b0:=eq_true c77
             have c77b1 : decide (x3_25.size + t131.size≤9223372036854775807)=true:=decide_eq_true c77
             try have c77b2 : (9223372036854775807 < x3_25.size + t131.size)=False:=eq_false (Nat.not_lt.2 c77)
             have H':=Aside0.mk H
             clear H
             have hcz78_0 : wc.cell? ⟨gb115,0,none⟩=some (.int .i64 a0_0):=(blk_cell BK115.out 0).trans rfl
             have hcz78_1 : wc.cell? ⟨gb115,1,none⟩=some (.int .i64 a0_1):=(blk_cell BK115.out 1).trans rfl
             have hcz78_2 : wc.cell? ⟨gb115,2,none⟩=some (.int .u64 a0_2):=(blk_cell BK115.out 2).trans rfl
             have hcz78_3 : wc.cell? ⟨gb115,3,none⟩=some (.int .u64 a0_3):=(blk_cell BK115.out 3).trans rfl
             have hcz78_4 : wc.cell? ⟨gb115,4,none⟩=some (.int .u32 a0_4):=(blk_cell BK115.out 4).trans rfl
             have hcz78_5 : wc.cell? ⟨gb115,5,none⟩=some (.int .i64 a0_5):=(blk_cell BK115.out 5).trans rfl
             have hcz78_6 : wc.cell? ⟨gb115,6,none⟩=some (.int .i64 a0_6):=(blk_cell BK115.out 6).trans rfl
             have hcz78_7 : wc.cell? ⟨gb115,7,none⟩=some (.string a0_7):=(blk_cell BK115.out 7).trans rfl
             have hcz78_8 : wc.cell? ⟨gb115,8,none⟩=some (.string a0_8):=(blk_cell BK115.out 8).trans rfl
             have hcz78_9 : wc.cell? ⟨gb115,9,none⟩=some (.int .i64 a0_9):=(blk_cell BK115.out 9).trans rfl
             have hcz78_10 : wc.cell? ⟨gb115,10,none⟩=some (.int .i64 a0_10):=(blk_cell BK115.out 10).trans rfl
             have hcz78_11 : wc.cell? ⟨gb115,11,none⟩=some (.string a0_11):=(blk_cell BK115.out 11).trans rfl
             have hcz78_12 : wc.cell? ⟨gb115,12,none⟩=some (.int .u32 a0_12):=(blk_cell BK115.out 12).trans rfl
             have hcz78_13 : wc.cell? ⟨gb115,13,none⟩=some (.int .i64 a0_13):=(blk_cell BK115.out 13).trans rfl
             have hcz78_14 : wc.cell? ⟨gb115,14,none⟩=some (.bool a0_14):=(blk_cell BK115.out 14).trans rfl
             have hcz78_15 : wc.cell? ⟨gb115,15,none⟩=some (.slice A0_15 l0_15.length c0_15):=(blk_cell BK115.out 15).trans rfl
             have hcz78_16 : wc.cell? ⟨gb115,16,none⟩=some (.slice A0_16 l0_16.length c0_16):=(blk_cell BK115.out 16).trans rfl
             have hfz78_0:=blk_frozen BK115.out 0
             have hfz78_1:=blk_frozen BK115.out 1
             have hfz78_2:=blk_frozen BK115.out 2
             have hfz78_3:=blk_frozen BK115.out 3
             have hfz78_4:=blk_frozen BK115.out 4
             have hfz78_5:=blk_frozen BK115.out 5
             have hfz78_6:=blk_frozen BK115.out 6
             have hfz78_7:=blk_frozen BK115.out 7
             have hfz78_8:=blk_frozen BK115.out 8
             have hfz78_9:=blk_frozen BK115.out 9
             have hfz78_10:=blk_frozen BK115.out 10
             have hfz78_11:=blk_frozen BK115.out 11
             have hfz78_12:=blk_frozen BK115.out 12
             have hfz78_13:=blk_frozen BK115.out 13
             have hfz78_14:=blk_frozen BK115.out 14
             have hfz78_15:=blk_frozen BK115.out 15
             have hfz78_16:=blk_frozen BK115.out 16
             go_wp2_with (first|((with_reducible refine gate_callee (f:=32) rfl ?_);refine goesL_ (some 111) rfl rfl Try.func32 (by kernel_rfl) rfl #[.int .u64 (IntKind.u64.wrap ((l0_15.length : Int))),.int .i64 2] rfl (by (try simp only [List.map_toArray,List.map_cons,List.map_nil]);first|done|rfl|(simp only [List.length_drop,List.length_take];rfl)) ?_;(with_reducible refine (girderref01_Put.calls (IntKind.u64.wrap ((l0_15.length : Int))) 2 t131 _ A76.out).mono ?_);rintro e w79 ⟨rfl,hb⟩;refine ⟨_,rfl,?_⟩;have n0_:=Aside0.mk (blk_below (g:=gb115) (o:=.cells #[.int .i64 a0_0,.int .i64 a0_1,.int .u64 a0_2,.int .u64 a0_3,.int .u32 a0_4,.int .i64 a0_5,.int .i64 a0_6,.string a0_7,.string a0_8,.int .i64 a0_9,.int .i64 a0_10,.string a0_11,.int .u32 a0_12,.int .i64 a0_13,.bool a0_14,.slice A0_15 l0_15.length c0_15,.slice A0_16 l0_16.length c0_16] 47 (0,0)) (by (with_reducible repeat (first|refine blk_drewN ?_ _|refine blk_drew ?_|refine blk_alloc ?_ _));exact BK115.out) hb);have n1_:=Aside0.mk (below_step (by repeat (first|(with_reducible first|exact HB.out|apply below_alloc|apply pw_below_drewN|apply below_drew1|refine below_set ?_ GE115.out)|exact HB.out)) hb);clear BK115;clear HB;have BK115:=n0_;have HB:=n1_;clear n0_ n1_;(try clear hb);(try clear hb2);(try clear hk);(try clear hi)))
             go_loopg [3,5] kj25 (fun kq v3 v5 w'=>∃ (x3_5 : ByteArray) (x5_5 : Int),v3=.string x3_5∧v5=.int .i64 x5_5∧Aside0 (girderref04_Bytes.l0 kq x3_5 x5_5 a0_0 a0_1 a0_2 a0_3 a0_4 a0_5 a0_6 a0_7 a0_8 a0_9 a0_10 a0_11 a0_12 a0_13 a0_14 l0_15 l0_16=some r)∧Aside0 (kq≤kj25)∧Aside0 (w'.heap[gb115]?=some (.cells #[.int .i64 a0_0,.int .i64 a0_1,.int .u64 a0_2,.int .u64 a0_3,.int .u32 a0_4,.int .i64 a0_5,.int .i64 a0_6,.string a0_7,.string a0_8,.int .i64 a0_9,.int .i64 a0_10,.string a0_11,.int .u32 a0_12,.int .i64 a0_13,.bool a0_14,(.slice A0_15 l0_15.length c0_15),(.slice A0_16 l0_16.length c0_16)] 47 (0,0)))∧Aside0 (Below w.heap.size w w'))
             case atStart=>exact ⟨(x3_25 ++ t131),(0),(by first|rfl|(simp;done)|(simp [*];done)),(by first|rfl|(simp;done)|(simp [*];done)),H',⟨Nat.le_refl _⟩,⟨by (with_reducible repeat (first|refine blk_drewN ?_ _|refine blk_drew ?_|refine blk_alloc ?_ _));exact BK115.out⟩,⟨by repeat (first|(with_reducible first|exact HB.out|apply below_alloc|apply pw_below_drewN|apply below_drew1|refine below_set ?_ GE115.out)|exact HB.out)⟩⟩
             case round =>
              clear H'
              try clear c2
              try clear p2
              try clear c3
              try clear c4
              try clear c5
              try clear c6
              try clear c7
              try clear c27
              try clear c30
              try clear c32
              try clear c33
              try clear c34
              try clear c36
              try clear c38
              try clear c39
              try clear c40
              try clear c40b0
              try clear c40b1
              try clear c53
              try clear c55
              try clear c57
              try clear c59
              try clear c60
              try clear c75
              try clear c75b0
              try clear c75b1
              try clear c77
              try clear c77b0
              try clear c77b1
              try clear c77b2
              try clear hcz74_0
              try clear hcz74_1
              try clear hcz74_10
              try clear hcz74_11
              try clear hcz74_12
              try clear hcz74_13
              try clear hcz74_14
              try clear hcz74_15
              try clear hcz74_16
              try clear hcz74_2
              try clear hcz74_3
              try clear hcz74_4
              try clear hcz74_5
              try clear hcz74_6
              try clear hcz74_7
              try clear hcz74_8
              try clear hcz74_9
              try clear hcz78_0
              try clear hcz78_1
              try clear hcz78_10
              try clear hcz78_11
              try clear hcz78_12
              try clear hcz78_13
              try clear hcz78_14
              try clear hcz78_15
              try clear hcz78_16
              try clear hcz78_2
              try clear hcz78_3
              try clear hcz78_4
              try clear hcz78_5
              try clear hcz78_6
              try clear hcz78_7
              try clear hcz78_8
              try clear hcz78_9
              try clear hfz74_0
              try clear hfz74_1
              try clear hfz74_10
              try clear hfz74_11
              try clear hfz74_12
              try clear hfz74_13
              try clear hfz74_14
              try clear hfz74_15
              try clear hfz74_16
              try clear hfz74_2
              try clear hfz74_3
              try clear hfz74_4
              try clear hfz74_5
              try clear hfz74_6
              try clear hfz74_7
              try clear hfz74_8
              try clear hfz74_9
              try clear hfz78_0
              try clear hfz78_1
              try clear hfz78_10
              try clear hfz78_11
              try clear hfz78_12
              try clear hfz78_13
              try clear hfz78_14
              try clear hfz78_15
              try clear hfz78_16
              try clear hfz78_2
              try clear hfz78_3
              try clear hfz78_4
              try clear hfz78_5
              try clear hfz78_6
              try clear hfz78_7
              try clear hfz78_8
              try clear hfz78_9
              try clear p2
              obtain ⟨x3_5,x5_5,rfl,rfl,HA,HK5,BK115,HB⟩:=hrel
              cases gk with
              | zero=>exact absurd HA.out (by simp [girderref04_Bytes.l0])
              | succ k5 =>
               have H:=HA.out
               clear HA
               simp only [girderref04_Bytes.l0] at H
               by_cases c80 : x5_5 < (l0_15.length : Int)
               ·rw [if_pos c80] at H
                have c80b0 : decide (x5_5 < (l0_15.length : Int))=true:=decide_eq_true c80
                clear c80
                by_cases c81 : 0≤x5_5
                ·rw [if_pos c81] at H
                 have c81b0 : decide (0≤x5_5)=true:=decide_eq_true c81
                 clear c81
                 replace H:=Option.bind_eq_some_iff.mp H
                 obtain ⟨t134,A820,H⟩:=H
                 replace H : ((girderref01_Put.f (IntKind.u64.wrap ((rd_T56 l0_15 x5_5).f1)) 1).bind fun t135=>(if t134.size + t135.size≤9223372036854775807 then ((girderref01_Put.f ((rd_T56 l0_15 x5_5).f2) 8).bind fun t136=>(if (t134 ++ t135).size + t136.size≤9223372036854775807 then ((girderref01_Put.f ((rd_T56 l0_15 x5_5).f3) 8).bind fun t137=>(if ((t134 ++ t135) ++ t136).size + t137.size≤9223372036854775807 then (if x3_5.size + (((t134 ++ t135) ++ t136) ++ t137).size≤9223372036854775807 then (girderref04_Bytes.l0 k5 (x3_5 ++ (((t134 ++ t135) ++ t136) ++ t137)) (wrap64 (x5_5 + 1)) a0_0 a0_1 a0_2 a0_3 a0_4 a0_5 a0_6 a0_7 a0_8 a0_9 a0_10 a0_11 a0_12 a0_13 a0_14 l0_15 l0_16) else (none)) else (none))) else (none))) else (none)))=some r:=H
                 have A82:=Aside0.mk A820
                 clear A820
                 replace H:=Option.bind_eq_some_iff.mp H
                 obtain ⟨t135,A830,H⟩:=H
                 replace H : (if t134.size + t135.size≤9223372036854775807 then ((girderref01_Put.f ((rd_T56 l0_15 x5_5).f2) 8).bind fun t136=>(if (t134 ++ t135).size + t136.size≤9223372036854775807 then ((girderref01_Put.f ((rd_T56 l0_15 x5_5).f3) 8).bind fun t137=>(if ((t134 ++ t135) ++ t136).size + t137.size≤9223372036854775807 then (if x3_5.size + (((t134 ++ t135) ++ t136) ++ t137).size≤9223372036854775807 then (girderref04_Bytes.l0 k5 (x3_5 ++ (((t134 ++ t135) ++ t136) ++ t137)) (wrap64 (x5_5 + 1)) a0_0 a0_1 a0_2 a0_3 a0_4 a0_5 a0_6 a0_7 a0_8 a0_9 a0_10 a0_11 a0_12 a0_13 a0_14 l0_15 l0_16) else (none)) else (none))) else (none))) else (none))=some r:=H
                 have A83:=Aside0.mk A830
                 clear A830
                 by_cases c84 : t134.size + t135.size≤9223372036854775807
                 ·rw [if_pos c84] at H
                  have c84b0:=eq_true c84
                  have c84b1 : decide (t134.size + t135.size≤9223372036854775807)=true:=decide_eq_true c84
                  try have c84b2 : (9223372036854775807 < t134.size + t135.size)=False:=eq_false (Nat.not_lt.2 c84)
                  replace H:=Option.bind_eq_some_iff.mp H
                  obtain ⟨t136,A850,H⟩:=H
                  replace H : (if (t134 ++ t135).size + t136.size≤9223372036854775807 then ((girderref01_Put.f ((rd_T56 l0_15 x5_5).f3) 8).bind fun t137=>(if ((t134 ++ t135) ++ t136).size + t137.size≤9223372036854775807 then (if x3_5.size + (((t134 ++ t135) ++ t136) ++ t137).size≤9223372036854775807 then (girderref04_Bytes.l0 k5 (x3_5 ++ (((t134 ++ t135) ++ t136) ++ t137)) (wrap64 (x5_5 + 1)) a0_0 a0_1 a0_2 a0_3 a0_4 a0_5 a0_6 a0_7 a0_8 a0_9 a0_10 a0_11 a0_12 a0_13 a0_14 l0_15 l0_16) else (none)) else (none))) else (none))=some r:=H
                  have A85:=Aside0.mk A850
                  clear A850
                  by_cases c86 : (t134 ++ t135).size + t136.size≤9223372036854775807
                  ·rw [if_pos c86] at H
                   have c86b0:=eq_true c86
                   have c86b1 : decide ((t134 ++ t135).size + t136.size≤9223372036854775807)=true:=decide_eq_true c86
                   try have c86b2 : (9223372036854775807 < (t134 ++ t135).size + t136.size)=False:=eq_false (Nat.not_lt.2 c86)
                   try have c86b3:=c86b2
                   try simp only [ByteArray.size_append] at c86b3
                   replace H:=Option.bind_eq_some_iff.mp H
                   obtain ⟨t137,A870,H⟩:=H
                   replace H : (if ((t134 ++ t135) ++ t136).size + t137.size≤9223372036854775807 then (if x3_5.size + (((t134 ++ t135) ++ t136) ++ t137).size≤9223372036854775807 then (girderref04_Bytes.l0 k5 (x3_5 ++ (((t134 ++ t135) ++ t136) ++ t137)) (wrap64 (x5_5 + 1)) a0_0 a0_1 a0_2 a0_3 a0_4 a0_5 a0_6 a0_7 a0_8 a0_9 a0_10 a0_11 a0_12 a0_13 a0_14 l0_15 l0_16) else (none)) else (none))=some r:=H
                   have A87:=Aside0.mk A870
                   clear A870
                   by_cases c88 : ((t134 ++ t135) ++ t136).size + t137.size≤9223372036854775807
                   ·rw [if_pos c88] at H
                    have c88b0:=eq_true c88
                    have c88b1 : decide (((t134 ++ t135) ++ t136).size + t137.size≤9223372036854775807)=true:=decide_eq_true c88
                    try have c88b2 : (9223372036854775807 < ((t134 ++ t135) ++ t136).size + t137.size)=False:=eq_false (Nat.not_lt.2 c88)
                    try have c88b3:=c88b2
                    try simp only [ByteArray.size_append] at c88b3
                    by_cases c89 : x3_5.size + (((t134 ++ t135) ++ t136) ++ t137).size≤9223372036854775807
                    ·rw [if_pos c89] at H
                     have c89b0:=eq_true c89
                     have c89b1 : decide (x3_5.size + (((t134 ++ t135) ++ t136) ++ t137).size≤9223372036854775807)=true:=decide_eq_true c89
                     try have c89b2 : (9223372036854775807 < x3_5.size + (((t134 ++ t135) ++ t136) ++ t137).size)=False:=eq_false (Nat.not_lt.2 c89)
                     try have c89b3:=c89b2
                     try simp only [ByteArray.size_append] at c89b3
                     have H':=Aside0.mk H
                     clear H
                     have hcz90_0 : wr.cell? ⟨gb115,0,none⟩=some (.int .i64 a0_0):=(blk_cell BK115.out 0).trans rfl
                     have hcz90_1 : wr.cell? ⟨gb115,1,none⟩=some (.int .i64 a0_1):=(blk_cell BK115.out 1).trans rfl
                     have hcz90_2 : wr.cell? ⟨gb115,2,none⟩=some (.int .u64 a0_2):=(blk_cell BK115.out 2).trans rfl
                     have hcz90_3 : wr.cell? ⟨gb115,3,none⟩=some (.int .u64 a0_3):=(blk_cell BK115.out 3).trans rfl
                     have hcz90_4 : wr.cell? ⟨gb115,4,none⟩=some (.int .u32 a0_4):=(blk_cell BK115.out 4).trans rfl
                     have hcz90_5 : wr.cell? ⟨gb115,5,none⟩=some (.int .i64 a0_5):=(blk_cell BK115.out 5).trans rfl
                     have hcz90_6 : wr.cell? ⟨gb115,6,none⟩=some (.int .i64 a0_6):=(blk_cell BK115.out 6).trans rfl
                     have hcz90_7 : wr.cell? ⟨gb115,7,none⟩=some (.string a0_7):=(blk_cell BK115.out 7).trans rfl
                     have hcz90_8 : wr.cell? ⟨gb115,8,none⟩=some (.string a0_8):=(blk_cell BK115.out 8).trans rfl
                     have hcz90_9 : wr.cell? ⟨gb115,9,none⟩=some (.int .i64 a0_9):=(blk_cell BK115.out 9).trans rfl
                     have hcz90_10 : wr.cell? ⟨gb115,10,none⟩=some (.int .i64 a0_10):=(blk_cell BK115.out 10).trans rfl
                     have hcz90_11 : wr.cell? ⟨gb115,11,none⟩=some (.string a0_11):=(blk_cell BK115.out 11).trans rfl
                     have hcz90_12 : wr.cell? ⟨gb115,12,none⟩=some (.int .u32 a0_12):=(blk_cell BK115.out 12).trans rfl
                     have hcz90_13 : wr.cell? ⟨gb115,13,none⟩=some (.int .i64 a0_13):=(blk_cell BK115.out 13).trans rfl
                     have hcz90_14 : wr.cell? ⟨gb115,14,none⟩=some (.bool a0_14):=(blk_cell BK115.out 14).trans rfl
                     have hcz90_15 : wr.cell? ⟨gb115,15,none⟩=some (.slice A0_15 l0_15.length c0_15):=(blk_cell BK115.out 15).trans rfl
                     have hcz90_16 : wr.cell? ⟨gb115,16,none⟩=some (.slice A0_16 l0_16.length c0_16):=(blk_cell BK115.out 16).trans rfl
                     have hfz90_0:=blk_frozen BK115.out 0
                     have hfz90_1:=blk_frozen BK115.out 1
                     have hfz90_2:=blk_frozen BK115.out 2
                     have hfz90_3:=blk_frozen BK115.out 3
                     have hfz90_4:=blk_frozen BK115.out 4
                     have hfz90_5:=blk_frozen BK115.out 5
                     have hfz90_6:=blk_frozen BK115.out 6
                     have hfz90_7:=blk_frozen BK115.out 7
                     have hfz90_8:=blk_frozen BK115.out 8
                     have hfz90_9:=blk_frozen BK115.out 9
                     have hfz90_10:=blk_frozen BK115.out 10
                     have hfz90_11:=blk_frozen BK115.out 11
                     have hfz90_12:=blk_frozen BK115.out 12
                     have hfz90_13:=blk_frozen BK115.out 13
                     have hfz90_14:=blk_frozen BK115.out 14
                     have hfz90_15:=blk_frozen BK115.out 15
                     have hfz90_16:=blk_frozen BK115.out 16
                     have p132 : 0≤(x5_5 : Int):=of_decide_eq_true (by first|(with_reducible assumption)|assumption)
                     have q132 : x5_5 < (l0_15.length : Int):=of_decide_eq_true (by first|(with_reducible assumption)|assumption)
                     obtain ⟨ad132,e132,hx132_0,hx132_1,hx132_2,hx132_3⟩:=at_T56 HR0_15.out x5_5 p132 q132
                     cases e132
                     replace hx132_0:=(HB.out.cell (World.block_lt_of_cell? w _ hx132_0)).trans hx132_0
                     replace hx132_1:=(HB.out.cell (World.block_lt_of_cell? w _ hx132_1)).trans hx132_1
                     replace hx132_2:=(HB.out.cell (World.block_lt_of_cell? w _ hx132_2)).trans hx132_2
                     replace hx132_3:=(HB.out.cell (World.block_lt_of_cell? w _ hx132_3)).trans hx132_3
                     replace p132:=eq_true p132
                     replace q132:=eq_true q132
                     try go_wp2_with (first|((with_reducible refine gate_dst (N:=6) rfl ?_);refine box_event ?hg (N:=6) ?hd (cs:=#[.int .i64 0,.int .i64 0,.int .u64 0,.int .u64 0]) (t:=56) ?hr ?_;(case hd=>rfl);(case hg=>rfl);(case hr=>first|(go_simp;done)|(go_simp;rfl));intro gb133 hg w91 hbox hb;have n0_:=Aside0.mk (blk_below (g:=gb115) (o:=.cells #[.int .i64 a0_0,.int .i64 a0_1,.int .u64 a0_2,.int .u64 a0_3,.int .u32 a0_4,.int .i64 a0_5,.int .i64 a0_6,.string a0_7,.string a0_8,.int .i64 a0_9,.int .i64 a0_10,.string a0_11,.int .u32 a0_12,.int .i64 a0_13,.bool a0_14,.slice (some ad132) l0_15.length c0_15,.slice A0_16 l0_16.length c0_16] 47 (0,0)) (by (with_reducible repeat (first|refine blk_drewN ?_ _|refine blk_drew ?_|refine blk_alloc ?_ _));exact BK115.out) hb);have n1_:=Aside0.mk (below_step (by repeat (first|(with_reducible first|exact HB.out|apply below_alloc|apply pw_below_drewN|apply below_drew1|refine below_set ?_ GE115.out)|exact HB.out)) hb);have n2_:=Aside0.mk (hbox);have n3_:=Aside0.mk ((by rw [hg];exact (below_size (by repeat (first|(with_reducible first|exact HB.out|apply below_alloc|apply pw_below_drewN|apply below_drew1|refine below_set ?_ GE115.out)|exact HB.out))) : w.heap.size≤gb133));have n4_:=Aside0.mk ((by rw [hg];exact (below_size (by repeat (first|(with_reducible first|exact HB.out|apply below_alloc|apply pw_below_drewN|apply below_drew1|refine below_set ?_ GE115.out)|exact HB.out))) : w.heap.size≤gb133));have n5_:=Aside0.mk ((by rw [hg];exact Nat.ne_of_lt (blk_lt (g:=gb115) (o:=.cells #[.int .i64 a0_0,.int .i64 a0_1,.int .u64 a0_2,.int .u64 a0_3,.int .u32 a0_4,.int .i64 a0_5,.int .i64 a0_6,.string a0_7,.string a0_8,.int .i64 a0_9,.int .i64 a0_10,.string a0_11,.int .u32 a0_12,.int .i64 a0_13,.bool a0_14,.slice (some ad132) l0_15.length c0_15,.slice A0_16 l0_16.length c0_16] 47 (0,0)) (by (with_reducible repeat (first|refine blk_drewN ?_ _|refine blk_drew ?_|refine blk_alloc ?_ _));exact BK115.out)) : gb115≠gb133));have n6_:=Aside0.mk ((by rw [hg];exact Nat.ne_of_gt (blk_lt (g:=gb115) (o:=.cells #[.int .i64 a0_0,.int .i64 a0_1,.int .u64 a0_2,.int .u64 a0_3,.int .u32 a0_4,.int .i64 a0_5,.int .i64 a0_6,.string a0_7,.string a0_8,.int .i64 a0_9,.int .i64 a0_10,.string a0_11,.int .u32 a0_12,.int .i64 a0_13,.bool a0_14,.slice (some ad132) l0_15.length c0_15,.slice A0_16 l0_16.length c0_16] 47 (0,0)) (by (with_reducible repeat (first|refine blk_drewN ?_ _|refine blk_drew ?_|refine blk_alloc ?_ _));exact BK115.out)) : gb133≠gb115));clear BK115;clear HB;have BK115:=n0_;have HB:=n1_;have BK133:=n2_;have GW133:=n3_;have GE133:=n4_;have NB115_133:=n5_;have NB133_115:=n6_;clear n0_ n1_ n2_ n3_ n4_ n5_ n6_;clear hb hbox hg;have hnb92:=NB133_115.out;have hnc92:=NB115_133.out;have hcz93_0 : w91.cell? ⟨gb133,0,none⟩=some (.int .i64 0):=(blk_cell BK133.out 0).trans rfl;have hcz93_1 : w91.cell? ⟨gb133,1,none⟩=some (.int .i64 0):=(blk_cell BK133.out 1).trans rfl;have hcz93_2 : w91.cell? ⟨gb133,2,none⟩=some (.int .u64 0):=(blk_cell BK133.out 2).trans rfl;have hcz93_3 : w91.cell? ⟨gb133,3,none⟩=some (.int .u64 0):=(blk_cell BK133.out 3).trans rfl;have hfz93_0:=blk_frozen BK133.out 0;have hfz93_1:=blk_frozen BK133.out 1;have hfz93_2:=blk_frozen BK133.out 2;have hfz93_3:=blk_frozen BK133.out 3))
                     have n0_ : Aside0 (((((w91.setCell ⟨gb133,0,none⟩ (.int .i64 ((rd_T56 l0_15 x5_5).f0))).setCell ⟨gb133,1,none⟩ (.int .i64 ((rd_T56 l0_15 x5_5).f1))).setCell ⟨gb133,2,none⟩ (.int .u64 ((rd_T56 l0_15 x5_5).f2))).setCell ⟨gb133,3,none⟩ (.int .u64 ((rd_T56 l0_15 x5_5).f3))).heap[gb115]?=some (.cells #[.int .i64 a0_0,.int .i64 a0_1,.int .u64 a0_2,.int .u64 a0_3,.int .u32 a0_4,.int .i64 a0_5,.int .i64 a0_6,.string a0_7,.string a0_8,.int .i64 a0_9,.int .i64 a0_10,.string a0_11,.int .u32 a0_12,.int .i64 a0_13,.bool a0_14,.slice (some ad132) l0_15.length c0_15,.slice A0_16 l0_16.length c0_16] 47 (0,0))):=⟨by (with_reducible repeat (first|refine blk_drewN ?_ _|refine blk_drew ?_|refine blk_alloc ?_ _));refine blk_far ?_ NB115_133.out _;(with_reducible repeat (first|refine blk_drewN ?_ _|refine blk_drew ?_|refine blk_alloc ?_ _));refine blk_far ?_ NB115_133.out _;(with_reducible repeat (first|refine blk_drewN ?_ _|refine blk_drew ?_|refine blk_alloc ?_ _));refine blk_far ?_ NB115_133.out _;(with_reducible repeat (first|refine blk_drewN ?_ _|refine blk_drew ?_|refine blk_alloc ?_ _));refine blk_far ?_ NB115_133.out _;(with_reducible repeat (first|refine blk_drewN ?_ _|refine blk_drew ?_|refine blk_alloc ?_ _));exact BK115.out⟩
                     have n1_ : Aside0 (((((w91.setCell ⟨gb133,0,none⟩ (.int .i64 ((rd_T56 l0_15 x5_5).f0))).setCell ⟨gb133,1,none⟩ (.int .i64 ((rd_T56 l0_15 x5_5).f1))).setCell ⟨gb133,2,none⟩ (.int .u64 ((rd_T56 l0_15 x5_5).f2))).setCell ⟨gb133,3,none⟩ (.int .u64 ((rd_T56 l0_15 x5_5).f3))).heap[gb133]?=some (.cells #[.int .i64 ((rd_T56 l0_15 x5_5).f0),.int .i64 ((rd_T56 l0_15 x5_5).f1),.int .u64 ((rd_T56 l0_15 x5_5).f2),.int .u64 ((rd_T56 l0_15 x5_5).f3)] 56 (0,0))):=⟨by (with_reducible repeat (first|refine blk_drewN ?_ _|refine blk_drew ?_|refine blk_alloc ?_ _));refine blk_put (cs:=#[.int .i64 ((rd_T56 l0_15 x5_5).f0),.int .i64 ((rd_T56 l0_15 x5_5).f1),.int .u64 ((rd_T56 l0_15 x5_5).f2),.int .u64 0]) ?_ 3 _ rfl;(with_reducible repeat (first|refine blk_drewN ?_ _|refine blk_drew ?_|refine blk_alloc ?_ _));refine blk_put (cs:=#[.int .i64 ((rd_T56 l0_15 x5_5).f0),.int .i64 ((rd_T56 l0_15 x5_5).f1),.int .u64 0,.int .u64 0]) ?_ 2 _ rfl;(with_reducible repeat (first|refine blk_drewN ?_ _|refine blk_drew ?_|refine blk_alloc ?_ _));refine blk_put (cs:=#[.int .i64 ((rd_T56 l0_15 x5_5).f0),.int .i64 0,.int .u64 0,.int .u64 0]) ?_ 1 _ rfl;(with_reducible repeat (first|refine blk_drewN ?_ _|refine blk_drew ?_|refine blk_alloc ?_ _));refine blk_put (cs:=#[.int .i64 0,.int .i64 0,.int .u64 0,.int .u64 0]) ?_ 0 _ rfl;(with_reducible repeat (first|refine blk_drewN ?_ _|refine blk_drew ?_|refine blk_alloc ?_ _));exact BK133.out⟩
                     have n2_ : Aside0 (Below w.heap.size w ((((w91.setCell ⟨gb133,0,none⟩ (.int .i64 ((rd_T56 l0_15 x5_5).f0))).setCell ⟨gb133,1,none⟩ (.int .i64 ((rd_T56 l0_15 x5_5).f1))).setCell ⟨gb133,2,none⟩ (.int .u64 ((rd_T56 l0_15 x5_5).f2))).setCell ⟨gb133,3,none⟩ (.int .u64 ((rd_T56 l0_15 x5_5).f3)))):=⟨by repeat (first|(with_reducible first|exact HB.out|apply below_alloc|apply pw_below_drewN|apply below_drew1|refine below_set ?_ GE115.out|refine below_set ?_ GE133.out)|exact HB.out)⟩
                     (try clear BK115)
                     (try clear BK133)
                     (try clear HB)
                     generalize ((((w91.setCell ⟨gb133,0,none⟩ (.int .i64 ((rd_T56 l0_15 x5_5).f0))).setCell ⟨gb133,1,none⟩ (.int .i64 ((rd_T56 l0_15 x5_5).f1))).setCell ⟨gb133,2,none⟩ (.int .u64 ((rd_T56 l0_15 x5_5).f2))).setCell ⟨gb133,3,none⟩ (.int .u64 ((rd_T56 l0_15 x5_5).f3)))=w94 at n0_ n1_ n2_ ⊢
                     have BK115:=n0_
                     have BK133:=n1_
                     have HB:=n2_
                     clear n0_ n1_ n2_
                     have n0_:=Aside0.mk (blk_drew BK115.out)
                     have n1_:=Aside0.mk (blk_drew BK133.out)
                     have n2_:=Aside0.mk (below_drew1 HB.out)
                     clear BK115
                     clear BK133
                     clear HB
                     have BK115:=n0_
                     have BK133:=n1_
                     have HB:=n2_
                     clear n0_ n1_ n2_
                     refine start_ (n:=20) (S:=fun w'=>w'.cell? ⟨gb133,0,none⟩=some (.int .i64 ((rd_T56 l0_15 x5_5).f0))∧w'.cell? ⟨gb133,1,none⟩=some (.int .i64 ((rd_T56 l0_15 x5_5).f1))∧w'.cell? ⟨gb133,2,none⟩=some (.int .u64 ((rd_T56 l0_15 x5_5).f2))∧w'.cell? ⟨gb133,3,none⟩=some (.int .u64 ((rd_T56 l0_15 x5_5).f3))) (ds:=[]) #[false,false,false,false,false,false,false,false,false,false,false,false,false,false,false,false,false,false,false,false] (by kernel_rfl) rfl rfl ⟨(blk_cell BK133.out 0).trans rfl,(blk_cell BK133.out 1).trans rfl,(blk_cell BK133.out 2).trans rfl,(blk_cell BK133.out 3).trans rfl⟩ (fun hHeld=>?_);refine with_tabW girderref04_Bytes.tab17 girderref04_Bytes.bits17 (fun HT_ HW_=>?_)
                     generalize w94.drew=w95 at BK115 BK133 HB hHeld ⊢
                     refine pure_ (i:=0) (N:=some 125) (v:=?_) (a':=?_) #[true,false,false,false,false,false,false,false,false,false,false,false,false,false,false,false,false,false,false,false] rfl rfl (any_of HT_.out (by kernel_rfl)) (fun _ _ _ h=>h) (Or.inl ⟨by rfl,?_⟩) ?_ ?_;rotate_left;(focus (intro w';go_simp;with_reducible rfl));rotate_left;(focus (simp only [Act.put,sA_,sB_,sC_,i64_w,i32_w];rfl))
                     refine pure_ (i:=1) (N:=some 126) (v:=?_) (a':=?_) #[true,true,false,false,false,false,false,false,false,false,false,false,false,false,false,false,false,false,false,false] rfl rfl (any_of HT_.out (by kernel_rfl)) (fun _ _ _ h=>h) (Or.inl ⟨by rfl,?_⟩) ?_ ?_;rotate_left;(focus (intro w';go_simp;with_reducible rfl));rotate_left;(focus (simp only [Act.put,sA_,sB_,sC_,i64_w,i32_w];rfl))
                     refine pure_ (i:=5) (N:=some 130) (v:=?_) (a':=?_) #[true,true,false,false,false,true,false,false,false,false,false,false,false,false,false,false,false,false,false,false] rfl rfl (any_of HT_.out (by kernel_rfl)) (fun _ _ _ h=>h) (Or.inl ⟨by rfl,?_⟩) ?_ ?_;rotate_left;(focus (intro w';go_simp;with_reducible rfl));rotate_left;(focus (simp only [Act.put,sA_,sB_,sC_,i64_w,i32_w];rfl))
                     refine pure_ (i:=10) (N:=some 135) (v:=?_) (a':=?_) #[true,true,false,false,false,true,false,false,false,false,true,false,false,false,false,false,false,false,false,false] rfl rfl (any_of HT_.out (by kernel_rfl)) (fun _ _ _ h=>h) (Or.inl ⟨by rfl,?_⟩) ?_ ?_;rotate_left;(focus (intro w';go_simp;with_reducible rfl));rotate_left;(focus (simp only [Act.put,sA_,sB_,sC_,i64_w,i32_w];rfl))
                     refine pure_ (i:=14) (N:=some 139) (v:=?_) (a':=?_) #[true,true,false,false,false,true,false,false,false,false,true,false,false,false,true,false,false,false,false,false] rfl rfl (any_of HT_.out (by kernel_rfl)) (fun _ _ _ h=>h) (Or.inl ⟨by rfl,?_⟩) ?_ ?_;rotate_left;(focus (intro w';go_simp;with_reducible rfl));rotate_left;(focus (simp only [Act.put,sA_,sB_,sC_,i64_w,i32_w];rfl))
                     refine take_ (i:=2) (N:=some 127) (v:=?_) (a':=?_) #[true,true,true,false,false,true,false,false,false,false,true,false,false,false,true,false,false,false,false,false] rfl rfl (take_ofW HT_.out HW_.out (by kernel_rfl)) (fun _ _ _ h=>h) (Or.inl ⟨by rfl,?_⟩) hHeld ?_ ?_;rotate_left;(focus (rintro w' ⟨s0,s1,s2,s3⟩;go_simp;with_reducible rfl));rotate_left;(focus (simp only [Act.put,sA_,sB_,sC_,i64_w,i32_w];rfl))
                     refine pure_ (i:=3) (N:=some 128) (v:=?_) (a':=?_) #[true,true,true,true,false,true,false,false,false,false,true,false,false,false,true,false,false,false,false,false] rfl rfl (any_of HT_.out (by kernel_rfl)) (fun _ _ _ h=>h) (Or.inl ⟨by rfl,?_⟩) ?_ ?_;rotate_left;(focus (intro w';go_simp;with_reducible rfl));rotate_left;(focus (simp only [Act.put,sA_,sB_,sC_,i64_w,i32_w];rfl))
                     refine take_ (i:=6) (N:=some 131) (v:=?_) (a':=?_) #[true,true,true,true,false,true,true,false,false,false,true,false,false,false,true,false,false,false,false,false] rfl rfl (take_ofW HT_.out HW_.out (by kernel_rfl)) (fun _ _ _ h=>h) (Or.inl ⟨by rfl,?_⟩) hHeld ?_ ?_;rotate_left;(focus (rintro w' ⟨s0,s1,s2,s3⟩;go_simp;with_reducible rfl));rotate_left;(focus (simp only [Act.put,sA_,sB_,sC_,i64_w,i32_w];rfl))
                     refine pure_ (i:=7) (N:=some 132) (v:=?_) (a':=?_) #[true,true,true,true,false,true,true,true,false,false,true,false,false,false,true,false,false,false,false,false] rfl rfl (any_of HT_.out (by kernel_rfl)) (fun _ _ _ h=>h) (Or.inl ⟨by rfl,?_⟩) ?_ ?_;rotate_left;(focus (intro w';go_simp;with_reducible rfl));rotate_left;(focus (simp only [Act.put,sA_,sB_,sC_,i64_w,i32_w];rfl))
                     refine take_ (i:=11) (N:=some 136) (v:=?_) (a':=?_) #[true,true,true,true,false,true,true,true,false,false,true,true,false,false,true,false,false,false,false,false] rfl rfl (take_ofW HT_.out HW_.out (by kernel_rfl)) (fun _ _ _ h=>h) (Or.inl ⟨by rfl,?_⟩) hHeld ?_ ?_;rotate_left;(focus (rintro w' ⟨s0,s1,s2,s3⟩;go_simp;with_reducible rfl));rotate_left;(focus (simp only [Act.put,sA_,sB_,sC_,i64_w,i32_w];rfl))
                     refine take_ (i:=15) (N:=some 140) (v:=?_) (a':=?_) #[true,true,true,true,false,true,true,true,false,false,true,true,false,false,true,true,false,false,false,false] rfl rfl (take_ofW HT_.out HW_.out (by kernel_rfl)) (fun _ _ _ h=>h) (Or.inl ⟨by rfl,?_⟩) hHeld ?_ ?_;rotate_left;(focus (rintro w' ⟨s0,s1,s2,s3⟩;go_simp;with_reducible rfl));rotate_left;(focus (simp only [Act.put,sA_,sB_,sC_,i64_w,i32_w];rfl))
                     refine one_ (i:=4) (N:=some 129) #[true,true,true,true,true,true,true,true,false,false,true,true,false,false,true,true,false,false,false,false] rfl rfl (one_of HT_.out (by kernel_rfl)) (by decide) (fun K hK=>?_)
                     refine goes_ Try.func32 (by kernel_rfl) rfl #[.int .u64 (IntKind.u64.wrap ((rd_T56 l0_15 x5_5).f0)),.int .i64 4] (by rfl) rfl rfl (by (try simp only [List.map_toArray,List.map_cons,List.map_nil]);first|done|rfl|(simp only [List.length_drop,List.length_take];rfl)) ?_
                     with_reducible refine (girderref01_Put.calls (IntKind.u64.wrap ((rd_T56 l0_15 x5_5).f0)) 4 t134 _ A82.out).mono ?_
                     rintro e w96 ⟨rfl,hb⟩
                     refine ⟨_,rfl,?_⟩
                     have n0_:=Aside0.mk (blk_below (g:=gb115) (o:=.cells #[.int .i64 a0_0,.int .i64 a0_1,.int .u64 a0_2,.int .u64 a0_3,.int .u32 a0_4,.int .i64 a0_5,.int .i64 a0_6,.string a0_7,.string a0_8,.int .i64 a0_9,.int .i64 a0_10,.string a0_11,.int .u32 a0_12,.int .i64 a0_13,.bool a0_14,.slice (some ad132) l0_15.length c0_15,.slice A0_16 l0_16.length c0_16] 47 (0,0)) (by (with_reducible repeat (first|refine blk_drewN ?_ _|refine blk_drew ?_|refine blk_alloc ?_ _));exact BK115.out) hb)
                     have n1_:=Aside0.mk (blk_below (g:=gb133) (o:=.cells #[.int .i64 ((rd_T56 l0_15 x5_5).f0),.int .i64 ((rd_T56 l0_15 x5_5).f1),.int .u64 ((rd_T56 l0_15 x5_5).f2),.int .u64 ((rd_T56 l0_15 x5_5).f3)] 56 (0,0)) (by (with_reducible repeat (first|refine blk_drewN ?_ _|refine blk_drew ?_|refine blk_alloc ?_ _));exact BK133.out) hb)
                     have n2_:=Aside0.mk (below_step (by repeat (first|(with_reducible first|exact HB.out|apply below_alloc|apply pw_below_drewN|apply below_drew1|refine below_set ?_ GE115.out|refine below_set ?_ GE133.out)|exact HB.out)) hb)
                     clear BK115
                     clear BK133
                     clear HB
                     have BK115:=n0_
                     have BK133:=n1_
                     have HB:=n2_
                     clear n0_ n1_ n2_
                     (try clear hb)
                     (try clear hb2)
                     (try clear hk)
                     (try clear hi)
                     refine hK.out _ _ ⟨(blk_cell BK133.out 0).trans rfl,(blk_cell BK133.out 1).trans rfl,(blk_cell BK133.out 2).trans rfl,(blk_cell BK133.out 3).trans rfl⟩ (fun hHeld=>?_)
                     clear hK K
                     refine norm_ (a':=?_) ?_ ?_
                     rotate_left
                     ·show Act.put _ (some 129) _=_
                      simp only [Act.put,sA_,sB_,sC_,i64_w,i32_w]
                      rfl
                     refine one_ (i:=8) (N:=some 133) #[true,true,true,true,true,true,true,true,true,false,true,true,false,false,true,true,false,false,false,false] rfl rfl (one_of HT_.out (by kernel_rfl)) (by decide) (fun K hK=>?_)
                     refine goes_ Try.func32 (by kernel_rfl) rfl #[.int .u64 (IntKind.u64.wrap ((rd_T56 l0_15 x5_5).f1)),.int .i64 1] (by rfl) rfl rfl (by (try simp only [List.map_toArray,List.map_cons,List.map_nil]);first|done|rfl|(simp only [List.length_drop,List.length_take];rfl)) ?_
                     with_reducible refine (girderref01_Put.calls (IntKind.u64.wrap ((rd_T56 l0_15 x5_5).f1)) 1 t135 _ A83.out).mono ?_
                     rintro e w97 ⟨rfl,hb⟩
                     refine ⟨_,rfl,?_⟩
                     have n0_:=Aside0.mk (blk_below (g:=gb115) (o:=.cells #[.int .i64 a0_0,.int .i64 a0_1,.int .u64 a0_2,.int .u64 a0_3,.int .u32 a0_4,.int .i64 a0_5,.int .i64 a0_6,.string a0_7,.string a0_8,.int .i64 a0_9,.int .i64 a0_10,.string a0_11,.int .u32 a0_12,.int .i64 a0_13,.bool a0_14,.slice (some ad132) l0_15.length c0_15,.slice A0_16 l0_16.length c0_16] 47 (0,0)) (by (with_reducible repeat (first|refine blk_drewN ?_ _|refine blk_drew ?_|refine blk_alloc ?_ _));exact BK115.out) hb)
                     have n1_:=Aside0.mk (blk_below (g:=gb133) (o:=.cells #[.int .i64 ((rd_T56 l0_15 x5_5).f0),.int .i64 ((rd_T56 l0_15 x5_5).f1),.int .u64 ((rd_T56 l0_15 x5_5).f2),.int .u64 ((rd_T56 l0_15 x5_5).f3)] 56 (0,0)) (by (with_reducible repeat (first|refine blk_drewN ?_ _|refine blk_drew ?_|refine blk_alloc ?_ _));exact BK133.out) hb)
                     have n2_:=Aside0.mk (below_step (by repeat (first|(with_reducible first|exact HB.out|apply below_alloc|apply pw_below_drewN|apply below_drew1|refine below_set ?_ GE115.out|refine below_set ?_ GE133.out)|exact HB.out)) hb)
                     clear BK115
                     clear BK133
                     clear HB
                     have BK115:=n0_
                     have BK133:=n1_
                     have HB:=n2_
                     clear n0_ n1_ n2_
                     (try clear hb)
                     (try clear hb2)
                     (try clear hk)
                     (try clear hi)
                     refine hK.out _ _ ⟨(blk_cell BK133.out 0).trans rfl,(blk_cell BK133.out 1).trans rfl,(blk_cell BK133.out 2).trans rfl,(blk_cell BK133.out 3).trans rfl⟩ (fun hHeld=>?_)
                     clear hK K
                     refine norm_ (a':=?_) ?_ ?_
                     rotate_left
                     ·show Act.put _ (some 133) _=_
                      simp only [Act.put,sA_,sB_,sC_,i64_w,i32_w]
                      rfl
                     refine pure_ (i:=9) (N:=some 134) (v:=?_) (a':=?_) #[true,true,true,true,true,true,true,true,true,true,true,true,false,false,true,true,false,false,false,false] rfl rfl (any_of HT_.out (by kernel_rfl)) (fun _ _ _ h=>h) (Or.inl ⟨by rfl,?_⟩) ?_ ?_;rotate_left;(focus (intro w';go_simp;with_reducible rfl));rotate_left;(focus (simp only [Act.put,sA_,sB_,sC_,i64_w,i32_w];rfl))
                     refine one_ (i:=12) (N:=some 137) #[true,true,true,true,true,true,true,true,true,true,true,true,true,false,true,true,false,false,false,false] rfl rfl (one_of HT_.out (by kernel_rfl)) (by decide) (fun K hK=>?_)
                     refine goes_ Try.func32 (by kernel_rfl) rfl #[.int .u64 ((rd_T56 l0_15 x5_5).f2),.int .i64 8] (by rfl) rfl rfl (by (try simp only [List.map_toArray,List.map_cons,List.map_nil]);first|done|rfl|(simp only [List.length_drop,List.length_take];rfl)) ?_
                     with_reducible refine (girderref01_Put.calls ((rd_T56 l0_15 x5_5).f2) 8 t136 _ A85.out).mono ?_
                     rintro e w98 ⟨rfl,hb⟩
                     refine ⟨_,rfl,?_⟩
                     have n0_:=Aside0.mk (blk_below (g:=gb115) (o:=.cells #[.int .i64 a0_0,.int .i64 a0_1,.int .u64 a0_2,.int .u64 a0_3,.int .u32 a0_4,.int .i64 a0_5,.int .i64 a0_6,.string a0_7,.string a0_8,.int .i64 a0_9,.int .i64 a0_10,.string a0_11,.int .u32 a0_12,.int .i64 a0_13,.bool a0_14,.slice (some ad132) l0_15.length c0_15,.slice A0_16 l0_16.length c0_16] 47 (0,0)) (by (with_reducible repeat (first|refine blk_drewN ?_ _|refine blk_drew ?_|refine blk_alloc ?_ _));exact BK115.out) hb)
                     have n1_:=Aside0.mk (blk_below (g:=gb133) (o:=.cells #[.int .i64 ((rd_T56 l0_15 x5_5).f0),.int .i64 ((rd_T56 l0_15 x5_5).f1),.int .u64 ((rd_T56 l0_15 x5_5).f2),.int .u64 ((rd_T56 l0_15 x5_5).f3)] 56 (0,0)) (by (with_reducible repeat (first|refine blk_drewN ?_ _|refine blk_drew ?_|refine blk_alloc ?_ _));exact BK133.out) hb)
                     have n2_:=Aside0.mk (below_step (by repeat (first|(with_reducible first|exact HB.out|apply below_alloc|apply pw_below_drewN|apply below_drew1|refine below_set ?_ GE115.out|refine below_set ?_ GE133.out)|exact HB.out)) hb)
                     clear BK115
                     clear BK133
                     clear HB
                     have BK115:=n0_
                     have BK133:=n1_
                     have HB:=n2_
                     clear n0_ n1_ n2_
                     (try clear hb)
                     (try clear hb2)
                     (try clear hk)
                     (try clear hi)
                     refine hK.out _ _ ⟨(blk_cell BK133.out 0).trans rfl,(blk_cell BK133.out 1).trans rfl,(blk_cell BK133.out 2).trans rfl,(blk_cell BK133.out 3).trans rfl⟩ (fun hHeld=>?_)
                     clear hK K
                     refine norm_ (a':=?_) ?_ ?_
                     rotate_left
                     ·show Act.put _ (some 137) _=_
                      simp only [Act.put,sA_,sB_,sC_,i64_w,i32_w]
                      rfl
                     refine pure_ (i:=13) (N:=some 138) (v:=?_) (a':=?_) #[true,true,true,true,true,true,true,true,true,true,true,true,true,true,true,true,false,false,false,false] rfl rfl (any_of HT_.out (by kernel_rfl)) (fun _ _ _ h=>h) (Or.inl ⟨by rfl,?_⟩) ?_ ?_;rotate_left;(focus (intro w';go_simp;with_reducible rfl));rotate_left;(focus (simp only [Act.put,sA_,sB_,sC_,i64_w,i32_w];rfl))
                     refine one_ (i:=16) (N:=some 141) #[true,true,true,true,true,true,true,true,true,true,true,true,true,true,true,true,true,false,false,false] rfl rfl (one_of HT_.out (by kernel_rfl)) (by decide) (fun K hK=>?_)
                     refine goes_ Try.func32 (by kernel_rfl) rfl #[.int .u64 ((rd_T56 l0_15 x5_5).f3),.int .i64 8] (by rfl) rfl rfl (by (try simp only [List.map_toArray,List.map_cons,List.map_nil]);first|done|rfl|(simp only [List.length_drop,List.length_take];rfl)) ?_
                     with_reducible refine (girderref01_Put.calls ((rd_T56 l0_15 x5_5).f3) 8 t137 _ A87.out).mono ?_
                     rintro e w99 ⟨rfl,hb⟩
                     refine ⟨_,rfl,?_⟩
                     have n0_:=Aside0.mk (blk_below (g:=gb115) (o:=.cells #[.int .i64 a0_0,.int .i64 a0_1,.int .u64 a0_2,.int .u64 a0_3,.int .u32 a0_4,.int .i64 a0_5,.int .i64 a0_6,.string a0_7,.string a0_8,.int .i64 a0_9,.int .i64 a0_10,.string a0_11,.int .u32 a0_12,.int .i64 a0_13,.bool a0_14,.slice (some ad132) l0_15.length c0_15,.slice A0_16 l0_16.length c0_16] 47 (0,0)) (by (with_reducible repeat (first|refine blk_drewN ?_ _|refine blk_drew ?_|refine blk_alloc ?_ _));exact BK115.out) hb)
                     have n1_:=Aside0.mk (blk_below (g:=gb133) (o:=.cells #[.int .i64 ((rd_T56 l0_15 x5_5).f0),.int .i64 ((rd_T56 l0_15 x5_5).f1),.int .u64 ((rd_T56 l0_15 x5_5).f2),.int .u64 ((rd_T56 l0_15 x5_5).f3)] 56 (0,0)) (by (with_reducible repeat (first|refine blk_drewN ?_ _|refine blk_drew ?_|refine blk_alloc ?_ _));exact BK133.out) hb)
                     have n2_:=Aside0.mk (below_step (by repeat (first|(with_reducible first|exact HB.out|apply below_alloc|apply pw_below_drewN|apply below_drew1|refine below_set ?_ GE115.out|refine below_set ?_ GE133.out)|exact HB.out)) hb)
                     clear BK115
                     clear BK133
                     clear HB
                     have BK115:=n0_
                     have BK133:=n1_
                     have HB:=n2_
                     clear n0_ n1_ n2_
                     (try clear hb)
                     (try clear hb2)
                     (try clear hk)
                     (try clear hi)
                     refine hK.out _ _ ⟨(blk_cell BK133.out 0).trans rfl,(blk_cell BK133.out 1).trans rfl,(blk_cell BK133.out 2).trans rfl,(blk_cell BK133.out 3).trans rfl⟩ (fun hHeld=>?_)
                     clear hK K
                     refine norm_ (a':=?_) ?_ ?_
                     rotate_left
                     ·show Act.put _ (some 141) _=_
                      simp only [Act.put,sA_,sB_,sC_,i64_w,i32_w]
                      rfl
                     refine pure_ (i:=17) (N:=some 142) (v:=?_) (a':=?_) #[true,true,true,true,true,true,true,true,true,true,true,true,true,true,true,true,true,true,false,false] rfl rfl (any_of HT_.out (by kernel_rfl)) (fun _ _ _ h=>h) (Or.inl ⟨by rfl,?_⟩) ?_ ?_;rotate_left;(focus (intro w';go_simp;with_reducible rfl));rotate_left;(focus (simp only [Act.put,sA_,sB_,sC_,i64_w,i32_w];rfl))
                     refine pure_ (i:=18) (N:=some 143) (v:=?_) (a':=?_) #[true,true,true,true,true,true,true,true,true,true,true,true,true,true,true,true,true,true,true,false] rfl rfl (any_of HT_.out (by kernel_rfl)) (fun _ _ _ h=>h) (Or.inl ⟨by rfl,?_⟩) ?_ ?_;rotate_left;(focus (intro w';go_simp;with_reducible rfl));rotate_left;(focus (simp only [Act.put,sA_,sB_,sC_,i64_w,i32_w];rfl))
                     refine pure_ (i:=19) (N:=some 3) (v:=?_) (a':=?_) #[true,true,true,true,true,true,true,true,true,true,true,true,true,true,true,true,true,true,true,true] rfl rfl (any_of HT_.out (by kernel_rfl)) (fun _ _ _ h=>h) (Or.inl ⟨by rfl,?_⟩) ?_ ?_;rotate_left;(focus (intro w';go_simp;with_reducible rfl));rotate_left;(focus (simp only [Act.put,sA_,sB_,sC_,i64_w,i32_w];rfl))
                     refine done_ (done_of HT_.out (by kernel_rfl)) ?_
                     try go_wp2
                     go_roundg k5
                     case measure=>have:=HJ6.out;have:=HJ15.out;have:=HJ21.out;have:=HJ25.out;have:=HK5.out;omega
                     case rel=>exact ⟨(x3_5 ++ (((t134 ++ t135) ++ t136) ++ t137)),(wrap64 (x5_5 + 1)),(by first|rfl|(simp;done)|(simp [*];done)),(by first|rfl|(simp;done)|(simp [*];done)),H',⟨by have:=HJ6.out;have:=HJ15.out;have:=HJ21.out;have:=HJ25.out;have:=HK5.out;omega⟩,⟨by (with_reducible repeat (first|refine blk_drewN ?_ _|refine blk_drew ?_|refine blk_alloc ?_ _));exact BK115.out⟩,⟨by repeat (first|(with_reducible first|exact HB.out|apply below_alloc|apply pw_below_drewN|apply below_drew1|refine below_set ?_ GE115.out|refine below_set ?_ GE133.out)|exact HB.out)⟩⟩
                    ·rw [if_neg c89] at H
                     exact absurd H (by simp)
                   ·rw [if_neg c88] at H
                    exact absurd H (by simp)
                  ·rw [if_neg c86] at H
                   exact absurd H (by simp)
                 ·rw [if_neg c84] at H
                  exact absurd H (by simp)
                ·rw [if_neg c81] at H
                 exact absurd H (by simp)
               ·rw [if_neg c80] at H
                have c80b0 : decide (x5_5 < (l0_15.length : Int))=false:=decide_eq_false c80
                clear c80
                replace H:=Option.bind_eq_some_iff.mp H
                obtain ⟨t138,A1000,H⟩:=H
                replace H : (if x3_5.size + t138.size≤9223372036854775807 then (girderref04_Bytes.l1 k5 (x3_5 ++ t138) 0 a0_0 a0_1 a0_2 a0_3 a0_4 a0_5 a0_6 a0_7 a0_8 a0_9 a0_10 a0_11 a0_12 a0_13 a0_14 l0_15 l0_16) else (none))=some r:=H
                have A100:=Aside0.mk A1000
                clear A1000
                by_cases c101 : x3_5.size + t138.size≤9223372036854775807
                ·rw [if_pos c101] at H
                 have c101b0:=eq_true c101
                 have c101b1 : decide (x3_5.size + t138.size≤9223372036854775807)=true:=decide_eq_true c101
                 try have c101b2 : (9223372036854775807 < x3_5.size + t138.size)=False:=eq_false (Nat.not_lt.2 c101)
                 have H':=Aside0.mk H
                 clear H
                 have hcz102_0 : wr.cell? ⟨gb115,0,none⟩=some (.int .i64 a0_0):=(blk_cell BK115.out 0).trans rfl
                 have hcz102_1 : wr.cell? ⟨gb115,1,none⟩=some (.int .i64 a0_1):=(blk_cell BK115.out 1).trans rfl
                 have hcz102_2 : wr.cell? ⟨gb115,2,none⟩=some (.int .u64 a0_2):=(blk_cell BK115.out 2).trans rfl
                 have hcz102_3 : wr.cell? ⟨gb115,3,none⟩=some (.int .u64 a0_3):=(blk_cell BK115.out 3).trans rfl
                 have hcz102_4 : wr.cell? ⟨gb115,4,none⟩=some (.int .u32 a0_4):=(blk_cell BK115.out 4).trans rfl
                 have hcz102_5 : wr.cell? ⟨gb115,5,none⟩=some (.int .i64 a0_5):=(blk_cell BK115.out 5).trans rfl
                 have hcz102_6 : wr.cell? ⟨gb115,6,none⟩=some (.int .i64 a0_6):=(blk_cell BK115.out 6).trans rfl
                 have hcz102_7 : wr.cell? ⟨gb115,7,none⟩=some (.string a0_7):=(blk_cell BK115.out 7).trans rfl
                 have hcz102_8 : wr.cell? ⟨gb115,8,none⟩=some (.string a0_8):=(blk_cell BK115.out 8).trans rfl
                 have hcz102_9 : wr.cell? ⟨gb115,9,none⟩=some (.int .i64 a0_9):=(blk_cell BK115.out 9).trans rfl
                 have hcz102_10 : wr.cell? ⟨gb115,10,none⟩=some (.int .i64 a0_10):=(blk_cell BK115.out 10).trans rfl
                 have hcz102_11 : wr.cell? ⟨gb115,11,none⟩=some (.string a0_11):=(blk_cell BK115.out 11).trans rfl
                 have hcz102_12 : wr.cell? ⟨gb115,12,none⟩=some (.int .u32 a0_12):=(blk_cell BK115.out 12).trans rfl
                 have hcz102_13 : wr.cell? ⟨gb115,13,none⟩=some (.int .i64 a0_13):=(blk_cell BK115.out 13).trans rfl
                 have hcz102_14 : wr.cell? ⟨gb115,14,none⟩=some (.bool a0_14):=(blk_cell BK115.out 14).trans rfl
                 have hcz102_15 : wr.cell? ⟨gb115,15,none⟩=some (.slice A0_15 l0_15.length c0_15):=(blk_cell BK115.out 15).trans rfl
                 have hcz102_16 : wr.cell? ⟨gb115,16,none⟩=some (.slice A0_16 l0_16.length c0_16):=(blk_cell BK115.out 16).trans rfl
                 have hfz102_0:=blk_frozen BK115.out 0
                 have hfz102_1:=blk_frozen BK115.out 1
                 have hfz102_2:=blk_frozen BK115.out 2
                 have hfz102_3:=blk_frozen BK115.out 3
                 have hfz102_4:=blk_frozen BK115.out 4
                 have hfz102_5:=blk_frozen BK115.out 5
                 have hfz102_6:=blk_frozen BK115.out 6
                 have hfz102_7:=blk_frozen BK115.out 7
                 have hfz102_8:=blk_frozen BK115.out 8
                 have hfz102_9:=blk_frozen BK115.out 9
                 have hfz102_10:=blk_frozen BK115.out 10
                 have hfz102_11:=blk_frozen BK115.out 11
                 have hfz102_12:=blk_frozen BK115.out 12
                 have hfz102_13:=blk_frozen BK115.out 13
                 have hfz102_14:=blk_frozen BK115.out 14
                 have hfz102_15:=blk_frozen BK115.out 15
                 have hfz102_16:=blk_frozen BK115.out 16
                 go_wp2_with (first|((with_reducible refine gate_callee (f:=32) rfl ?_);refine goesL_ (some 149) rfl rfl Try.func32 (by kernel_rfl) rfl #[.int .u64 (IntKind.u64.wrap ((l0_16.length : Int))),.int .i64 2] rfl (by (try simp only [List.map_toArray,List.map_cons,List.map_nil]);first|done|rfl|(simp only [List.length_drop,List.length_take];rfl)) ?_;(with_reducible refine (girderref01_Put.calls (IntKind.u64.wrap ((l0_16.length : Int))) 2 t138 _ A100.out).mono ?_);rintro e w103 ⟨rfl,hb⟩;refine ⟨_,rfl,?_⟩;have n0_:=Aside0.mk (blk_below (g:=gb115) (o:=.cells #[.int .i64 a0_0,.int .i64 a0_1,.int .u64 a0_2,.int .u64 a0_3,.int .u32 a0_4,.int .i64 a0_5,.int .i64 a0_6,.string a0_7,.string a0_8,.int .i64 a0_9,.int .i64 a0_10,.string a0_11,.int .u32 a0_12,.int .i64 a0_13,.bool a0_14,.slice A0_15 l0_15.length c0_15,.slice A0_16 l0_16.length c0_16] 47 (0,0)) (by (with_reducible repeat (first|refine blk_drewN ?_ _|refine blk_drew ?_|refine blk_alloc ?_ _));exact BK115.out) hb);have n1_:=Aside0.mk (below_step (by repeat (first|(with_reducible first|exact HB.out|apply below_alloc|apply pw_below_drewN|apply below_drew1|refine below_set ?_ GE115.out)|exact HB.out)) hb);clear BK115;clear HB;have BK115:=n0_;have HB:=n1_;clear n0_ n1_;(try clear hb);(try clear hb2);(try clear hk);(try clear hi)))
                 go_loopg [3,7] k5 (fun kq v3 v7 w'=>∃ (x3_6 : ByteArray) (x7_6 : Int),v3=.string x3_6∧v7=.int .i64 x7_6∧Aside0 (girderref04_Bytes.l1 kq x3_6 x7_6 a0_0 a0_1 a0_2 a0_3 a0_4 a0_5 a0_6 a0_7 a0_8 a0_9 a0_10 a0_11 a0_12 a0_13 a0_14 l0_15 l0_16=some r)∧Aside0 (kq≤k5)∧Aside0 (w'.heap[gb115]?=some (.cells #[.int .i64 a0_0,.int .i64 a0_1,.int .u64 a0_2,.int .u64 a0_3,.int .u32 a0_4,.int .i64 a0_5,.int .i64 a0_6,.string a0_7,.string a0_8,.int .i64 a0_9,.int .i64 a0_10,.string a0_11,.int .u32 a0_12,.int .i64 a0_13,.bool a0_14,(.slice A0_15 l0_15.length c0_15),(.slice A0_16 l0_16.length c0_16)] 47 (0,0)))∧Aside0 (Below w.heap.size w w'))
                 case atStart=>exact ⟨(x3_5 ++ t138),(0),(by first|rfl|(simp;done)|(simp [*];done)),(by first|rfl|(simp;done)|(simp [*];done)),H',⟨Nat.le_refl _⟩,⟨by (with_reducible repeat (first|refine blk_drewN ?_ _|refine blk_drew ?_|refine blk_alloc ?_ _));exact BK115.out⟩,⟨by repeat (first|(with_reducible first|exact HB.out|apply below_alloc|apply pw_below_drewN|apply below_drew1|refine below_set ?_ GE115.out)|exact HB.out)⟩⟩
                 case round =>
                  clear H'
                  try clear c1
                  try clear p1
                  try clear q1
                  try clear hx1
                  try clear c2
                  try clear p2
                  try clear c3
                  try clear c4
                  try clear c5
                  try clear c6
                  try clear p6
                  try clear c7
                  try clear c8
                  try clear c9
                  try clear c10
                  try clear p13
                  try clear q13
                  try clear hx13
                  try clear c27
                  try clear c30
                  try clear c32
                  try clear c33
                  try clear c34
                  try clear c36
                  try clear c38
                  try clear c39
                  try clear c40
                  try clear c40b0
                  try clear c40b1
                  try clear c53
                  try clear c55
                  try clear c57
                  try clear c59
                  try clear c60
                  try clear p64
                  try clear c75
                  try clear c75b0
                  try clear c75b1
                  try clear c77
                  try clear c77b0
                  try clear c77b1
                  try clear c77b2
                  try clear c80
                  try clear c80b0
                  try clear c81
                  try clear c81b0
                  try clear c84
                  try clear c84b0
                  try clear c84b1
                  try clear c84b2
                  try clear c86
                  try clear c86b0
                  try clear c86b1
                  try clear c86b2
                  try clear c88
                  try clear c88b0
                  try clear c88b1
                  try clear c88b2
                  try clear c89
                  try clear c89b0
                  try clear c89b1
                  try clear c89b2
                  try clear c92
                  try clear c101
                  try clear c101b0
                  try clear c101b1
                  try clear c101b2
                  try clear hcz102_0
                  try clear hcz102_1
                  try clear hcz102_10
                  try clear hcz102_11
                  try clear hcz102_12
                  try clear hcz102_13
                  try clear hcz102_14
                  try clear hcz102_15
                  try clear hcz102_16
                  try clear hcz102_2
                  try clear hcz102_3
                  try clear hcz102_4
                  try clear hcz102_5
                  try clear hcz102_6
                  try clear hcz102_7
                  try clear hcz102_8
                  try clear hcz102_9
                  try clear hcz74_0
                  try clear hcz74_1
                  try clear hcz74_10
                  try clear hcz74_11
                  try clear hcz74_12
                  try clear hcz74_13
                  try clear hcz74_14
                  try clear hcz74_15
                  try clear hcz74_16
                  try clear hcz74_2
                  try clear hcz74_3
                  try clear hcz74_4
                  try clear hcz74_5
                  try clear hcz74_6
                  try clear hcz74_7
                  try clear hcz74_8
                  try clear hcz74_9
                  try clear hcz78_0
                  try clear hcz78_1
                  try clear hcz78_10
                  try clear hcz78_11
                  try clear hcz78_12
                  try clear hcz78_13
                  try clear hcz78_14
                  try clear hcz78_15
                  try clear hcz78_16
                  try clear hcz78_2
                  try clear hcz78_3
                  try clear hcz78_4
                  try clear hcz78_5
                  try clear hcz78_6
                  try clear hcz78_7
                  try clear hcz78_8
                  try clear hcz78_9
                  try clear hcz90_0
                  try clear hcz90_1
                  try clear hcz90_10
                  try clear hcz90_11
                  try clear hcz90_12
                  try clear hcz90_13
                  try clear hcz90_14
                  try clear hcz90_15
                  try clear hcz90_16
                  try clear hcz90_2
                  try clear hcz90_3
                  try clear hcz90_4
                  try clear hcz90_5
                  try clear hcz90_6
                  try clear hcz90_7
                  try clear hcz90_8
                  try clear hcz90_9
                  try clear hcz93_0
                  try clear hcz93_1
                  try clear hcz93_2
                  try clear hcz93_3
                  try clear hfz102_0
                  try clear hfz102_1
                  try clear hfz102_10
                  try clear hfz102_11
                  try clear hfz102_12
                  try clear hfz102_13
                  try clear hfz102_14
                  try clear hfz102_15
                  try clear hfz102_16
                  try clear hfz102_2
                  try clear hfz102_3
                  try clear hfz102_4
                  try clear hfz102_5
                  try clear hfz102_6
                  try clear hfz102_7
                  try clear hfz102_8
                  try clear hfz102_9
                  try clear hfz74_0
                  try clear hfz74_1
                  try clear hfz74_10
                  try clear hfz74_11
                  try clear hfz74_12
                  try clear hfz74_13
                  try clear hfz74_14
                  try clear hfz74_15
                  try clear hfz74_16
                  try clear hfz74_2
                  try clear hfz74_3
                  try clear hfz74_4
                  try clear hfz74_5
                  try clear hfz74_6
                  try clear hfz74_7
                  try clear hfz74_8
                  try clear hfz74_9
                  try clear hfz78_0
                  try clear hfz78_1
                  try clear hfz78_10
                  try clear hfz78_11
                  try clear hfz78_12
                  try clear hfz78_13
                  try clear hfz78_14
                  try clear hfz78_15
                  try clear hfz78_16
                  try clear hfz78_2
                  try clear hfz78_3
                  try clear hfz78_4
                  try clear hfz78_5
                  try clear hfz78_6
                  try clear hfz78_7
                  try clear hfz78_8
                  try clear hfz78_9
                  try clear hfz90_0
                  try clear hfz90_1
                  try clear hfz90_10
                  try clear hfz90_11
                  try clear hfz90_12
                  try clear hfz90_13
                  try clear hfz90_14
                  try clear hfz90_15
                  try clear hfz90_16
                  try clear hfz90_2
                  try clear hfz90_3
                  try clear hfz90_4
                  try clear hfz90_5
                  try clear hfz90_6
                  try clear hfz90_7
                  try clear hfz90_8
                  try clear hfz90_9
                  try clear hfz93_0
                  try clear hfz93_1
                  try clear hfz93_2
                  try clear hfz93_3
                  try clear hx132_0
                  try clear hx132_1
                  try clear hx132_2
                  try clear hx132_3
                  try clear p132
                  try clear p2
                  try clear q132
                  obtain ⟨x3_6,x7_6,rfl,rfl,HA,HK6,BK115,HB⟩:=hrel
                  cases gk with
                  | zero=>exact absurd HA.out (by simp [girderref04_Bytes.l1])
                  | succ k6 =>
                   have H:=HA.out
                   clear HA
                   simp only [girderref04_Bytes.l1] at H
                   by_cases c104 : x7_6 < (l0_16.length : Int)
                   ·rw [if_pos c104] at H
                    have c104b0 : decide (x7_6 < (l0_16.length : Int))=true:=decide_eq_true c104
                    clear c104
                    by_cases c105 : 0≤x7_6
                    ·rw [if_pos c105] at H
                     have c105b0 : decide (0≤x7_6)=true:=decide_eq_true c105
                     clear c105
                     replace H:=Option.bind_eq_some_iff.mp H
                     obtain ⟨t140,A1060,H⟩:=H
                     replace H : ((girderref01_Put.f ((rd_T58 l0_16 x7_6).f1) 8).bind fun t142=>(if t140.size + t142.size≤9223372036854775807 then (if x3_6.size + (t140 ++ t142).size≤9223372036854775807 then (girderref04_Bytes.l1 k6 (x3_6 ++ (t140 ++ t142)) (wrap64 (x7_6 + 1)) a0_0 a0_1 a0_2 a0_3 a0_4 a0_5 a0_6 a0_7 a0_8 a0_9 a0_10 a0_11 a0_12 a0_13 a0_14 l0_15 l0_16) else (none)) else (none)))=some r:=H
                     have A106:=Aside0.mk A1060
                     clear A1060
                     replace H:=Option.bind_eq_some_iff.mp H
                     obtain ⟨t142,A1070,H⟩:=H
                     replace H : (if t140.size + t142.size≤9223372036854775807 then (if x3_6.size + (t140 ++ t142).size≤9223372036854775807 then (girderref04_Bytes.l1 k6 (x3_6 ++ (t140 ++ t142)) (wrap64 (x7_6 + 1)) a0_0 a0_1 a0_2 a0_3 a0_4 a0_5 a0_6 a0_7 a0_8 a0_9 a0_10 a0_11 a0_12 a0_13 a0_14 l0_15 l0_16) else (none)) else (none))=some r:=H
                     have A107:=Aside0.mk A1070
                     clear A1070
                     by_cases c108 : t140.size + t142.size≤9223372036854775807
                     ·rw [if_pos c108] at H
                      have c108b0:=eq_true c108
                      have c108b1 : decide (t140.size + t142.size≤9223372036854775807)=true:=decide_eq_true c108
                      try have c108b2 : (9223372036854775807 < t140.size + t142.size)=False:=eq_false (Nat.not_lt.2 c108)
                      by_cases c109 : x3_6.size + (t140 ++ t142).size≤9223372036854775807
                      ·rw [if_pos c109] at H
                       have c109b0:=eq_true c109
                       have c109b1 : decide (x3_6.size + (t140 ++ t142).size≤9223372036854775807)=true:=decide_eq_true c109
                       try have c109b2 : (9223372036854775807 < x3_6.size + (t140 ++ t142).size)=False:=eq_false (Nat.not_lt.2 c109)
                       try have c109b3:=c109b2
                       try simp only [ByteArray.size_append] at c109b3
                       have H':=Aside0.mk H
                       clear H
                       have hcz110_0 : wr.cell? ⟨gb115,0,none⟩=some (.int .i64 a0_0):=(blk_cell BK115.out 0).trans rfl
                       have hcz110_1 : wr.cell? ⟨gb115,1,none⟩=some (.int .i64 a0_1):=(blk_cell BK115.out 1).trans rfl
                       have hcz110_2 : wr.cell? ⟨gb115,2,none⟩=some (.int .u64 a0_2):=(blk_cell BK115.out 2).trans rfl
                       have hcz110_3 : wr.cell? ⟨gb115,3,none⟩=some (.int .u64 a0_3):=(blk_cell BK115.out 3).trans rfl
                       have hcz110_4 : wr.cell? ⟨gb115,4,none⟩=some (.int .u32 a0_4):=(blk_cell BK115.out 4).trans rfl
                       have hcz110_5 : wr.cell? ⟨gb115,5,none⟩=some (.int .i64 a0_5):=(blk_cell BK115.out 5).trans rfl
                       have hcz110_6 : wr.cell? ⟨gb115,6,none⟩=some (.int .i64 a0_6):=(blk_cell BK115.out 6).trans rfl
                       have hcz110_7 : wr.cell? ⟨gb115,7,none⟩=some (.string a0_7):=(blk_cell BK115.out 7).trans rfl
                       have hcz110_8 : wr.cell? ⟨gb115,8,none⟩=some (.string a0_8):=(blk_cell BK115.out 8).trans rfl
                       have hcz110_9 : wr.cell? ⟨gb115,9,none⟩=some (.int .i64 a0_9):=(blk_cell BK115.out 9).trans rfl
                       have hcz110_10 : wr.cell? ⟨gb115,10,none⟩=some (.int .i64 a0_10):=(blk_cell BK115.out 10).trans rfl
                       have hcz110_11 : wr.cell? ⟨gb115,11,none⟩=some (.string a0_11):=(blk_cell BK115.out 11).trans rfl
                       have hcz110_12 : wr.cell? ⟨gb115,12,none⟩=some (.int .u32 a0_12):=(blk_cell BK115.out 12).trans rfl
                       have hcz110_13 : wr.cell? ⟨gb115,13,none⟩=some (.int .i64 a0_13):=(blk_cell BK115.out 13).trans rfl
                       have hcz110_14 : wr.cell? ⟨gb115,14,none⟩=some (.bool a0_14):=(blk_cell BK115.out 14).trans rfl
                       have hcz110_15 : wr.cell? ⟨gb115,15,none⟩=some (.slice A0_15 l0_15.length c0_15):=(blk_cell BK115.out 15).trans rfl
                       have hcz110_16 : wr.cell? ⟨gb115,16,none⟩=some (.slice A0_16 l0_16.length c0_16):=(blk_cell BK115.out 16).trans rfl
                       have hfz110_0:=blk_frozen BK115.out 0
                       have hfz110_1:=blk_frozen BK115.out 1
                       have hfz110_2:=blk_frozen BK115.out 2
                       have hfz110_3:=blk_frozen BK115.out 3
                       have hfz110_4:=blk_frozen BK115.out 4
                       have hfz110_5:=blk_frozen BK115.out 5
                       have hfz110_6:=blk_frozen BK115.out 6
                       have hfz110_7:=blk_frozen BK115.out 7
                       have hfz110_8:=blk_frozen BK115.out 8
                       have hfz110_9:=blk_frozen BK115.out 9
                       have hfz110_10:=blk_frozen BK115.out 10
                       have hfz110_11:=blk_frozen BK115.out 11
                       have hfz110_12:=blk_frozen BK115.out 12
                       have hfz110_13:=blk_frozen BK115.out 13
                       have hfz110_14:=blk_frozen BK115.out 14
                       have hfz110_15:=blk_frozen BK115.out 15
                       have hfz110_16:=blk_frozen BK115.out 16
                       try go_wp2
                       have n0_:=Aside0.mk (blk_drew BK115.out)
                       have n1_:=Aside0.mk (below_drew1 HB.out)
                       clear BK115
                       clear HB
                       have BK115:=n0_
                       have HB:=n1_
                       clear n0_ n1_
                       have p139 : 0≤(x7_6 : Int):=of_decide_eq_true (by first|(with_reducible assumption)|assumption)
                       have q139 : x7_6 < (l0_16.length : Int):=of_decide_eq_true (by first|(with_reducible assumption)|assumption)
                       obtain ⟨ad139,e139,hx139_0,hx139_1⟩:=at_T58 HR0_16.out x7_6 p139 q139
                       have hw139_1:=hx139_1
                       have hw139_0:=hx139_0
                       cases e139
                       replace hx139_0:=(HB.out.cell (World.block_lt_of_cell? w _ hx139_0)).trans hx139_0
                       replace hx139_1:=(HB.out.cell (World.block_lt_of_cell? w _ hx139_1)).trans hx139_1
                       replace p139:=eq_true p139
                       replace q139:=eq_true q139
                       have p141 : 0≤(x7_6 : Int):=of_decide_eq_true (by first|(with_reducible assumption)|assumption)
                       have q141 : x7_6 < (l0_16.length : Int):=of_decide_eq_true (by first|(with_reducible assumption)|assumption)
                       obtain ⟨ad141,e141,hx141_0,hx141_1⟩:=at_T58 HR0_16.out x7_6 p141 q141
                       have hw141_1:=hx141_1
                       have hw141_0:=hx141_0
                       obtain rfl : ad139=ad141:=(by injection e141)
                       replace hx141_0:=(HB.out.cell (World.block_lt_of_cell? w _ hx141_0)).trans hx141_0
                       replace hx141_1:=(HB.out.cell (World.block_lt_of_cell? w _ hx141_1)).trans hx141_1
                       replace p141:=eq_true p141
                       replace q141:=eq_true q141
                       refine start_ (n:=19) (S:=fun w'=>w'.cell? ⟨gb115,0,none⟩=some (.int .i64 a0_0)∧w'.cell? ⟨gb115,1,none⟩=some (.int .i64 a0_1)∧w'.cell? ⟨gb115,2,none⟩=some (.int .u64 a0_2)∧w'.cell? ⟨gb115,3,none⟩=some (.int .u64 a0_3)∧w'.cell? ⟨gb115,4,none⟩=some (.int .u32 a0_4)∧w'.cell? ⟨gb115,5,none⟩=some (.int .i64 a0_5)∧w'.cell? ⟨gb115,6,none⟩=some (.int .i64 a0_6)∧w'.cell? ⟨gb115,7,none⟩=some (.string a0_7)∧w'.cell? ⟨gb115,8,none⟩=some (.string a0_8)∧w'.cell? ⟨gb115,9,none⟩=some (.int .i64 a0_9)∧w'.cell? ⟨gb115,10,none⟩=some (.int .i64 a0_10)∧w'.cell? ⟨gb115,11,none⟩=some (.string a0_11)∧w'.cell? ⟨gb115,12,none⟩=some (.int .u32 a0_12)∧w'.cell? ⟨gb115,13,none⟩=some (.int .i64 a0_13)∧w'.cell? ⟨gb115,14,none⟩=some (.bool a0_14)∧w'.cell? ⟨gb115,15,none⟩=some (.slice A0_15 l0_15.length c0_15)∧w'.cell? ⟨gb115,16,none⟩=some (.slice (some ad139) l0_16.length c0_16)∧w'.cell? (ad139.add ((x7_6).toNat * 2))=some (.int .u32 ((rd_T58 l0_16 x7_6).f0))∧w'.cell? ⟨(ad139.add ((x7_6).toNat * 2)).block,(ad139.add ((x7_6).toNat * 2)).off + 1,none⟩=some (.int .u64 ((rd_T58 l0_16 x7_6).f1))∧w'.cell? (ad139.add ((x7_6).toNat * 2))=some (.int .u32 ((rd_T58 l0_16 x7_6).f0))∧w'.cell? ⟨(ad139.add ((x7_6).toNat * 2)).block,(ad139.add ((x7_6).toNat * 2)).off + 1,none⟩=some (.int .u64 ((rd_T58 l0_16 x7_6).f1))) (ds:=[]) #[false,false,false,false,false,false,false,false,false,false,false,false,false,false,false,false,false,false,false] (by kernel_rfl) rfl rfl ⟨(blk_cell BK115.out 0).trans rfl,(blk_cell BK115.out 1).trans rfl,(blk_cell BK115.out 2).trans rfl,(blk_cell BK115.out 3).trans rfl,(blk_cell BK115.out 4).trans rfl,(blk_cell BK115.out 5).trans rfl,(blk_cell BK115.out 6).trans rfl,(blk_cell BK115.out 7).trans rfl,(blk_cell BK115.out 8).trans rfl,(blk_cell BK115.out 9).trans rfl,(blk_cell BK115.out 10).trans rfl,(blk_cell BK115.out 11).trans rfl,(blk_cell BK115.out 12).trans rfl,(blk_cell BK115.out 13).trans rfl,(blk_cell BK115.out 14).trans rfl,(blk_cell BK115.out 15).trans rfl,(blk_cell BK115.out 16).trans rfl,((HB.out.cell (World.block_lt_of_cell? w _ hw139_0)).trans hw139_0),((HB.out.cell (World.block_lt_of_cell? w _ hw139_1)).trans hw139_1),((HB.out.cell (World.block_lt_of_cell? w _ hw141_0)).trans hw141_0),((HB.out.cell (World.block_lt_of_cell? w _ hw141_1)).trans hw141_1)⟩ (fun hHeld=>?_);refine with_tabW girderref04_Bytes.tab22 girderref04_Bytes.bits22 (fun HT_ HW_=>?_)
                       generalize wr.drew=w111 at BK115 HB hx139_0 hx139_1 hx141_0 hx141_1 hHeld ⊢
                       refine pure_ (i:=0) (N:=some 158) (v:=?_) (a':=?_) #[true,false,false,false,false,false,false,false,false,false,false,false,false,false,false,false,false,false,false] rfl rfl (any_of HT_.out (by kernel_rfl)) (fun _ _ _ h=>h) (Or.inl ⟨by rfl,?_⟩) ?_ ?_;rotate_left;(focus (intro w';go_simp;with_reducible rfl));rotate_left;(focus (simp only [Act.put,sA_,sB_,sC_,i64_w,i32_w];rfl))
                       refine pure_ (i:=1) (N:=some 159) (v:=?_) (a':=?_) #[true,true,false,false,false,false,false,false,false,false,false,false,false,false,false,false,false,false,false] rfl rfl (any_of HT_.out (by kernel_rfl)) (fun _ _ _ h=>h) (Or.inl ⟨by rfl,?_⟩) ?_ ?_;rotate_left;(focus (intro w';go_simp;with_reducible rfl));rotate_left;(focus (simp only [Act.put,sA_,sB_,sC_,i64_w,i32_w];rfl))
                       refine pure_ (i:=3) (N:=some 161) (v:=?_) (a':=?_) #[true,true,false,true,false,false,false,false,false,false,false,false,false,false,false,false,false,false,false] rfl rfl (any_of HT_.out (by kernel_rfl)) (fun _ _ _ h=>h) (Or.inl ⟨by rfl,?_⟩) ?_ ?_;rotate_left;(focus (intro w';go_simp;with_reducible rfl));rotate_left;(focus (simp only [Act.put,sA_,sB_,sC_,i64_w,i32_w];rfl))
                       refine pure_ (i:=9) (N:=some 167) (v:=?_) (a':=?_) #[true,true,false,true,false,false,false,false,false,true,false,false,false,false,false,false,false,false,false] rfl rfl (any_of HT_.out (by kernel_rfl)) (fun _ _ _ h=>h) (Or.inl ⟨by rfl,?_⟩) ?_ ?_;rotate_left;(focus (intro w';go_simp;with_reducible rfl));rotate_left;(focus (simp only [Act.put,sA_,sB_,sC_,i64_w,i32_w];rfl))
                       refine pure_ (i:=11) (N:=some 169) (v:=?_) (a':=?_) #[true,true,false,true,false,false,false,false,false,true,false,true,false,false,false,false,false,false,false] rfl rfl (any_of HT_.out (by kernel_rfl)) (fun _ _ _ h=>h) (Or.inl ⟨by rfl,?_⟩) ?_ ?_;rotate_left;(focus (intro w';go_simp;with_reducible rfl));rotate_left;(focus (simp only [Act.put,sA_,sB_,sC_,i64_w,i32_w];rfl))
                       refine take_ (i:=2) (N:=some 160) (v:=?_) (a':=?_) #[true,true,true,true,false,false,false,false,false,true,false,true,false,false,false,false,false,false,false] rfl rfl (take_ofW HT_.out HW_.out (by kernel_rfl)) (fun _ _ _ h=>h) (Or.inl ⟨by rfl,?_⟩) hHeld ?_ ?_;rotate_left;(focus (rintro w' ⟨s0,s1,s2,s3,s4,s5,s6,s7,s8,s9,s10,s11,s12,s13,s14,s15,s16,s17,s18,s19,s20⟩;go_simp;with_reducible rfl));rotate_left;(focus (simp only [Act.put,sA_,sB_,sC_,i64_w,i32_w];rfl))
                       refine pure_ (i:=4) (N:=some 162) (v:=?_) (a':=?_) #[true,true,true,true,true,false,false,false,false,true,false,true,false,false,false,false,false,false,false] rfl rfl (any_of HT_.out (by kernel_rfl)) (fun _ _ _ h=>h) (Or.inl ⟨by rfl,?_⟩) ?_ ?_;rotate_left;(focus (intro w';go_simp;with_reducible rfl));rotate_left;(focus (simp only [Act.put,sA_,sB_,sC_,i64_w,i32_w];rfl))
                       refine pure_ (i:=5) (N:=some 163) (v:=?_) (a':=?_) #[true,true,true,true,true,true,false,false,false,true,false,true,false,false,false,false,false,false,false] rfl rfl (any_of HT_.out (by kernel_rfl)) (fun _ _ _ h=>h) (Or.inl ⟨by rfl,?_⟩) ?_ ?_;rotate_left;(focus (intro w';go_simp;with_reducible rfl));rotate_left;(focus (simp only [Act.put,sA_,sB_,sC_,i64_w,i32_w];rfl))
                       refine take_ (i:=6) (N:=some 164) (v:=?_) (a':=?_) #[true,true,true,true,true,true,true,false,false,true,false,true,false,false,false,false,false,false,false] rfl rfl (take_ofW HT_.out HW_.out (by kernel_rfl)) (fun _ _ _ h=>h) (Or.inl ⟨by rfl,?_⟩) hHeld ?_ ?_;rotate_left;(focus (rintro w' ⟨s0,s1,s2,s3,s4,s5,s6,s7,s8,s9,s10,s11,s12,s13,s14,s15,s16,s17,s18,s19,s20⟩;go_simp;with_reducible rfl));rotate_left;(focus (simp only [Act.put,sA_,sB_,sC_,i64_w,i32_w];rfl))
                       refine pure_ (i:=7) (N:=some 165) (v:=?_) (a':=?_) #[true,true,true,true,true,true,true,true,false,true,false,true,false,false,false,false,false,false,false] rfl rfl (any_of HT_.out (by kernel_rfl)) (fun _ _ _ h=>h) (Or.inl ⟨by rfl,?_⟩) ?_ ?_;rotate_left;(focus (intro w';go_simp;with_reducible rfl));rotate_left;(focus (simp only [Act.put,sA_,sB_,sC_,i64_w,i32_w];rfl))
                       refine take_ (i:=10) (N:=some 168) (v:=?_) (a':=?_) #[true,true,true,true,true,true,true,true,false,true,true,true,false,false,false,false,false,false,false] rfl rfl (take_ofW HT_.out HW_.out (by kernel_rfl)) (fun _ _ _ h=>h) (Or.inl ⟨by rfl,?_⟩) hHeld ?_ ?_;rotate_left;(focus (rintro w' ⟨s0,s1,s2,s3,s4,s5,s6,s7,s8,s9,s10,s11,s12,s13,s14,s15,s16,s17,s18,s19,s20⟩;go_simp;with_reducible rfl));rotate_left;(focus (simp only [Act.put,sA_,sB_,sC_,i64_w,i32_w];rfl))
                       refine pure_ (i:=12) (N:=some 170) (v:=?_) (a':=?_) #[true,true,true,true,true,true,true,true,false,true,true,true,true,false,false,false,false,false,false] rfl rfl (any_of HT_.out (by kernel_rfl)) (fun _ _ _ h=>h) (Or.inl ⟨by rfl,?_⟩) ?_ ?_;rotate_left;(focus (intro w';go_simp;with_reducible rfl));rotate_left;(focus (simp only [Act.put,sA_,sB_,sC_,i64_w,i32_w];rfl))
                       refine pure_ (i:=13) (N:=some 171) (v:=?_) (a':=?_) #[true,true,true,true,true,true,true,true,false,true,true,true,true,true,false,false,false,false,false] rfl rfl (any_of HT_.out (by kernel_rfl)) (fun _ _ _ h=>h) (Or.inl ⟨by rfl,?_⟩) ?_ ?_;rotate_left;(focus (intro w';go_simp;with_reducible rfl));rotate_left;(focus (simp only [Act.put,sA_,sB_,sC_,i64_w,i32_w];rfl))
                       refine take_ (i:=14) (N:=some 172) (v:=?_) (a':=?_) #[true,true,true,true,true,true,true,true,false,true,true,true,true,true,true,false,false,false,false] rfl rfl (take_ofW HT_.out HW_.out (by kernel_rfl)) (fun _ _ _ h=>h) (Or.inl ⟨by rfl,?_⟩) hHeld ?_ ?_;rotate_left;(focus (rintro w' ⟨s0,s1,s2,s3,s4,s5,s6,s7,s8,s9,s10,s11,s12,s13,s14,s15,s16,s17,s18,s19,s20⟩;go_simp;with_reducible rfl));rotate_left;(focus (simp only [Act.put,sA_,sB_,sC_,i64_w,i32_w];rfl))
                       refine one_ (i:=8) (N:=some 166) #[true,true,true,true,true,true,true,true,true,true,true,true,true,true,true,false,false,false,false] rfl rfl (one_of HT_.out (by kernel_rfl)) (by decide) (fun K hK=>?_)
                       refine goes_ Try.func32 (by kernel_rfl) rfl #[.int .u64 (IntKind.u64.wrap ((rd_T58 l0_16 x7_6).f0)),.int .i64 4] (by rfl) rfl rfl (by (try simp only [List.map_toArray,List.map_cons,List.map_nil]);first|done|rfl|(simp only [List.length_drop,List.length_take];rfl)) ?_
                       with_reducible refine (girderref01_Put.calls (IntKind.u64.wrap ((rd_T58 l0_16 x7_6).f0)) 4 t140 _ A106.out).mono ?_
                       rintro e w112 ⟨rfl,hb⟩
                       refine ⟨_,rfl,?_⟩
                       have n0_:=Aside0.mk (blk_below (g:=gb115) (o:=.cells #[.int .i64 a0_0,.int .i64 a0_1,.int .u64 a0_2,.int .u64 a0_3,.int .u32 a0_4,.int .i64 a0_5,.int .i64 a0_6,.string a0_7,.string a0_8,.int .i64 a0_9,.int .i64 a0_10,.string a0_11,.int .u32 a0_12,.int .i64 a0_13,.bool a0_14,.slice A0_15 l0_15.length c0_15,.slice (some ad139) l0_16.length c0_16] 47 (0,0)) (by (with_reducible repeat (first|refine blk_drewN ?_ _|refine blk_drew ?_|refine blk_alloc ?_ _));exact BK115.out) hb)
                       have n1_:=Aside0.mk (below_step (by repeat (first|(with_reducible first|exact HB.out|apply below_alloc|apply pw_below_drewN|apply below_drew1|refine below_set ?_ GE115.out)|exact HB.out)) hb)
                       clear BK115
                       clear HB
                       have BK115:=n0_
                       have HB:=n1_
                       clear n0_ n1_
                       (try clear hb)
                       (try clear hb2)
                       (try clear hk)
                       (try clear hi)
                       refine hK.out _ _ ⟨(blk_cell BK115.out 0).trans rfl,(blk_cell BK115.out 1).trans rfl,(blk_cell BK115.out 2).trans rfl,(blk_cell BK115.out 3).trans rfl,(blk_cell BK115.out 4).trans rfl,(blk_cell BK115.out 5).trans rfl,(blk_cell BK115.out 6).trans rfl,(blk_cell BK115.out 7).trans rfl,(blk_cell BK115.out 8).trans rfl,(blk_cell BK115.out 9).trans rfl,(blk_cell BK115.out 10).trans rfl,(blk_cell BK115.out 11).trans rfl,(blk_cell BK115.out 12).trans rfl,(blk_cell BK115.out 13).trans rfl,(blk_cell BK115.out 14).trans rfl,(blk_cell BK115.out 15).trans rfl,(blk_cell BK115.out 16).trans rfl,((HB.out.cell (World.block_lt_of_cell? w _ hw139_0)).trans hw139_0),((HB.out.cell (World.block_lt_of_cell? w _ hw139_1)).trans hw139_1),((HB.out.cell (World.block_lt_of_cell? w _ hw141_0)).trans hw141_0),((HB.out.cell (World.block_lt_of_cell? w _ hw141_1)).trans hw141_1)⟩ (fun hHeld=>?_)
                       clear hK K
                       refine norm_ (a':=?_) ?_ ?_
                       rotate_left
                       ·show Act.put _ (some 166) _=_
                        simp only [Act.put,sA_,sB_,sC_,i64_w,i32_w]
                        rfl
                       refine one_ (i:=15) (N:=some 173) #[true,true,true,true,true,true,true,true,true,true,true,true,true,true,true,true,false,false,false] rfl rfl (one_of HT_.out (by kernel_rfl)) (by decide) (fun K hK=>?_)
                       refine goes_ Try.func32 (by kernel_rfl) rfl #[.int .u64 ((rd_T58 l0_16 x7_6).f1),.int .i64 8] (by rfl) rfl rfl (by (try simp only [List.map_toArray,List.map_cons,List.map_nil]);first|done|rfl|(simp only [List.length_drop,List.length_take];rfl)) ?_
                       with_reducible refine (girderref01_Put.calls ((rd_T58 l0_16 x7_6).f1) 8 t142 _ A107.out).mono ?_
                       rintro e w113 ⟨rfl,hb⟩
                       refine ⟨_,rfl,?_⟩
                       have n0_:=Aside0.mk (blk_below (g:=gb115) (o:=.cells #[.int .i64 a0_0,.int .i64 a0_1,.int .u64 a0_2,.int .u64 a0_3,.int .u32 a0_4,.int .i64 a0_5,.int .i64 a0_6,.string a0_7,.string a0_8,.int .i64 a0_9,.int .i64 a0_10,.string a0_11,.int .u32 a0_12,.int .i64 a0_13,.bool a0_14,.slice A0_15 l0_15.length c0_15,.slice (some ad139) l0_16.length c0_16] 47 (0,0)) (by (with_reducible repeat (first|refine blk_drewN ?_ _|refine blk_drew ?_|refine blk_alloc ?_ _));exact BK115.out) hb)
                       have n1_:=Aside0.mk (below_step (by repeat (first|(with_reducible first|exact HB.out|apply below_alloc|apply pw_below_drewN|apply below_drew1|refine below_set ?_ GE115.out)|exact HB.out)) hb)
                       clear BK115
                       clear HB
                       have BK115:=n0_
                       have HB:=n1_
                       clear n0_ n1_
                       (try clear hb)
                       (try clear hb2)
                       (try clear hk)
                       (try clear hi)
                       refine hK.out _ _ ⟨(blk_cell BK115.out 0).trans rfl,(blk_cell BK115.out 1).trans rfl,(blk_cell BK115.out 2).trans rfl,(blk_cell BK115.out 3).trans rfl,(blk_cell BK115.out 4).trans rfl,(blk_cell BK115.out 5).trans rfl,(blk_cell BK115.out 6).trans rfl,(blk_cell BK115.out 7).trans rfl,(blk_cell BK115.out 8).trans rfl,(blk_cell BK115.out 9).trans rfl,(blk_cell BK115.out 10).trans rfl,(blk_cell BK115.out 11).trans rfl,(blk_cell BK115.out 12).trans rfl,(blk_cell BK115.out 13).trans rfl,(blk_cell BK115.out 14).trans rfl,(blk_cell BK115.out 15).trans rfl,(blk_cell BK115.out 16).trans rfl,((HB.out.cell (World.block_lt_of_cell? w _ hw139_0)).trans hw139_0),((HB.out.cell (World.block_lt_of_cell? w _ hw139_1)).trans hw139_1),((HB.out.cell (World.block_lt_of_cell? w _ hw141_0)).trans hw141_0),((HB.out.cell (World.block_lt_of_cell? w _ hw141_1)).trans hw141_1)⟩ (fun hHeld=>?_)
                       clear hK K
                       refine norm_ (a':=?_) ?_ ?_
                       rotate_left
                       ·show Act.put _ (some 173) _=_
                        simp only [Act.put,sA_,sB_,sC_,i64_w,i32_w]
                        rfl
                       refine pure_ (i:=16) (N:=some 174) (v:=?_) (a':=?_) #[true,true,true,true,true,true,true,true,true,true,true,true,true,true,true,true,true,false,false] rfl rfl (any_of HT_.out (by kernel_rfl)) (fun _ _ _ h=>h) (Or.inl ⟨by rfl,?_⟩) ?_ ?_;rotate_left;(focus (intro w';go_simp;with_reducible rfl));rotate_left;(focus (simp only [Act.put,sA_,sB_,sC_,i64_w,i32_w];rfl))
                       refine pure_ (i:=17) (N:=some 175) (v:=?_) (a':=?_) #[true,true,true,true,true,true,true,true,true,true,true,true,true,true,true,true,true,true,false] rfl rfl (any_of HT_.out (by kernel_rfl)) (fun _ _ _ h=>h) (Or.inl ⟨by rfl,?_⟩) ?_ ?_;rotate_left;(focus (intro w';go_simp;with_reducible rfl));rotate_left;(focus (simp only [Act.put,sA_,sB_,sC_,i64_w,i32_w];rfl))
                       refine pure_ (i:=18) (N:=some 3) (v:=?_) (a':=?_) #[true,true,true,true,true,true,true,true,true,true,true,true,true,true,true,true,true,true,true] rfl rfl (any_of HT_.out (by kernel_rfl)) (fun _ _ _ h=>h) (Or.inl ⟨by rfl,?_⟩) ?_ ?_;rotate_left;(focus (intro w';go_simp;with_reducible rfl));rotate_left;(focus (simp only [Act.put,sA_,sB_,sC_,i64_w,i32_w];rfl))
                       refine done_ (done_of HT_.out (by kernel_rfl)) ?_
                       try go_wp2
                       go_roundg k6
                       case measure=>have:=HJ6.out;have:=HJ15.out;have:=HJ21.out;have:=HJ25.out;have:=HK5.out;have:=HK6.out;omega
                       case rel=>exact ⟨(x3_6 ++ (t140 ++ t142)),(wrap64 (x7_6 + 1)),(by first|rfl|(simp;done)|(simp [*];done)),(by first|rfl|(simp;done)|(simp [*];done)),H',⟨by have:=HJ6.out;have:=HJ15.out;have:=HJ21.out;have:=HJ25.out;have:=HK5.out;have:=HK6.out;omega⟩,⟨by (with_reducible repeat (first|refine blk_drewN ?_ _|refine blk_drew ?_|refine blk_alloc ?_ _));exact BK115.out⟩,⟨by repeat (first|(with_reducible first|exact HB.out|apply below_alloc|apply pw_below_drewN|apply below_drew1|refine below_set ?_ GE115.out)|exact HB.out)⟩⟩
                      ·rw [if_neg c109] at H
                       exact absurd H (by simp)
                     ·rw [if_neg c108] at H
                      exact absurd H (by simp)
                    ·rw [if_neg c105] at H
                     exact absurd H (by simp)
                   ·rw [if_neg c104] at H
                    have c104b0 : decide (x7_6 < (l0_16.length : Int))=false:=decide_eq_false c104
                    clear c104
                    obtain rfl:=Option.some.inj H
                    have hcz114_0 : wr.cell? ⟨gb115,0,none⟩=some (.int .i64 a0_0):=(blk_cell BK115.out 0).trans rfl
                    have hcz114_1 : wr.cell? ⟨gb115,1,none⟩=some (.int .i64 a0_1):=(blk_cell BK115.out 1).trans rfl
                    have hcz114_2 : wr.cell? ⟨gb115,2,none⟩=some (.int .u64 a0_2):=(blk_cell BK115.out 2).trans rfl
                    have hcz114_3 : wr.cell? ⟨gb115,3,none⟩=some (.int .u64 a0_3):=(blk_cell BK115.out 3).trans rfl
                    have hcz114_4 : wr.cell? ⟨gb115,4,none⟩=some (.int .u32 a0_4):=(blk_cell BK115.out 4).trans rfl
                    have hcz114_5 : wr.cell? ⟨gb115,5,none⟩=some (.int .i64 a0_5):=(blk_cell BK115.out 5).trans rfl
                    have hcz114_6 : wr.cell? ⟨gb115,6,none⟩=some (.int .i64 a0_6):=(blk_cell BK115.out 6).trans rfl
                    have hcz114_7 : wr.cell? ⟨gb115,7,none⟩=some (.string a0_7):=(blk_cell BK115.out 7).trans rfl
                    have hcz114_8 : wr.cell? ⟨gb115,8,none⟩=some (.string a0_8):=(blk_cell BK115.out 8).trans rfl
                    have hcz114_9 : wr.cell? ⟨gb115,9,none⟩=some (.int .i64 a0_9):=(blk_cell BK115.out 9).trans rfl
                    have hcz114_10 : wr.cell? ⟨gb115,10,none⟩=some (.int .i64 a0_10):=(blk_cell BK115.out 10).trans rfl
                    have hcz114_11 : wr.cell? ⟨gb115,11,none⟩=some (.string a0_11):=(blk_cell BK115.out 11).trans rfl
                    have hcz114_12 : wr.cell? ⟨gb115,12,none⟩=some (.int .u32 a0_12):=(blk_cell BK115.out 12).trans rfl
                    have hcz114_13 : wr.cell? ⟨gb115,13,none⟩=some (.int .i64 a0_13):=(blk_cell BK115.out 13).trans rfl
                    have hcz114_14 : wr.cell? ⟨gb115,14,none⟩=some (.bool a0_14):=(blk_cell BK115.out 14).trans rfl
                    have hcz114_15 : wr.cell? ⟨gb115,15,none⟩=some (.slice A0_15 l0_15.length c0_15):=(blk_cell BK115.out 15).trans rfl
                    have hcz114_16 : wr.cell? ⟨gb115,16,none⟩=some (.slice A0_16 l0_16.length c0_16):=(blk_cell BK115.out 16).trans rfl
                    have hfz114_0:=blk_frozen BK115.out 0
                    have hfz114_1:=blk_frozen BK115.out 1
                    have hfz114_2:=blk_frozen BK115.out 2
                    have hfz114_3:=blk_frozen BK115.out 3
                    have hfz114_4:=blk_frozen BK115.out 4
                    have hfz114_5:=blk_frozen BK115.out 5
                    have hfz114_6:=blk_frozen BK115.out 6
                    have hfz114_7:=blk_frozen BK115.out 7
                    have hfz114_8:=blk_frozen BK115.out 8
                    have hfz114_9:=blk_frozen BK115.out 9
                    have hfz114_10:=blk_frozen BK115.out 10
                    have hfz114_11:=blk_frozen BK115.out 11
                    have hfz114_12:=blk_frozen BK115.out 12
                    have hfz114_13:=blk_frozen BK115.out 13
                    have hfz114_14:=blk_frozen BK115.out 14
                    have hfz114_15:=blk_frozen BK115.out 15
                    have hfz114_16:=blk_frozen BK115.out 16
                    go_wp2
                    go_ret
                    exact ⟨by first|rfl|(simp [errW_none,errW_some] <;> rfl)|(simp [*,errW_none,errW_some] <;> rfl),by repeat (first|(with_reducible first|exact HB.out|apply below_alloc|apply pw_below_drewN|apply below_drew1|refine below_set ?_ GE115.out)|exact HB.out)⟩
                ·rw [if_neg c101] at H
                 exact absurd H (by simp)
            ·rw [if_neg c77] at H
             exact absurd H (by simp)
           ·rw [if_neg c75] at H
            have c75b0 : (a0_0 == 8)=false:=beq_eq_false_iff_ne.mpr c75
            have c75b1 : (a0_0 != 8)=true:=bne_iff_ne.mpr c75
            obtain rfl:=Option.some.inj H
            have hcz115_0 : wc.cell? ⟨gb115,0,none⟩=some (.int .i64 a0_0):=(blk_cell BK115.out 0).trans rfl
            have hcz115_1 : wc.cell? ⟨gb115,1,none⟩=some (.int .i64 a0_1):=(blk_cell BK115.out 1).trans rfl
            have hcz115_2 : wc.cell? ⟨gb115,2,none⟩=some (.int .u64 a0_2):=(blk_cell BK115.out 2).trans rfl
            have hcz115_3 : wc.cell? ⟨gb115,3,none⟩=some (.int .u64 a0_3):=(blk_cell BK115.out 3).trans rfl
            have hcz115_4 : wc.cell? ⟨gb115,4,none⟩=some (.int .u32 a0_4):=(blk_cell BK115.out 4).trans rfl
            have hcz115_5 : wc.cell? ⟨gb115,5,none⟩=some (.int .i64 a0_5):=(blk_cell BK115.out 5).trans rfl
            have hcz115_6 : wc.cell? ⟨gb115,6,none⟩=some (.int .i64 a0_6):=(blk_cell BK115.out 6).trans rfl
            have hcz115_7 : wc.cell? ⟨gb115,7,none⟩=some (.string a0_7):=(blk_cell BK115.out 7).trans rfl
            have hcz115_8 : wc.cell? ⟨gb115,8,none⟩=some (.string a0_8):=(blk_cell BK115.out 8).trans rfl
            have hcz115_9 : wc.cell? ⟨gb115,9,none⟩=some (.int .i64 a0_9):=(blk_cell BK115.out 9).trans rfl
            have hcz115_10 : wc.cell? ⟨gb115,10,none⟩=some (.int .i64 a0_10):=(blk_cell BK115.out 10).trans rfl
            have hcz115_11 : wc.cell? ⟨gb115,11,none⟩=some (.string a0_11):=(blk_cell BK115.out 11).trans rfl
            have hcz115_12 : wc.cell? ⟨gb115,12,none⟩=some (.int .u32 a0_12):=(blk_cell BK115.out 12).trans rfl
            have hcz115_13 : wc.cell? ⟨gb115,13,none⟩=some (.int .i64 a0_13):=(blk_cell BK115.out 13).trans rfl
            have hcz115_14 : wc.cell? ⟨gb115,14,none⟩=some (.bool a0_14):=(blk_cell BK115.out 14).trans rfl
            have hcz115_15 : wc.cell? ⟨gb115,15,none⟩=some (.slice A0_15 l0_15.length c0_15):=(blk_cell BK115.out 15).trans rfl
            have hcz115_16 : wc.cell? ⟨gb115,16,none⟩=some (.slice A0_16 l0_16.length c0_16):=(blk_cell BK115.out 16).trans rfl
            have hfz115_0:=blk_frozen BK115.out 0
            have hfz115_1:=blk_frozen BK115.out 1
            have hfz115_2:=blk_frozen BK115.out 2
            have hfz115_3:=blk_frozen BK115.out 3
            have hfz115_4:=blk_frozen BK115.out 4
            have hfz115_5:=blk_frozen BK115.out 5
            have hfz115_6:=blk_frozen BK115.out 6
            have hfz115_7:=blk_frozen BK115.out 7
            have hfz115_8:=blk_frozen BK115.out 8
            have hfz115_9:=blk_frozen BK115.out 9
            have hfz115_10:=blk_frozen BK115.out 10
            have hfz115_11:=blk_frozen BK115.out 11
            have hfz115_12:=blk_frozen BK115.out 12
            have hfz115_13:=blk_frozen BK115.out 13
            have hfz115_14:=blk_frozen BK115.out 14
            have hfz115_15:=blk_frozen BK115.out 15
            have hfz115_16:=blk_frozen BK115.out 16
            go_wp2
            go_ret
            exact ⟨by first|rfl|(simp [errW_none,errW_some] <;> rfl)|(simp [*,errW_none,errW_some] <;> rfl),by repeat (first|(with_reducible first|exact HB.out|apply below_alloc|apply pw_below_drewN|apply below_drew1|refine below_set ?_ GE115.out)|exact HB.out)⟩
  ·rw [if_neg c6] at H
   exact absurd H (by simp)
 ·rw [if_neg c4] at H
  exact absurd H (by simp)
end Go.Proofs.Ytebickoieipjpaa.PRr
end
