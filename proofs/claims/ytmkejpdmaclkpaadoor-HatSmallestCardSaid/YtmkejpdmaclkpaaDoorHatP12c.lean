/- The plain law of HatSmallest. -/
import Derived.Test.YtmkejpdmaclkpaaDoorHatQ0
import Derived.Test.YtmkejpdmaclkpaaDoorHatQ1
import Derived.Test.YtmkejpdmaclkpaaDoorHatQ2
import Derived.Test.YtmkejpdmaclkpaaDoorHatQ3
namespace Go.Gh.Hat
set_option linter.unusedVariables false
set_option linter.unusedSimpArgs false

theorem chunk {k : Nat} {s s' : Option (List Int)} {i : Nat} (h : runs 70000 3 1024 s i = some s') (hi : i + 1024 ≤ 65536) : f12_p1_7 70000 3 (k + 1024) s (i : Int) = f12_p1_7 70000 3 k s' ((i + 1024 : Nat) : Int) := by
  rw [runs_eq 70000 3 65536 (by decide +kernel) (by decide) 1024 k s i hi, h]; rfl

theorem z0 : f12_p1_7 70000 3 70000 none ((0 : Nat) : Int) = f12_p1_7 70000 3 68976 (some [6,7,8,9]) ((1024 : Nat) : Int) := chunk (k := 68976) (i := 0) q0 (by decide)
theorem z1 : f12_p1_7 70000 3 68976 (some [6,7,8,9]) ((1024 : Nat) : Int) = f12_p1_7 70000 3 67952 (some [4,7,9,10]) ((2048 : Nat) : Int) := chunk (k := 67952) (i := 1024) q1 (by decide)
theorem z2 : f12_p1_7 70000 3 67952 (some [4,7,9,10]) ((2048 : Nat) : Int) = f12_p1_7 70000 3 66928 (some [4,6,9,11]) ((3072 : Nat) : Int) := chunk (k := 66928) (i := 2048) q2 (by decide)
theorem z3 : f12_p1_7 70000 3 66928 (some [4,6,9,11]) ((3072 : Nat) : Int) = f12_p1_7 70000 3 65904 (some [4,5,10,11]) ((4096 : Nat) : Int) := chunk (k := 65904) (i := 3072) q3 (by decide)
theorem z4 : f12_p1_7 70000 3 65904 (some [4,5,10,11]) ((4096 : Nat) : Int) = f12_p1_7 70000 3 64880 (some [2,7,9,12]) ((5120 : Nat) : Int) := chunk (k := 64880) (i := 4096) q4 (by decide)
theorem z5 : f12_p1_7 70000 3 64880 (some [2,7,9,12]) ((5120 : Nat) : Int) = f12_p1_7 70000 3 63856 (some [1,7,10,12]) ((6144 : Nat) : Int) := chunk (k := 63856) (i := 5120) q5 (by decide)
theorem z6 : f12_p1_7 70000 3 63856 (some [1,7,10,12]) ((6144 : Nat) : Int) = f12_p1_7 70000 3 62832 (some [0,7,11,12]) ((7168 : Nat) : Int) := chunk (k := 62832) (i := 6144) q6 (by decide)
theorem z7 : f12_p1_7 70000 3 62832 (some [0,7,11,12]) ((7168 : Nat) : Int) = f12_p1_7 70000 3 61808 (some [0,7,11,12]) ((8192 : Nat) : Int) := chunk (k := 61808) (i := 7168) q7 (by decide)
theorem z8 : f12_p1_7 70000 3 61808 (some [0,7,11,12]) ((8192 : Nat) : Int) = f12_p1_7 70000 3 60784 (some [0,7,11,12]) ((9216 : Nat) : Int) := chunk (k := 60784) (i := 8192) q8 (by decide)
theorem z9 : f12_p1_7 70000 3 60784 (some [0,7,11,12]) ((9216 : Nat) : Int) = f12_p1_7 70000 3 59760 (some [0,7,10,13]) ((10240 : Nat) : Int) := chunk (k := 59760) (i := 9216) q9 (by decide)
theorem z10 : f12_p1_7 70000 3 59760 (some [0,7,10,13]) ((10240 : Nat) : Int) = f12_p1_7 70000 3 58736 (some [0,6,11,13]) ((11264 : Nat) : Int) := chunk (k := 58736) (i := 10240) q10 (by decide)
theorem z11 : f12_p1_7 70000 3 58736 (some [0,6,11,13]) ((11264 : Nat) : Int) = f12_p1_7 70000 3 57712 (some [0,6,11,13]) ((12288 : Nat) : Int) := chunk (k := 57712) (i := 11264) q11 (by decide)
theorem z12 : f12_p1_7 70000 3 57712 (some [0,6,11,13]) ((12288 : Nat) : Int) = f12_p1_7 70000 3 56688 (some [0,6,11,13]) ((13312 : Nat) : Int) := chunk (k := 56688) (i := 12288) q12 (by decide)
theorem z13 : f12_p1_7 70000 3 56688 (some [0,6,11,13]) ((13312 : Nat) : Int) = f12_p1_7 70000 3 55664 (some [0,6,11,13]) ((14336 : Nat) : Int) := chunk (k := 55664) (i := 13312) q13 (by decide)
theorem z14 : f12_p1_7 70000 3 55664 (some [0,6,11,13]) ((14336 : Nat) : Int) = f12_p1_7 70000 3 54640 (some [0,6,11,13]) ((15360 : Nat) : Int) := chunk (k := 54640) (i := 14336) q14 (by decide)
theorem z15 : f12_p1_7 70000 3 54640 (some [0,6,11,13]) ((15360 : Nat) : Int) = f12_p1_7 70000 3 53616 (some [0,6,11,13]) ((16384 : Nat) : Int) := chunk (k := 53616) (i := 15360) q15 (by decide)
theorem z16 : f12_p1_7 70000 3 53616 (some [0,6,11,13]) ((16384 : Nat) : Int) = f12_p1_7 70000 3 52592 (some [0,6,11,13]) ((17408 : Nat) : Int) := chunk (k := 52592) (i := 16384) q16 (by decide)
theorem z17 : f12_p1_7 70000 3 52592 (some [0,6,11,13]) ((17408 : Nat) : Int) = f12_p1_7 70000 3 51568 (some [0,6,11,13]) ((18432 : Nat) : Int) := chunk (k := 51568) (i := 17408) q17 (by decide)
theorem z18 : f12_p1_7 70000 3 51568 (some [0,6,11,13]) ((18432 : Nat) : Int) = f12_p1_7 70000 3 50544 (some [0,5,11,14]) ((19456 : Nat) : Int) := chunk (k := 50544) (i := 18432) q18 (by decide)
theorem z19 : f12_p1_7 70000 3 50544 (some [0,5,11,14]) ((19456 : Nat) : Int) = f12_p1_7 70000 3 49520 (some [0,5,11,14]) ((20480 : Nat) : Int) := chunk (k := 49520) (i := 19456) q19 (by decide)
theorem z20 : f12_p1_7 70000 3 49520 (some [0,5,11,14]) ((20480 : Nat) : Int) = f12_p1_7 70000 3 48496 (some [0,5,11,14]) ((21504 : Nat) : Int) := chunk (k := 48496) (i := 20480) q20 (by decide)
theorem z21 : f12_p1_7 70000 3 48496 (some [0,5,11,14]) ((21504 : Nat) : Int) = f12_p1_7 70000 3 47472 (some [0,5,11,14]) ((22528 : Nat) : Int) := chunk (k := 47472) (i := 21504) q21 (by decide)
theorem z22 : f12_p1_7 70000 3 47472 (some [0,5,11,14]) ((22528 : Nat) : Int) = f12_p1_7 70000 3 46448 (some [0,5,11,14]) ((23552 : Nat) : Int) := chunk (k := 46448) (i := 22528) q22 (by decide)
theorem z23 : f12_p1_7 70000 3 46448 (some [0,5,11,14]) ((23552 : Nat) : Int) = f12_p1_7 70000 3 45424 (some [0,5,11,14]) ((24576 : Nat) : Int) := chunk (k := 45424) (i := 23552) q23 (by decide)
theorem z24 : f12_p1_7 70000 3 45424 (some [0,5,11,14]) ((24576 : Nat) : Int) = f12_p1_7 70000 3 44400 (some [0,3,13,14]) ((25600 : Nat) : Int) := chunk (k := 44400) (i := 24576) q24 (by decide)
theorem z25 : f12_p1_7 70000 3 44400 (some [0,3,13,14]) ((25600 : Nat) : Int) = f12_p1_7 70000 3 43376 (some [0,3,13,14]) ((26624 : Nat) : Int) := chunk (k := 43376) (i := 25600) q25 (by decide)
theorem z26 : f12_p1_7 70000 3 43376 (some [0,3,13,14]) ((26624 : Nat) : Int) = f12_p1_7 70000 3 42352 (some [0,3,13,14]) ((27648 : Nat) : Int) := chunk (k := 42352) (i := 26624) q26 (by decide)
theorem z27 : f12_p1_7 70000 3 42352 (some [0,3,13,14]) ((27648 : Nat) : Int) = f12_p1_7 70000 3 41328 (some [0,3,13,14]) ((28672 : Nat) : Int) := chunk (k := 41328) (i := 27648) q27 (by decide)
theorem z28 : f12_p1_7 70000 3 41328 (some [0,3,13,14]) ((28672 : Nat) : Int) = f12_p1_7 70000 3 40304 (some [0,3,13,14]) ((29696 : Nat) : Int) := chunk (k := 40304) (i := 28672) q28 (by decide)
theorem z29 : f12_p1_7 70000 3 40304 (some [0,3,13,14]) ((29696 : Nat) : Int) = f12_p1_7 70000 3 39280 (some [0,3,13,14]) ((30720 : Nat) : Int) := chunk (k := 39280) (i := 29696) q29 (by decide)
theorem z30 : f12_p1_7 70000 3 39280 (some [0,3,13,14]) ((30720 : Nat) : Int) = f12_p1_7 70000 3 38256 (some [0,3,13,14]) ((31744 : Nat) : Int) := chunk (k := 38256) (i := 30720) q30 (by decide)
theorem z31 : f12_p1_7 70000 3 38256 (some [0,3,13,14]) ((31744 : Nat) : Int) = f12_p1_7 70000 3 37232 (some [0,3,13,14]) ((32768 : Nat) : Int) := chunk (k := 37232) (i := 31744) q31 (by decide)
theorem z32 : f12_p1_7 70000 3 37232 (some [0,3,13,14]) ((32768 : Nat) : Int) = f12_p1_7 70000 3 36208 (some [0,3,13,14]) ((33792 : Nat) : Int) := chunk (k := 36208) (i := 32768) q32 (by decide)
theorem z33 : f12_p1_7 70000 3 36208 (some [0,3,13,14]) ((33792 : Nat) : Int) = f12_p1_7 70000 3 35184 (some [0,3,13,14]) ((34816 : Nat) : Int) := chunk (k := 35184) (i := 33792) q33 (by decide)
theorem z34 : f12_p1_7 70000 3 35184 (some [0,3,13,14]) ((34816 : Nat) : Int) = f12_p1_7 70000 3 34160 (some [0,3,13,14]) ((35840 : Nat) : Int) := chunk (k := 34160) (i := 34816) q34 (by decide)
theorem z35 : f12_p1_7 70000 3 34160 (some [0,3,13,14]) ((35840 : Nat) : Int) = f12_p1_7 70000 3 33136 (some [0,3,13,14]) ((36864 : Nat) : Int) := chunk (k := 33136) (i := 35840) q35 (by decide)
theorem z36 : f12_p1_7 70000 3 33136 (some [0,3,13,14]) ((36864 : Nat) : Int) = f12_p1_7 70000 3 32112 (some [0,3,13,14]) ((37888 : Nat) : Int) := chunk (k := 32112) (i := 36864) q36 (by decide)
theorem z37 : f12_p1_7 70000 3 32112 (some [0,3,13,14]) ((37888 : Nat) : Int) = f12_p1_7 70000 3 31088 (some [0,3,13,14]) ((38912 : Nat) : Int) := chunk (k := 31088) (i := 37888) q37 (by decide)
theorem z38 : f12_p1_7 70000 3 31088 (some [0,3,13,14]) ((38912 : Nat) : Int) = f12_p1_7 70000 3 30064 (some [0,3,13,14]) ((39936 : Nat) : Int) := chunk (k := 30064) (i := 38912) q38 (by decide)
theorem z39 : f12_p1_7 70000 3 30064 (some [0,3,13,14]) ((39936 : Nat) : Int) = f12_p1_7 70000 3 29040 (some [0,3,13,14]) ((40960 : Nat) : Int) := chunk (k := 29040) (i := 39936) q39 (by decide)
theorem z40 : f12_p1_7 70000 3 29040 (some [0,3,13,14]) ((40960 : Nat) : Int) = f12_p1_7 70000 3 28016 (some [0,2,13,15]) ((41984 : Nat) : Int) := chunk (k := 28016) (i := 40960) q40 (by decide)
theorem z41 : f12_p1_7 70000 3 28016 (some [0,2,13,15]) ((41984 : Nat) : Int) = f12_p1_7 70000 3 26992 (some [0,2,13,15]) ((43008 : Nat) : Int) := chunk (k := 26992) (i := 41984) q41 (by decide)
theorem z42 : f12_p1_7 70000 3 26992 (some [0,2,13,15]) ((43008 : Nat) : Int) = f12_p1_7 70000 3 25968 (some [0,2,13,15]) ((44032 : Nat) : Int) := chunk (k := 25968) (i := 43008) q42 (by decide)
theorem z43 : f12_p1_7 70000 3 25968 (some [0,2,13,15]) ((44032 : Nat) : Int) = f12_p1_7 70000 3 24944 (some [0,2,13,15]) ((45056 : Nat) : Int) := chunk (k := 24944) (i := 44032) q43 (by decide)
theorem z44 : f12_p1_7 70000 3 24944 (some [0,2,13,15]) ((45056 : Nat) : Int) = f12_p1_7 70000 3 23920 (some [0,2,13,15]) ((46080 : Nat) : Int) := chunk (k := 23920) (i := 45056) q44 (by decide)
theorem z45 : f12_p1_7 70000 3 23920 (some [0,2,13,15]) ((46080 : Nat) : Int) = f12_p1_7 70000 3 22896 (some [0,2,13,15]) ((47104 : Nat) : Int) := chunk (k := 22896) (i := 46080) q45 (by decide)
theorem z46 : f12_p1_7 70000 3 22896 (some [0,2,13,15]) ((47104 : Nat) : Int) = f12_p1_7 70000 3 21872 (some [0,2,13,15]) ((48128 : Nat) : Int) := chunk (k := 21872) (i := 47104) q46 (by decide)
theorem z47 : f12_p1_7 70000 3 21872 (some [0,2,13,15]) ((48128 : Nat) : Int) = f12_p1_7 70000 3 20848 (some [0,2,13,15]) ((49152 : Nat) : Int) := chunk (k := 20848) (i := 48128) q47 (by decide)
theorem z48 : f12_p1_7 70000 3 20848 (some [0,2,13,15]) ((49152 : Nat) : Int) = f12_p1_7 70000 3 19824 (some [0,1,14,15]) ((50176 : Nat) : Int) := chunk (k := 19824) (i := 49152) q48 (by decide)
theorem z49 : f12_p1_7 70000 3 19824 (some [0,1,14,15]) ((50176 : Nat) : Int) = f12_p1_7 70000 3 18800 (some [0,1,14,15]) ((51200 : Nat) : Int) := chunk (k := 18800) (i := 50176) q49 (by decide)
theorem z50 : f12_p1_7 70000 3 18800 (some [0,1,14,15]) ((51200 : Nat) : Int) = f12_p1_7 70000 3 17776 (some [0,1,14,15]) ((52224 : Nat) : Int) := chunk (k := 17776) (i := 51200) q50 (by decide)
theorem z51 : f12_p1_7 70000 3 17776 (some [0,1,14,15]) ((52224 : Nat) : Int) = f12_p1_7 70000 3 16752 (some [0,1,14,15]) ((53248 : Nat) : Int) := chunk (k := 16752) (i := 52224) q51 (by decide)
theorem z52 : f12_p1_7 70000 3 16752 (some [0,1,14,15]) ((53248 : Nat) : Int) = f12_p1_7 70000 3 15728 (some [0,1,14,15]) ((54272 : Nat) : Int) := chunk (k := 15728) (i := 53248) q52 (by decide)
theorem z53 : f12_p1_7 70000 3 15728 (some [0,1,14,15]) ((54272 : Nat) : Int) = f12_p1_7 70000 3 14704 (some [0,1,14,15]) ((55296 : Nat) : Int) := chunk (k := 14704) (i := 54272) q53 (by decide)
theorem z54 : f12_p1_7 70000 3 14704 (some [0,1,14,15]) ((55296 : Nat) : Int) = f12_p1_7 70000 3 13680 (some [0,1,14,15]) ((56320 : Nat) : Int) := chunk (k := 13680) (i := 55296) q54 (by decide)
theorem z55 : f12_p1_7 70000 3 13680 (some [0,1,14,15]) ((56320 : Nat) : Int) = f12_p1_7 70000 3 12656 (some [0,1,14,15]) ((57344 : Nat) : Int) := chunk (k := 12656) (i := 56320) q55 (by decide)
theorem z56 : f12_p1_7 70000 3 12656 (some [0,1,14,15]) ((57344 : Nat) : Int) = f12_p1_7 70000 3 11632 (some [0,1,14,15]) ((58368 : Nat) : Int) := chunk (k := 11632) (i := 57344) q56 (by decide)
theorem z57 : f12_p1_7 70000 3 11632 (some [0,1,14,15]) ((58368 : Nat) : Int) = f12_p1_7 70000 3 10608 (some [0,1,14,15]) ((59392 : Nat) : Int) := chunk (k := 10608) (i := 58368) q57 (by decide)
theorem z58 : f12_p1_7 70000 3 10608 (some [0,1,14,15]) ((59392 : Nat) : Int) = f12_p1_7 70000 3 9584 (some [0,1,14,15]) ((60416 : Nat) : Int) := chunk (k := 9584) (i := 59392) q58 (by decide)
theorem z59 : f12_p1_7 70000 3 9584 (some [0,1,14,15]) ((60416 : Nat) : Int) = f12_p1_7 70000 3 8560 (some [0,1,14,15]) ((61440 : Nat) : Int) := chunk (k := 8560) (i := 60416) q59 (by decide)
theorem z60 : f12_p1_7 70000 3 8560 (some [0,1,14,15]) ((61440 : Nat) : Int) = f12_p1_7 70000 3 7536 (some [0,1,14,15]) ((62464 : Nat) : Int) := chunk (k := 7536) (i := 61440) q60 (by decide)
theorem z61 : f12_p1_7 70000 3 7536 (some [0,1,14,15]) ((62464 : Nat) : Int) = f12_p1_7 70000 3 6512 (some [0,1,14,15]) ((63488 : Nat) : Int) := chunk (k := 6512) (i := 62464) q61 (by decide)
theorem z62 : f12_p1_7 70000 3 6512 (some [0,1,14,15]) ((63488 : Nat) : Int) = f12_p1_7 70000 3 5488 (some [0,1,14,15]) ((64512 : Nat) : Int) := chunk (k := 5488) (i := 63488) q62 (by decide)
theorem z63 : f12_p1_7 70000 3 5488 (some [0,1,14,15]) ((64512 : Nat) : Int) = f12_p1_7 70000 3 4464 (some [0,1,14,15]) ((65536 : Nat) : Int) := chunk (k := 4464) (i := 64512) q63 (by decide)

theorem loop4 : f12_p1_7 70000 3 70000 none 0 = some (some [0, 1, 14, 15]) := by
  have e := z0.trans (z1.trans (z2.trans (z3.trans (z4.trans (z5.trans (z6.trans (z7.trans (z8.trans (z9.trans (z10.trans (z11.trans (z12.trans (z13.trans (z14.trans (z15.trans (z16.trans (z17.trans (z18.trans (z19.trans (z20.trans (z21.trans (z22.trans (z23.trans (z24.trans (z25.trans (z26.trans (z27.trans (z28.trans (z29.trans (z30.trans (z31.trans (z32.trans (z33.trans (z34.trans (z35.trans (z36.trans (z37.trans (z38.trans (z39.trans (z40.trans (z41.trans (z42.trans (z43.trans (z44.trans (z45.trans (z46.trans (z47.trans (z48.trans (z49.trans (z50.trans (z51.trans (z52.trans (z53.trans (z54.trans (z55.trans (z56.trans (z57.trans (z58.trans (z59.trans (z60.trans (z61.trans (z62.trans (z63)))))))))))))))))))))))))))))))))))))))))))))))))))))))))))))))
  exact e.trans (by decide +kernel)

theorem f12_3 : f12 70000 3 = some true := by
  unfold f12
  rw [loop4]
  decide +kernel

theorem f12_0 : f12 70000 0 = some true := by decide +kernel
theorem f12_1 : f12 70000 1 = some true := by decide +kernel
theorem f12_2 : f12 70000 2 = some true := by decide +kernel

theorem f12_plain (x : Int) (h0 : 0 ≤ x) (h1 : x ≤ 255) : f12 70000 x = some true := by
  rw [s_12 70000 x (x % 4) (turn4 h0 h1)]
  have : x % 4 = 0 ∨ x % 4 = 1 ∨ x % 4 = 2 ∨ x % 4 = 3 := by omega
  rcases this with h | h | h | h <;> rw [h]
  · exact f12_0
  · exact f12_1
  · exact f12_2
  · exact f12_3

end Go.Gh.Hat
