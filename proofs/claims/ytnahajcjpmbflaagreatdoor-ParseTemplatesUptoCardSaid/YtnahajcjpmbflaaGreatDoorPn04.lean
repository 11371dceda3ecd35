/- Steps (Ws Wd). Conditions: as stated. -/
import Derived.Test.YtnahajcjpmbflaaGreatDoorPn01
set_option maxHeartbeats 1000000
set_option maxRecDepth 20000
namespace Go.Proofs.YtnahajcjpmbflaaGreatDoor
section
def oneOf (t:ByteArray) (l:List ByteArray):Bool:=l.any fun x=>decide (t=x)
def resW:List ByteArray:= [⟨#[98,114,101,97,107]⟩,⟨#[99,97,115,101]⟩,⟨#[99,97,116,99,104]⟩,⟨#[99,108,97,115,115]⟩,⟨#[99,111,110,115,116]⟩,⟨#[99,111,110,116,105,110,117,101]⟩,⟨#[100,101,98,117,103,103,101,114]⟩,⟨#[100,101,102,97,117,108,116]⟩,⟨#[100,101,108,101,116,101]⟩,⟨#[100,111]⟩,⟨#[101,108,115,101]⟩,⟨#[101,110,117,109]⟩,⟨#[101,120,112,111,114,116]⟩,⟨#[101,120,116,101,110,100,115]⟩,⟨#[102,97,108,115,101]⟩,⟨#[102,105,110,97,108,108,121]⟩,⟨#[102,111,114]⟩,⟨#[102,117,110,99,116,105,111,110]⟩,⟨#[105,102]⟩,⟨#[105,109,112,108,101,109,101,110,116,115]⟩,⟨#[105,109,112,111,114,116]⟩,⟨#[105,110]⟩,⟨#[105,110,115,116,97,110,99,101,111,102]⟩,⟨#[105,110,116,101,114,102,97,99,101]⟩,⟨#[108,101,116]⟩,⟨#[110,101,119]⟩,⟨#[110,117,108,108]⟩,⟨#[112,97,99,107,97,103,101]⟩,⟨#[112,114,105,118,97,116,101]⟩,⟨#[112,114,111,116,101,99,116,101,100]⟩,⟨#[112,117,98,108,105,99]⟩,⟨#[114,101,116,117,114,110]⟩,⟨#[115,116,97,116,105,99]⟩,⟨#[115,117,112,101,114]⟩,⟨#[115,119,105,116,99,104]⟩,⟨#[116,104,105,115]⟩,⟨#[116,104,114,111,119]⟩,⟨#[116,114,117,101]⟩,⟨#[116,114,121]⟩,⟨#[116,121,112,101,111,102]⟩,⟨#[118,97,114]⟩,⟨#[118,111,105,100]⟩,⟨#[119,104,105,108,101]⟩,⟨#[119,105,116,104]⟩,⟨#[121,105,101,108,100]⟩]
def reservedB (t:ByteArray) (m:Bool):Bool:=if t=⟨#[97,119,97,105,116]⟩ then m else oneOf t resW
def levelB (t:ByteArray):Int:=
 if t=⟨#[42,42]⟩ then 12 else if oneOf t [⟨#[42]⟩,⟨#[47]⟩,⟨#[37]⟩] then 11 else if oneOf t [⟨#[43]⟩,⟨#[45]⟩] then 10 else if oneOf t [⟨#[60,60]⟩,⟨#[62,62]⟩,⟨#[62,62,62]⟩] then 9
 else if oneOf t [⟨#[60]⟩,⟨#[62]⟩,⟨#[60,61]⟩,⟨#[62,61]⟩,⟨#[105,110]⟩,⟨#[105,110,115,116,97,110,99,101,111,102]⟩] then 8 else if oneOf t [⟨#[61,61]⟩,⟨#[33,61]⟩,⟨#[61,61,61]⟩,⟨#[33,61,61]⟩] then 7
 else if t=⟨#[38]⟩ then 6 else if t=⟨#[94]⟩ then 5 else if t=⟨#[124]⟩ then 4 else if t=⟨#[38,38]⟩ then 3 else if t=⟨#[124,124]⟩ then 2 else if t=⟨#[63,63]⟩ then 1 else 0
end
section
open Go.RowKit
theorem bt (t:ByteArray) (l:List UInt8):(t.toList==l)=decide (t=⟨l.toArray⟩):=by
 rw [Lib.toList_data,Bool.eq_iff_iff,beq_iff_eq,decide_eq_true_eq]
 constructor
 ·rintro rfl
  cases t
  simp
 ·rintro rfl
  simp
theorem bt_no {t:ByteArray} {l:List UInt8} (h:t≠⟨l.toArray⟩):(t.toList==l)=false:=by rw [bt];exact decide_eq_false h
theorem right_any (t:ByteArray) (w:World):Calls Tryz.prog 138 #[.string t] w fun e w'=>e= .returned (.bool (decide (t=⟨#[42,42]⟩)))∧w=w':=by
 have hb:=bt t [42,42]
 go_enter Tryz.func138,Tryz.ntmps138
 go_wp2_with fail
 go_ret
 exact⟨rfl,rfl⟩
theorem level_0 (w:World):Calls Tryz.prog 172 #[.string ⟨#[42,42]⟩] w fun e w'=>e= .returned (.int .i64 12)∧w=w':=by
 go_enter Tryz.func172,Tryz.ntmps172
 go_wp2_with fail
 go_ret
 exact⟨rfl,rfl⟩
theorem level_1 (w:World):Calls Tryz.prog 172 #[.string ⟨#[42]⟩] w fun e w'=>e= .returned (.int .i64 11)∧w=w':=by
 go_enter Tryz.func172,Tryz.ntmps172
 go_wp2_with fail
 go_ret
 exact⟨rfl,rfl⟩
theorem level_2 (w:World):Calls Tryz.prog 172 #[.string ⟨#[47]⟩] w fun e w'=>e= .returned (.int .i64 11)∧w=w':=by
 go_enter Tryz.func172,Tryz.ntmps172
 go_wp2_with fail
 go_ret
 exact⟨rfl,rfl⟩
theorem level_3 (w:World):Calls Tryz.prog 172 #[.string ⟨#[37]⟩] w fun e w'=>e= .returned (.int .i64 11)∧w=w':=by
 go_enter Tryz.func172,Tryz.ntmps172
 go_wp2_with fail
 go_ret
 exact⟨rfl,rfl⟩
theorem level_4 (w:World):Calls Tryz.prog 172 #[.string ⟨#[43]⟩] w fun e w'=>e= .returned (.int .i64 10)∧w=w':=by
 go_enter Tryz.func172,Tryz.ntmps172
 go_wp2_with fail
 go_ret
 exact⟨rfl,rfl⟩
theorem level_5 (w:World):Calls Tryz.prog 172 #[.string ⟨#[45]⟩] w fun e w'=>e= .returned (.int .i64 10)∧w=w':=by
 go_enter Tryz.func172,Tryz.ntmps172
 go_wp2_with fail
 go_ret
 exact⟨rfl,rfl⟩
theorem level_6 (w:World):Calls Tryz.prog 172 #[.string ⟨#[60,60]⟩] w fun e w'=>e= .returned (.int .i64 9)∧w=w':=by
 go_enter Tryz.func172,Tryz.ntmps172
 go_wp2_with fail
 go_ret
 exact⟨rfl,rfl⟩
theorem level_7 (w:World):Calls Tryz.prog 172 #[.string ⟨#[62,62]⟩] w fun e w'=>e= .returned (.int .i64 9)∧w=w':=by
 go_enter Tryz.func172,Tryz.ntmps172
 go_wp2_with fail
 go_ret
 exact⟨rfl,rfl⟩
theorem level_8 (w:World):Calls Tryz.prog 172 #[.string ⟨#[62,62,62]⟩] w fun e w'=>e= .returned (.int .i64 9)∧w=w':=by
 go_enter Tryz.func172,Tryz.ntmps172
 go_wp2_with fail
 go_ret
 exact⟨rfl,rfl⟩
theorem level_9 (w:World):Calls Tryz.prog 172 #[.string ⟨#[60]⟩] w fun e w'=>e= .returned (.int .i64 8)∧w=w':=by
 go_enter Tryz.func172,Tryz.ntmps172
 go_wp2_with fail
 go_ret
 exact⟨rfl,rfl⟩
theorem level_10 (w:World):Calls Tryz.prog 172 #[.string ⟨#[62]⟩] w fun e w'=>e= .returned (.int .i64 8)∧w=w':=by
 go_enter Tryz.func172,Tryz.ntmps172
 go_wp2_with fail
 go_ret
 exact⟨rfl,rfl⟩
theorem level_11 (w:World):Calls Tryz.prog 172 #[.string ⟨#[60,61]⟩] w fun e w'=>e= .returned (.int .i64 8)∧w=w':=by
 go_enter Tryz.func172,Tryz.ntmps172
 go_wp2_with fail
 go_ret
 exact⟨rfl,rfl⟩
theorem level_12 (w:World):Calls Tryz.prog 172 #[.string ⟨#[62,61]⟩] w fun e w'=>e= .returned (.int .i64 8)∧w=w':=by
 go_enter Tryz.func172,Tryz.ntmps172
 go_wp2_with fail
 go_ret
 exact⟨rfl,rfl⟩
theorem level_13 (w:World):Calls Tryz.prog 172 #[.string ⟨#[105,110]⟩] w fun e w'=>e= .returned (.int .i64 8)∧w=w':=by
 go_enter Tryz.func172,Tryz.ntmps172
 go_wp2_with fail
 go_ret
 exact⟨rfl,rfl⟩
theorem level_14 (w:World):Calls Tryz.prog 172 #[.string ⟨#[105,110,115,116,97,110,99,101,111,102]⟩] w fun e w'=>e= .returned (.int .i64 8)∧w=w':=by
 go_enter Tryz.func172,Tryz.ntmps172
 go_wp2_with fail
 go_ret
 exact⟨rfl,rfl⟩
theorem level_15 (w:World):Calls Tryz.prog 172 #[.string ⟨#[61,61]⟩] w fun e w'=>e= .returned (.int .i64 7)∧w=w':=by
 go_enter Tryz.func172,Tryz.ntmps172
 go_wp2_with fail
 go_ret
 exact⟨rfl,rfl⟩
theorem level_16 (w:World):Calls Tryz.prog 172 #[.string ⟨#[33,61]⟩] w fun e w'=>e= .returned (.int .i64 7)∧w=w':=by
 go_enter Tryz.func172,Tryz.ntmps172
 go_wp2_with fail
 go_ret
 exact⟨rfl,rfl⟩
theorem level_17 (w:World):Calls Tryz.prog 172 #[.string ⟨#[61,61,61]⟩] w fun e w'=>e= .returned (.int .i64 7)∧w=w':=by
 go_enter Tryz.func172,Tryz.ntmps172
 go_wp2_with fail
 go_ret
 exact⟨rfl,rfl⟩
theorem level_18 (w:World):Calls Tryz.prog 172 #[.string ⟨#[33,61,61]⟩] w fun e w'=>e= .returned (.int .i64 7)∧w=w':=by
 go_enter Tryz.func172,Tryz.ntmps172
 go_wp2_with fail
 go_ret
 exact⟨rfl,rfl⟩
theorem level_19 (w:World):Calls Tryz.prog 172 #[.string ⟨#[38]⟩] w fun e w'=>e= .returned (.int .i64 6)∧w=w':=by
 go_enter Tryz.func172,Tryz.ntmps172
 go_wp2_with fail
 go_ret
 exact⟨rfl,rfl⟩
theorem level_20 (w:World):Calls Tryz.prog 172 #[.string ⟨#[94]⟩] w fun e w'=>e= .returned (.int .i64 5)∧w=w':=by
 go_enter Tryz.func172,Tryz.ntmps172
 go_wp2_with fail
 go_ret
 exact⟨rfl,rfl⟩
theorem level_21 (w:World):Calls Tryz.prog 172 #[.string ⟨#[124]⟩] w fun e w'=>e= .returned (.int .i64 4)∧w=w':=by
 go_enter Tryz.func172,Tryz.ntmps172
 go_wp2_with fail
 go_ret
 exact⟨rfl,rfl⟩
theorem level_22 (w:World):Calls Tryz.prog 172 #[.string ⟨#[38,38]⟩] w fun e w'=>e= .returned (.int .i64 3)∧w=w':=by
 go_enter Tryz.func172,Tryz.ntmps172
 go_wp2_with fail
 go_ret
 exact⟨rfl,rfl⟩
theorem level_23 (w:World):Calls Tryz.prog 172 #[.string ⟨#[124,124]⟩] w fun e w'=>e= .returned (.int .i64 2)∧w=w':=by
 go_enter Tryz.func172,Tryz.ntmps172
 go_wp2_with fail
 go_ret
 exact⟨rfl,rfl⟩
theorem level_24 (w:World):Calls Tryz.prog 172 #[.string ⟨#[63,63]⟩] w fun e w'=>e= .returned (.int .i64 1)∧w=w':=by
 go_enter Tryz.func172,Tryz.ntmps172
 go_wp2_with fail
 go_ret
 exact⟨rfl,rfl⟩
theorem level_no (t:ByteArray) (w:World) (h0:t≠⟨#[42,42]⟩) (h1:t≠⟨#[42]⟩) (h2:t≠⟨#[47]⟩) (h3:t≠⟨#[37]⟩) (h4:t≠⟨#[43]⟩) (h5:t≠⟨#[45]⟩) (h6:t≠⟨#[60,60]⟩) (h7:t≠⟨#[62,62]⟩) (h8:t≠⟨#[62,62,62]⟩) (h9:t≠⟨#[60]⟩) (h10:t≠⟨#[62]⟩) (h11:t≠⟨#[60,61]⟩) (h12:t≠⟨#[62,61]⟩) (h13:t≠⟨#[105,110]⟩) (h14:t≠⟨#[105,110,115,116,97,110,99,101,111,102]⟩) (h15:t≠⟨#[61,61]⟩) (h16:t≠⟨#[33,61]⟩) (h17:t≠⟨#[61,61,61]⟩) (h18:t≠⟨#[33,61,61]⟩) (h19:t≠⟨#[38]⟩) (h20:t≠⟨#[94]⟩) (h21:t≠⟨#[124]⟩) (h22:t≠⟨#[38,38]⟩) (h23:t≠⟨#[124,124]⟩) (h24:t≠⟨#[63,63]⟩):Calls Tryz.prog 172 #[.string t] w fun e w'=>e= .returned (.int .i64 0)∧w=w':=by
 have e0:=bt_no (l:= [42,42]) h0
 clear h0
 have e1:=bt_no (l:= [42]) h1
 clear h1
 have e2:=bt_no (l:= [47]) h2
 clear h2
 have e3:=bt_no (l:= [37]) h3
 clear h3
 have e4:=bt_no (l:= [43]) h4
 clear h4
 have e5:=bt_no (l:= [45]) h5
 clear h5
 have e6:=bt_no (l:= [60,60]) h6
 clear h6
 have e7:=bt_no (l:= [62,62]) h7
 clear h7
 have e8:=bt_no (l:= [62,62,62]) h8
 clear h8
 have e9:=bt_no (l:= [60]) h9
 clear h9
 have e10:=bt_no (l:= [62]) h10
 clear h10
 have e11:=bt_no (l:= [60,61]) h11
 clear h11
 have e12:=bt_no (l:= [62,61]) h12
 clear h12
 have e13:=bt_no (l:= [105,110]) h13
 clear h13
 have e14:=bt_no (l:= [105,110,115,116,97,110,99,101,111,102]) h14
 clear h14
 have e15:=bt_no (l:= [61,61]) h15
 clear h15
 have e16:=bt_no (l:= [33,61]) h16
 clear h16
 have e17:=bt_no (l:= [61,61,61]) h17
 clear h17
 have e18:=bt_no (l:= [33,61,61]) h18
 clear h18
 have e19:=bt_no (l:= [38]) h19
 clear h19
 have e20:=bt_no (l:= [94]) h20
 clear h20
 have e21:=bt_no (l:= [124]) h21
 clear h21
 have e22:=bt_no (l:= [38,38]) h22
 clear h22
 have e23:=bt_no (l:= [124,124]) h23
 clear h23
 have e24:=bt_no (l:= [63,63]) h24
 clear h24
 go_enter Tryz.func172,Tryz.ntmps172
 go_wp2_with fail
 go_ret
 exact⟨rfl,rfl⟩
theorem level_any (t:ByteArray) (w:World):Calls Tryz.prog 172 #[.string t] w fun e w'=>e= .returned (.int .i64 (levelB t))∧w=w':=by
 by_cases h0:t=⟨#[42,42]⟩
 ·subst h0;rw [show levelB ⟨#[42,42]⟩=12 by decide+kernel];exact level_0 w
 by_cases h1:t=⟨#[42]⟩
 ·subst h1;rw [show levelB ⟨#[42]⟩=11 by decide+kernel];exact level_1 w
 by_cases h2:t=⟨#[47]⟩
 ·subst h2;rw [show levelB ⟨#[47]⟩=11 by decide+kernel];exact level_2 w
 by_cases h3:t=⟨#[37]⟩
 ·subst h3;rw [show levelB ⟨#[37]⟩=11 by decide+kernel];exact level_3 w
 by_cases h4:t=⟨#[43]⟩
 ·subst h4;rw [show levelB ⟨#[43]⟩=10 by decide+kernel];exact level_4 w
 by_cases h5:t=⟨#[45]⟩
 ·subst h5;rw [show levelB ⟨#[45]⟩=10 by decide+kernel];exact level_5 w
 by_cases h6:t=⟨#[60,60]⟩
 ·subst h6;rw [show levelB ⟨#[60,60]⟩=9 by decide+kernel];exact level_6 w
 by_cases h7:t=⟨#[62,62]⟩
 ·subst h7;rw [show levelB ⟨#[62,62]⟩=9 by decide+kernel];exact level_7 w
 by_cases h8:t=⟨#[62,62,62]⟩
 ·subst h8;rw [show levelB ⟨#[62,62,62]⟩=9 by decide+kernel];exact level_8 w
 by_cases h9:t=⟨#[60]⟩
 ·subst h9;rw [show levelB ⟨#[60]⟩=8 by decide+kernel];exact level_9 w
 by_cases h10:t=⟨#[62]⟩
 ·subst h10;rw [show levelB ⟨#[62]⟩=8 by decide+kernel];exact level_10 w
 by_cases h11:t=⟨#[60,61]⟩
 ·subst h11;rw [show levelB ⟨#[60,61]⟩=8 by decide+kernel];exact level_11 w
 by_cases h12:t=⟨#[62,61]⟩
 ·subst h12;rw [show levelB ⟨#[62,61]⟩=8 by decide+kernel];exact level_12 w
 by_cases h13:t=⟨#[105,110]⟩
 ·subst h13;rw [show levelB ⟨#[105,110]⟩=8 by decide+kernel];exact level_13 w
 by_cases h14:t=⟨#[105,110,115,116,97,110,99,101,111,102]⟩
 ·subst h14;rw [show levelB ⟨#[105,110,115,116,97,110,99,101,111,102]⟩=8 by decide+kernel];exact level_14 w
 by_cases h15:t=⟨#[61,61]⟩
 ·subst h15;rw [show levelB ⟨#[61,61]⟩=7 by decide+kernel];exact level_15 w
 by_cases h16:t=⟨#[33,61]⟩
 ·subst h16;rw [show levelB ⟨#[33,61]⟩=7 by decide+kernel];exact level_16 w
 by_cases h17:t=⟨#[61,61,61]⟩
 ·subst h17;rw [show levelB ⟨#[61,61,61]⟩=7 by decide+kernel];exact level_17 w
 by_cases h18:t=⟨#[33,61,61]⟩
 ·subst h18;rw [show levelB ⟨#[33,61,61]⟩=7 by decide+kernel];exact level_18 w
 by_cases h19:t=⟨#[38]⟩
 ·subst h19;rw [show levelB ⟨#[38]⟩=6 by decide+kernel];exact level_19 w
 by_cases h20:t=⟨#[94]⟩
 ·subst h20;rw [show levelB ⟨#[94]⟩=5 by decide+kernel];exact level_20 w
 by_cases h21:t=⟨#[124]⟩
 ·subst h21;rw [show levelB ⟨#[124]⟩=4 by decide+kernel];exact level_21 w
 by_cases h22:t=⟨#[38,38]⟩
 ·subst h22;rw [show levelB ⟨#[38,38]⟩=3 by decide+kernel];exact level_22 w
 by_cases h23:t=⟨#[124,124]⟩
 ·subst h23;rw [show levelB ⟨#[124,124]⟩=2 by decide+kernel];exact level_23 w
 by_cases h24:t=⟨#[63,63]⟩
 ·subst h24;rw [show levelB ⟨#[63,63]⟩=1 by decide+kernel];exact level_24 w
 rw [show levelB t=0 by unfold levelB oneOf;simp [h0,h1,h2,h3,h4,h5,h6,h7,h8,h9,h10,h11,h12,h13,h14,h15,h16,h17,h18,h19,h20,h21,h22,h23,h24]]
 exact level_no t w h0 h1 h2 h3 h4 h5 h6 h7 h8 h9 h10 h11 h12 h13 h14 h15 h16 h17 h18 h19 h20 h21 h22 h23 h24
theorem reserved_0 (m:Bool) (w:World):Calls Tryz.prog 127 #[.string ⟨#[98,114,101,97,107]⟩,.bool m] w fun e w'=>e= .returned (.bool true)∧w=w':=by
 go_enter Tryz.func127,Tryz.ntmps127
 go_wp2_with fail
 go_ret
 exact⟨rfl,rfl⟩
theorem reserved_1 (m:Bool) (w:World):Calls Tryz.prog 127 #[.string ⟨#[99,97,115,101]⟩,.bool m] w fun e w'=>e= .returned (.bool true)∧w=w':=by
 go_enter Tryz.func127,Tryz.ntmps127
 go_wp2_with fail
 go_ret
 exact⟨rfl,rfl⟩
theorem reserved_2 (m:Bool) (w:World):Calls Tryz.prog 127 #[.string ⟨#[99,97,116,99,104]⟩,.bool m] w fun e w'=>e= .returned (.bool true)∧w=w':=by
 go_enter Tryz.func127,Tryz.ntmps127
 go_wp2_with fail
 go_ret
 exact⟨rfl,rfl⟩
theorem reserved_3 (m:Bool) (w:World):Calls Tryz.prog 127 #[.string ⟨#[99,108,97,115,115]⟩,.bool m] w fun e w'=>e= .returned (.bool true)∧w=w':=by
 go_enter Tryz.func127,Tryz.ntmps127
 go_wp2_with fail
 go_ret
 exact⟨rfl,rfl⟩
theorem reserved_4 (m:Bool) (w:World):Calls Tryz.prog 127 #[.string ⟨#[99,111,110,115,116]⟩,.bool m] w fun e w'=>e= .returned (.bool true)∧w=w':=by
 go_enter Tryz.func127,Tryz.ntmps127
 go_wp2_with fail
 go_ret
 exact⟨rfl,rfl⟩
theorem reserved_5 (m:Bool) (w:World):Calls Tryz.prog 127 #[.string ⟨#[99,111,110,116,105,110,117,101]⟩,.bool m] w fun e w'=>e= .returned (.bool true)∧w=w':=by
 go_enter Tryz.func127,Tryz.ntmps127
 go_wp2_with fail
 go_ret
 exact⟨rfl,rfl⟩
theorem reserved_6 (m:Bool) (w:World):Calls Tryz.prog 127 #[.string ⟨#[100,101,98,117,103,103,101,114]⟩,.bool m] w fun e w'=>e= .returned (.bool true)∧w=w':=by
 go_enter Tryz.func127,Tryz.ntmps127
 go_wp2_with fail
 go_ret
 exact⟨rfl,rfl⟩
theorem reserved_7 (m:Bool) (w:World):Calls Tryz.prog 127 #[.string ⟨#[100,101,102,97,117,108,116]⟩,.bool m] w fun e w'=>e= .returned (.bool true)∧w=w':=by
 go_enter Tryz.func127,Tryz.ntmps127
 go_wp2_with fail
 go_ret
 exact⟨rfl,rfl⟩
theorem reserved_8 (m:Bool) (w:World):Calls Tryz.prog 127 #[.string ⟨#[100,101,108,101,116,101]⟩,.bool m] w fun e w'=>e= .returned (.bool true)∧w=w':=by
 go_enter Tryz.func127,Tryz.ntmps127
 go_wp2_with fail
 go_ret
 exact⟨rfl,rfl⟩
theorem reserved_9 (m:Bool) (w:World):Calls Tryz.prog 127 #[.string ⟨#[100,111]⟩,.bool m] w fun e w'=>e= .returned (.bool true)∧w=w':=by
 go_enter Tryz.func127,Tryz.ntmps127
 go_wp2_with fail
 go_ret
 exact⟨rfl,rfl⟩
theorem reserved_10 (m:Bool) (w:World):Calls Tryz.prog 127 #[.string ⟨#[101,108,115,101]⟩,.bool m] w fun e w'=>e= .returned (.bool true)∧w=w':=by
 go_enter Tryz.func127,Tryz.ntmps127
 go_wp2_with fail
 go_ret
 exact⟨rfl,rfl⟩
theorem reserved_11 (m:Bool) (w:World):Calls Tryz.prog 127 #[.string ⟨#[101,110,117,109]⟩,.bool m] w fun e w'=>e= .returned (.bool true)∧w=w':=by
 go_enter Tryz.func127,Tryz.ntmps127
 go_wp2_with fail
 go_ret
 exact⟨rfl,rfl⟩
theorem reserved_12 (m:Bool) (w:World):Calls Tryz.prog 127 #[.string ⟨#[101,120,112,111,114,116]⟩,.bool m] w fun e w'=>e= .returned (.bool true)∧w=w':=by
 go_enter Tryz.func127,Tryz.ntmps127
 go_wp2_with fail
 go_ret
 exact⟨rfl,rfl⟩
theorem reserved_13 (m:Bool) (w:World):Calls Tryz.prog 127 #[.string ⟨#[101,120,116,101,110,100,115]⟩,.bool m] w fun e w'=>e= .returned (.bool true)∧w=w':=by
 go_enter Tryz.func127,Tryz.ntmps127
 go_wp2_with fail
 go_ret
 exact⟨rfl,rfl⟩
theorem reserved_14 (m:Bool) (w:World):Calls Tryz.prog 127 #[.string ⟨#[102,97,108,115,101]⟩,.bool m] w fun e w'=>e= .returned (.bool true)∧w=w':=by
 go_enter Tryz.func127,Tryz.ntmps127
 go_wp2_with fail
 go_ret
 exact⟨rfl,rfl⟩
theorem reserved_15 (m:Bool) (w:World):Calls Tryz.prog 127 #[.string ⟨#[102,105,110,97,108,108,121]⟩,.bool m] w fun e w'=>e= .returned (.bool true)∧w=w':=by
 go_enter Tryz.func127,Tryz.ntmps127
 go_wp2_with fail
 go_ret
 exact⟨rfl,rfl⟩
theorem reserved_16 (m:Bool) (w:World):Calls Tryz.prog 127 #[.string ⟨#[102,111,114]⟩,.bool m] w fun e w'=>e= .returned (.bool true)∧w=w':=by
 go_enter Tryz.func127,Tryz.ntmps127
 go_wp2_with fail
 go_ret
 exact⟨rfl,rfl⟩
theorem reserved_17 (m:Bool) (w:World):Calls Tryz.prog 127 #[.string ⟨#[102,117,110,99,116,105,111,110]⟩,.bool m] w fun e w'=>e= .returned (.bool true)∧w=w':=by
 go_enter Tryz.func127,Tryz.ntmps127
 go_wp2_with fail
 go_ret
 exact⟨rfl,rfl⟩
theorem reserved_18 (m:Bool) (w:World):Calls Tryz.prog 127 #[.string ⟨#[105,102]⟩,.bool m] w fun e w'=>e= .returned (.bool true)∧w=w':=by
 go_enter Tryz.func127,Tryz.ntmps127
 go_wp2_with fail
 go_ret
 exact⟨rfl,rfl⟩
theorem reserved_19 (m:Bool) (w:World):Calls Tryz.prog 127 #[.string ⟨#[105,109,112,108,101,109,101,110,116,115]⟩,.bool m] w fun e w'=>e= .returned (.bool true)∧w=w':=by
 go_enter Tryz.func127,Tryz.ntmps127
 go_wp2_with fail
 go_ret
 exact⟨rfl,rfl⟩
theorem reserved_20 (m:Bool) (w:World):Calls Tryz.prog 127 #[.string ⟨#[105,109,112,111,114,116]⟩,.bool m] w fun e w'=>e= .returned (.bool true)∧w=w':=by
 go_enter Tryz.func127,Tryz.ntmps127
 go_wp2_with fail
 go_ret
 exact⟨rfl,rfl⟩
theorem reserved_21 (m:Bool) (w:World):Calls Tryz.prog 127 #[.string ⟨#[105,110]⟩,.bool m] w fun e w'=>e= .returned (.bool true)∧w=w':=by
 go_enter Tryz.func127,Tryz.ntmps127
 go_wp2_with fail
 go_ret
 exact⟨rfl,rfl⟩
theorem reserved_22 (m:Bool) (w:World):Calls Tryz.prog 127 #[.string ⟨#[105,110,115,116,97,110,99,101,111,102]⟩,.bool m] w fun e w'=>e= .returned (.bool true)∧w=w':=by
 go_enter Tryz.func127,Tryz.ntmps127
 go_wp2_with fail
 go_ret
 exact⟨rfl,rfl⟩
theorem reserved_23 (m:Bool) (w:World):Calls Tryz.prog 127 #[.string ⟨#[105,110,116,101,114,102,97,99,101]⟩,.bool m] w fun e w'=>e= .returned (.bool true)∧w=w':=by
 go_enter Tryz.func127,Tryz.ntmps127
 go_wp2_with fail
 go_ret
 exact⟨rfl,rfl⟩
theorem reserved_24 (m:Bool) (w:World):Calls Tryz.prog 127 #[.string ⟨#[108,101,116]⟩,.bool m] w fun e w'=>e= .returned (.bool true)∧w=w':=by
 go_enter Tryz.func127,Tryz.ntmps127
 go_wp2_with fail
 go_ret
 exact⟨rfl,rfl⟩
theorem reserved_25 (m:Bool) (w:World):Calls Tryz.prog 127 #[.string ⟨#[110,101,119]⟩,.bool m] w fun e w'=>e= .returned (.bool true)∧w=w':=by
 go_enter Tryz.func127,Tryz.ntmps127
 go_wp2_with fail
 go_ret
 exact⟨rfl,rfl⟩
theorem reserved_26 (m:Bool) (w:World):Calls Tryz.prog 127 #[.string ⟨#[110,117,108,108]⟩,.bool m] w fun e w'=>e= .returned (.bool true)∧w=w':=by
 go_enter Tryz.func127,Tryz.ntmps127
 go_wp2_with fail
 go_ret
 exact⟨rfl,rfl⟩
theorem reserved_27 (m:Bool) (w:World):Calls Tryz.prog 127 #[.string ⟨#[112,97,99,107,97,103,101]⟩,.bool m] w fun e w'=>e= .returned (.bool true)∧w=w':=by
 go_enter Tryz.func127,Tryz.ntmps127
 go_wp2_with fail
 go_ret
 exact⟨rfl,rfl⟩
theorem reserved_28 (m:Bool) (w:World):Calls Tryz.prog 127 #[.string ⟨#[112,114,105,118,97,116,101]⟩,.bool m] w fun e w'=>e= .returned (.bool true)∧w=w':=by
 go_enter Tryz.func127,Tryz.ntmps127
 go_wp2_with fail
 go_ret
 exact⟨rfl,rfl⟩
theorem reserved_29 (m:Bool) (w:World):Calls Tryz.prog 127 #[.string ⟨#[112,114,111,116,101,99,116,101,100]⟩,.bool m] w fun e w'=>e= .returned (.bool true)∧w=w':=by
 go_enter Tryz.func127,Tryz.ntmps127
 go_wp2_with fail
 go_ret
 exact⟨rfl,rfl⟩
theorem reserved_30 (m:Bool) (w:World):Calls Tryz.prog 127 #[.string ⟨#[112,117,98,108,105,99]⟩,.bool m] w fun e w'=>e= .returned (.bool true)∧w=w':=by
 go_enter Tryz.func127,Tryz.ntmps127
 go_wp2_with fail
 go_ret
 exact⟨rfl,rfl⟩
theorem reserved_31 (m:Bool) (w:World):Calls Tryz.prog 127 #[.string ⟨#[114,101,116,117,114,110]⟩,.bool m] w fun e w'=>e= .returned (.bool true)∧w=w':=by
 go_enter Tryz.func127,Tryz.ntmps127
 go_wp2_with fail
 go_ret
 exact⟨rfl,rfl⟩
theorem reserved_32 (m:Bool) (w:World):Calls Tryz.prog 127 #[.string ⟨#[115,116,97,116,105,99]⟩,.bool m] w fun e w'=>e= .returned (.bool true)∧w=w':=by
 go_enter Tryz.func127,Tryz.ntmps127
 go_wp2_with fail
 go_ret
 exact⟨rfl,rfl⟩
theorem reserved_33 (m:Bool) (w:World):Calls Tryz.prog 127 #[.string ⟨#[115,117,112,101,114]⟩,.bool m] w fun e w'=>e= .returned (.bool true)∧w=w':=by
 go_enter Tryz.func127,Tryz.ntmps127
 go_wp2_with fail
 go_ret
 exact⟨rfl,rfl⟩
theorem reserved_34 (m:Bool) (w:World):Calls Tryz.prog 127 #[.string ⟨#[115,119,105,116,99,104]⟩,.bool m] w fun e w'=>e= .returned (.bool true)∧w=w':=by
 go_enter Tryz.func127,Tryz.ntmps127
 go_wp2_with fail
 go_ret
 exact⟨rfl,rfl⟩
theorem reserved_35 (m:Bool) (w:World):Calls Tryz.prog 127 #[.string ⟨#[116,104,105,115]⟩,.bool m] w fun e w'=>e= .returned (.bool true)∧w=w':=by
 go_enter Tryz.func127,Tryz.ntmps127
 go_wp2_with fail
 go_ret
 exact⟨rfl,rfl⟩
theorem reserved_36 (m:Bool) (w:World):Calls Tryz.prog 127 #[.string ⟨#[116,104,114,111,119]⟩,.bool m] w fun e w'=>e= .returned (.bool true)∧w=w':=by
 go_enter Tryz.func127,Tryz.ntmps127
 go_wp2_with fail
 go_ret
 exact⟨rfl,rfl⟩
theorem reserved_37 (m:Bool) (w:World):Calls Tryz.prog 127 #[.string ⟨#[116,114,117,101]⟩,.bool m] w fun e w'=>e= .returned (.bool true)∧w=w':=by
 go_enter Tryz.func127,Tryz.ntmps127
 go_wp2_with fail
 go_ret
 exact⟨rfl,rfl⟩
theorem reserved_38 (m:Bool) (w:World):Calls Tryz.prog 127 #[.string ⟨#[116,114,121]⟩,.bool m] w fun e w'=>e= .returned (.bool true)∧w=w':=by
 go_enter Tryz.func127,Tryz.ntmps127
 go_wp2_with fail
 go_ret
 exact⟨rfl,rfl⟩
theorem reserved_39 (m:Bool) (w:World):Calls Tryz.prog 127 #[.string ⟨#[116,121,112,101,111,102]⟩,.bool m] w fun e w'=>e= .returned (.bool true)∧w=w':=by
 go_enter Tryz.func127,Tryz.ntmps127
 go_wp2_with fail
 go_ret
 exact⟨rfl,rfl⟩
theorem reserved_40 (m:Bool) (w:World):Calls Tryz.prog 127 #[.string ⟨#[118,97,114]⟩,.bool m] w fun e w'=>e= .returned (.bool true)∧w=w':=by
 go_enter Tryz.func127,Tryz.ntmps127
 go_wp2_with fail
 go_ret
 exact⟨rfl,rfl⟩
theorem reserved_41 (m:Bool) (w:World):Calls Tryz.prog 127 #[.string ⟨#[118,111,105,100]⟩,.bool m] w fun e w'=>e= .returned (.bool true)∧w=w':=by
 go_enter Tryz.func127,Tryz.ntmps127
 go_wp2_with fail
 go_ret
 exact⟨rfl,rfl⟩
theorem reserved_42 (m:Bool) (w:World):Calls Tryz.prog 127 #[.string ⟨#[119,104,105,108,101]⟩,.bool m] w fun e w'=>e= .returned (.bool true)∧w=w':=by
 go_enter Tryz.func127,Tryz.ntmps127
 go_wp2_with fail
 go_ret
 exact⟨rfl,rfl⟩
theorem reserved_43 (m:Bool) (w:World):Calls Tryz.prog 127 #[.string ⟨#[119,105,116,104]⟩,.bool m] w fun e w'=>e= .returned (.bool true)∧w=w':=by
 go_enter Tryz.func127,Tryz.ntmps127
 go_wp2_with fail
 go_ret
 exact⟨rfl,rfl⟩
theorem reserved_44 (m:Bool) (w:World):Calls Tryz.prog 127 #[.string ⟨#[121,105,101,108,100]⟩,.bool m] w fun e w'=>e= .returned (.bool true)∧w=w':=by
 go_enter Tryz.func127,Tryz.ntmps127
 go_wp2_with fail
 go_ret
 exact⟨rfl,rfl⟩
theorem reserved_aw (m:Bool) (w:World):Calls Tryz.prog 127 #[.string ⟨#[97,119,97,105,116]⟩,.bool m] w fun e w'=>e= .returned (.bool m)∧w=w':=by
 go_enter Tryz.func127,Tryz.ntmps127
 go_wp2_with fail
 go_ret
 exact⟨rfl,rfl⟩
theorem reserved_no (t:ByteArray) (m:Bool) (w:World) (h0:t≠⟨#[97,119,97,105,116]⟩) (h1:t≠⟨#[98,114,101,97,107]⟩) (h2:t≠⟨#[99,97,115,101]⟩) (h3:t≠⟨#[99,97,116,99,104]⟩) (h4:t≠⟨#[99,108,97,115,115]⟩) (h5:t≠⟨#[99,111,110,115,116]⟩) (h6:t≠⟨#[99,111,110,116,105,110,117,101]⟩) (h7:t≠⟨#[100,101,98,117,103,103,101,114]⟩) (h8:t≠⟨#[100,101,102,97,117,108,116]⟩) (h9:t≠⟨#[100,101,108,101,116,101]⟩) (h10:t≠⟨#[100,111]⟩) (h11:t≠⟨#[101,108,115,101]⟩) (h12:t≠⟨#[101,110,117,109]⟩) (h13:t≠⟨#[101,120,112,111,114,116]⟩) (h14:t≠⟨#[101,120,116,101,110,100,115]⟩) (h15:t≠⟨#[102,97,108,115,101]⟩) (h16:t≠⟨#[102,105,110,97,108,108,121]⟩) (h17:t≠⟨#[102,111,114]⟩) (h18:t≠⟨#[102,117,110,99,116,105,111,110]⟩) (h19:t≠⟨#[105,102]⟩) (h20:t≠⟨#[105,109,112,108,101,109,101,110,116,115]⟩) (h21:t≠⟨#[105,109,112,111,114,116]⟩) (h22:t≠⟨#[105,110]⟩) (h23:t≠⟨#[105,110,115,116,97,110,99,101,111,102]⟩) (h24:t≠⟨#[105,110,116,101,114,102,97,99,101]⟩) (h25:t≠⟨#[108,101,116]⟩) (h26:t≠⟨#[110,101,119]⟩) (h27:t≠⟨#[110,117,108,108]⟩) (h28:t≠⟨#[112,97,99,107,97,103,101]⟩) (h29:t≠⟨#[112,114,105,118,97,116,101]⟩) (h30:t≠⟨#[112,114,111,116,101,99,116,101,100]⟩) (h31:t≠⟨#[112,117,98,108,105,99]⟩) (h32:t≠⟨#[114,101,116,117,114,110]⟩) (h33:t≠⟨#[115,116,97,116,105,99]⟩) (h34:t≠⟨#[115,117,112,101,114]⟩) (h35:t≠⟨#[115,119,105,116,99,104]⟩) (h36:t≠⟨#[116,104,105,115]⟩) (h37:t≠⟨#[116,104,114,111,119]⟩) (h38:t≠⟨#[116,114,117,101]⟩) (h39:t≠⟨#[116,114,121]⟩) (h40:t≠⟨#[116,121,112,101,111,102]⟩) (h41:t≠⟨#[118,97,114]⟩) (h42:t≠⟨#[118,111,105,100]⟩) (h43:t≠⟨#[119,104,105,108,101]⟩) (h44:t≠⟨#[119,105,116,104]⟩) (h45:t≠⟨#[121,105,101,108,100]⟩):Calls Tryz.prog 127 #[.string t,.bool m] w fun e w'=>e= .returned (.bool false)∧w=w':=by
 have e0:=bt_no (l:= [97,119,97,105,116]) h0
 clear h0
 have e1:=bt_no (l:= [98,114,101,97,107]) h1
 clear h1
 have e2:=bt_no (l:= [99,97,115,101]) h2
 clear h2
 have e3:=bt_no (l:= [99,97,116,99,104]) h3
 clear h3
 have e4:=bt_no (l:= [99,108,97,115,115]) h4
 clear h4
 have e5:=bt_no (l:= [99,111,110,115,116]) h5
 clear h5
 have e6:=bt_no (l:= [99,111,110,116,105,110,117,101]) h6
 clear h6
 have e7:=bt_no (l:= [100,101,98,117,103,103,101,114]) h7
 clear h7
 have e8:=bt_no (l:= [100,101,102,97,117,108,116]) h8
 clear h8
 have e9:=bt_no (l:= [100,101,108,101,116,101]) h9
 clear h9
 have e10:=bt_no (l:= [100,111]) h10
 clear h10
 have e11:=bt_no (l:= [101,108,115,101]) h11
 clear h11
 have e12:=bt_no (l:= [101,110,117,109]) h12
 clear h12
 have e13:=bt_no (l:= [101,120,112,111,114,116]) h13
 clear h13
 have e14:=bt_no (l:= [101,120,116,101,110,100,115]) h14
 clear h14
 have e15:=bt_no (l:= [102,97,108,115,101]) h15
 clear h15
 have e16:=bt_no (l:= [102,105,110,97,108,108,121]) h16
 clear h16
 have e17:=bt_no (l:= [102,111,114]) h17
 clear h17
 have e18:=bt_no (l:= [102,117,110,99,116,105,111,110]) h18
 clear h18
 have e19:=bt_no (l:= [105,102]) h19
 clear h19
 have e20:=bt_no (l:= [105,109,112,108,101,109,101,110,116,115]) h20
 clear h20
 have e21:=bt_no (l:= [105,109,112,111,114,116]) h21
 clear h21
 have e22:=bt_no (l:= [105,110]) h22
 clear h22
 have e23:=bt_no (l:= [105,110,115,116,97,110,99,101,111,102]) h23
 clear h23
 have e24:=bt_no (l:= [105,110,116,101,114,102,97,99,101]) h24
 clear h24
 have e25:=bt_no (l:= [108,101,116]) h25
 clear h25
 have e26:=bt_no (l:= [110,101,119]) h26
 clear h26
 have e27:=bt_no (l:= [110,117,108,108]) h27
 clear h27
 have e28:=bt_no (l:= [112,97,99,107,97,103,101]) h28
 clear h28
 have e29:=bt_no (l:= [112,114,105,118,97,116,101]) h29
 clear h29
 have e30:=bt_no (l:= [112,114,111,116,101,99,116,101,100]) h30
 clear h30
 have e31:=bt_no (l:= [112,117,98,108,105,99]) h31
 clear h31
 have e32:=bt_no (l:= [114,101,116,117,114,110]) h32
 clear h32
 have e33:=bt_no (l:= [115,116,97,116,105,99]) h33
 clear h33
 have e34:=bt_no (l:= [115,117,112,101,114]) h34
 clear h34
 have e35:=bt_no (l:= [115,119,105,116,99,104]) h35
 clear h35
 have e36:=bt_no (l:= [116,104,105,115]) h36
 clear h36
 have e37:=bt_no (l:= [116,104,114,111,119]) h37
 clear h37
 have e38:=bt_no (l:= [116,114,117,101]) h38
 clear h38
 have e39:=bt_no (l:= [116,114,121]) h39
 clear h39
 have e40:=bt_no (l:= [116,121,112,101,111,102]) h40
 clear h40
 have e41:=bt_no (l:= [118,97,114]) h41
 clear h41
 have e42:=bt_no (l:= [118,111,105,100]) h42
 clear h42
 have e43:=bt_no (l:= [119,104,105,108,101]) h43
 clear h43
 have e44:=bt_no (l:= [119,105,116,104]) h44
 clear h44
 have e45:=bt_no (l:= [121,105,101,108,100]) h45
 clear h45
 go_enter Tryz.func127,Tryz.ntmps127
 go_wp2_with fail
 go_ret
 exact⟨rfl,rfl⟩
theorem reserved_any (t:ByteArray) (m:Bool) (w:World):Calls Tryz.prog 127 #[.string t,.bool m] w fun e w'=>e= .returned (.bool (reservedB t m))∧w=w':=by
 by_cases h0:t=⟨#[97,119,97,105,116]⟩
 ·subst h0;rw [show reservedB ⟨#[97,119,97,105,116]⟩ m=m by unfold reservedB;rw [if_pos rfl]];exact reserved_aw m w
 by_cases h1:t=⟨#[98,114,101,97,107]⟩
 ·subst h1;rw [show reservedB ⟨#[98,114,101,97,107]⟩ m=true by cases m<;>decide+kernel];exact reserved_0 m w
 by_cases h2:t=⟨#[99,97,115,101]⟩
 ·subst h2;rw [show reservedB ⟨#[99,97,115,101]⟩ m=true by cases m<;>decide+kernel];exact reserved_1 m w
 by_cases h3:t=⟨#[99,97,116,99,104]⟩
 ·subst h3;rw [show reservedB ⟨#[99,97,116,99,104]⟩ m=true by cases m<;>decide+kernel];exact reserved_2 m w
 by_cases h4:t=⟨#[99,108,97,115,115]⟩
 ·subst h4;rw [show reservedB ⟨#[99,108,97,115,115]⟩ m=true by cases m<;>decide+kernel];exact reserved_3 m w
 by_cases h5:t=⟨#[99,111,110,115,116]⟩
 ·subst h5;rw [show reservedB ⟨#[99,111,110,115,116]⟩ m=true by cases m<;>decide+kernel];exact reserved_4 m w
 by_cases h6:t=⟨#[99,111,110,116,105,110,117,101]⟩
 ·subst h6;rw [show reservedB ⟨#[99,111,110,116,105,110,117,101]⟩ m=true by cases m<;>decide+kernel];exact reserved_5 m w
 by_cases h7:t=⟨#[100,101,98,117,103,103,101,114]⟩
 ·subst h7;rw [show reservedB ⟨#[100,101,98,117,103,103,101,114]⟩ m=true by cases m<;>decide+kernel];exact reserved_6 m w
 by_cases h8:t=⟨#[100,101,102,97,117,108,116]⟩
 ·subst h8;rw [show reservedB ⟨#[100,101,102,97,117,108,116]⟩ m=true by cases m<;>decide+kernel];exact reserved_7 m w
 by_cases h9:t=⟨#[100,101,108,101,116,101]⟩
 ·subst h9;rw [show reservedB ⟨#[100,101,108,101,116,101]⟩ m=true by cases m<;>decide+kernel];exact reserved_8 m w
 by_cases h10:t=⟨#[100,111]⟩
 ·subst h10;rw [show reservedB ⟨#[100,111]⟩ m=true by cases m<;>decide+kernel];exact reserved_9 m w
 by_cases h11:t=⟨#[101,108,115,101]⟩
 ·subst h11;rw [show reservedB ⟨#[101,108,115,101]⟩ m=true by cases m<;>decide+kernel];exact reserved_10 m w
 by_cases h12:t=⟨#[101,110,117,109]⟩
 ·subst h12;rw [show reservedB ⟨#[101,110,117,109]⟩ m=true by cases m<;>decide+kernel];exact reserved_11 m w
 by_cases h13:t=⟨#[101,120,112,111,114,116]⟩
 ·subst h13;rw [show reservedB ⟨#[101,120,112,111,114,116]⟩ m=true by cases m<;>decide+kernel];exact reserved_12 m w
 by_cases h14:t=⟨#[101,120,116,101,110,100,115]⟩
 ·subst h14;rw [show reservedB ⟨#[101,120,116,101,110,100,115]⟩ m=true by cases m<;>decide+kernel];exact reserved_13 m w
 by_cases h15:t=⟨#[102,97,108,115,101]⟩
 ·subst h15;rw [show reservedB ⟨#[102,97,108,115,101]⟩ m=true by cases m<;>decide+kernel];exact reserved_14 m w
 by_cases h16:t=⟨#[102,105,110,97,108,108,121]⟩
 ·subst h16;rw [show reservedB ⟨#[102,105,110,97,108,108,121]⟩ m=true by cases m<;>decide+kernel];exact reserved_15 m w
 by_cases h17:t=⟨#[102,111,114]⟩
 ·subst h17;rw [show reservedB ⟨#[102,111,114]⟩ m=true by cases m<;>decide+kernel];exact reserved_16 m w
 by_cases h18:t=⟨#[102,117,110,99,116,105,111,110]⟩
 ·subst h18;rw [show reservedB ⟨#[102,117,110,99,116,105,111,110]⟩ m=true by cases m<;>decide+kernel];exact reserved_17 m w
 by_cases h19:t=⟨#[105,102]⟩
 ·subst h19;rw [show reservedB ⟨#[105,102]⟩ m=true by cases m<;>decide+kernel];exact reserved_18 m w
 by_cases h20:t=⟨#[105,109,112,108,101,109,101,110,116,115]⟩
 ·subst h20;rw [show reservedB ⟨#[105,109,112,108,101,109,101,110,116,115]⟩ m=true by cases m<;>decide+kernel];exact reserved_19 m w
 by_cases h21:t=⟨#[105,109,112,111,114,116]⟩
 ·subst h21;rw [show reservedB ⟨#[105,109,112,111,114,116]⟩ m=true by cases m<;>decide+kernel];exact reserved_20 m w
 by_cases h22:t=⟨#[105,110]⟩
 ·subst h22;rw [show reservedB ⟨#[105,110]⟩ m=true by cases m<;>decide+kernel];exact reserved_21 m w
 by_cases h23:t=⟨#[105,110,115,116,97,110,99,101,111,102]⟩
 ·subst h23;rw [show reservedB ⟨#[105,110,115,116,97,110,99,101,111,102]⟩ m=true by cases m<;>decide+kernel];exact reserved_22 m w
 by_cases h24:t=⟨#[105,110,116,101,114,102,97,99,101]⟩
 ·subst h24;rw [show reservedB ⟨#[105,110,116,101,114,102,97,99,101]⟩ m=true by cases m<;>decide+kernel];exact reserved_23 m w
 by_cases h25:t=⟨#[108,101,116]⟩
 ·subst h25;rw [show reservedB ⟨#[108,101,116]⟩ m=true by cases m<;>decide+kernel];exact reserved_24 m w
 by_cases h26:t=⟨#[110,101,119]⟩
 ·subst h26;rw [show reservedB ⟨#[110,101,119]⟩ m=true by cases m<;>decide+kernel];exact reserved_25 m w
 by_cases h27:t=⟨#[110,117,108,108]⟩
 ·subst h27;rw [show reservedB ⟨#[110,117,108,108]⟩ m=true by cases m<;>decide+kernel];exact reserved_26 m w
 by_cases h28:t=⟨#[112,97,99,107,97,103,101]⟩
 ·subst h28;rw [show reservedB ⟨#[112,97,99,107,97,103,101]⟩ m=true by cases m<;>decide+kernel];exact reserved_27 m w
 by_cases h29:t=⟨#[112,114,105,118,97,116,101]⟩
 ·subst h29;rw [show reservedB ⟨#[112,114,105,118,97,116,101]⟩ m=true by cases m<;>decide+kernel];exact reserved_28 m w
 by_cases h30:t=⟨#[112,114,111,116,101,99,116,101,100]⟩
 ·subst h30;rw [show reservedB ⟨#[112,114,111,116,101,99,116,101,100]⟩ m=true by cases m<;>decide+kernel];exact reserved_29 m w
 by_cases h31:t=⟨#[112,117,98,108,105,99]⟩
 ·subst h31;rw [show reservedB ⟨#[112,117,98,108,105,99]⟩ m=true by cases m<;>decide+kernel];exact reserved_30 m w
 by_cases h32:t=⟨#[114,101,116,117,114,110]⟩
 ·subst h32;rw [show reservedB ⟨#[114,101,116,117,114,110]⟩ m=true by cases m<;>decide+kernel];exact reserved_31 m w
 by_cases h33:t=⟨#[115,116,97,116,105,99]⟩
 ·subst h33;rw [show reservedB ⟨#[115,116,97,116,105,99]⟩ m=true by cases m<;>decide+kernel];exact reserved_32 m w
 by_cases h34:t=⟨#[115,117,112,101,114]⟩
 ·subst h34;rw [show reservedB ⟨#[115,117,112,101,114]⟩ m=true by cases m<;>decide+kernel];exact reserved_33 m w
 by_cases h35:t=⟨#[115,119,105,116,99,104]⟩
 ·subst h35;rw [show reservedB ⟨#[115,119,105,116,99,104]⟩ m=true by cases m<;>decide+kernel];exact reserved_34 m w
 by_cases h36:t=⟨#[116,104,105,115]⟩
 ·subst h36;rw [show reservedB ⟨#[116,104,105,115]⟩ m=true by cases m<;>decide+kernel];exact reserved_35 m w
 by_cases h37:t=⟨#[116,104,114,111,119]⟩
 ·subst h37;rw [show reservedB ⟨#[116,104,114,111,119]⟩ m=true by cases m<;>decide+kernel];exact reserved_36 m w
 by_cases h38:t=⟨#[116,114,117,101]⟩
 ·subst h38;rw [show reservedB ⟨#[116,114,117,101]⟩ m=true by cases m<;>decide+kernel];exact reserved_37 m w
 by_cases h39:t=⟨#[116,114,121]⟩
 ·subst h39;rw [show reservedB ⟨#[116,114,121]⟩ m=true by cases m<;>decide+kernel];exact reserved_38 m w
 by_cases h40:t=⟨#[116,121,112,101,111,102]⟩
 ·subst h40;rw [show reservedB ⟨#[116,121,112,101,111,102]⟩ m=true by cases m<;>decide+kernel];exact reserved_39 m w
 by_cases h41:t=⟨#[118,97,114]⟩
 ·subst h41;rw [show reservedB ⟨#[118,97,114]⟩ m=true by cases m<;>decide+kernel];exact reserved_40 m w
 by_cases h42:t=⟨#[118,111,105,100]⟩
 ·subst h42;rw [show reservedB ⟨#[118,111,105,100]⟩ m=true by cases m<;>decide+kernel];exact reserved_41 m w
 by_cases h43:t=⟨#[119,104,105,108,101]⟩
 ·subst h43;rw [show reservedB ⟨#[119,104,105,108,101]⟩ m=true by cases m<;>decide+kernel];exact reserved_42 m w
 by_cases h44:t=⟨#[119,105,116,104]⟩
 ·subst h44;rw [show reservedB ⟨#[119,105,116,104]⟩ m=true by cases m<;>decide+kernel];exact reserved_43 m w
 by_cases h45:t=⟨#[121,105,101,108,100]⟩
 ·subst h45;rw [show reservedB ⟨#[121,105,101,108,100]⟩ m=true by cases m<;>decide+kernel];exact reserved_44 m w
 rw [show reservedB t m=false by unfold reservedB oneOf resW;simp [h0,h1,h2,h3,h4,h5,h6,h7,h8,h9,h10,h11,h12,h13,h14,h15,h16,h17,h18,h19,h20,h21,h22,h23,h24,h25,h26,h27,h28,h29,h30,h31,h32,h33,h34,h35,h36,h37,h38,h39,h40,h41,h42,h43,h44,h45]]
 exact reserved_no t m w h0 h1 h2 h3 h4 h5 h6 h7 h8 h9 h10 h11 h12 h13 h14 h15 h16 h17 h18 h19 h20 h21 h22 h23 h24 h25 h26 h27 h28 h29 h30 h31 h32 h33 h34 h35 h36 h37 h38 h39 h40 h41 h42 h43 h44 h45
end
end Go.Proofs.YtnahajcjpmbflaaGreatDoor
