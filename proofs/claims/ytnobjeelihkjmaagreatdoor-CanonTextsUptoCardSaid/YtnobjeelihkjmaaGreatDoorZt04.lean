/- Steps (Ws Wd). Conditions: as stated. -/
import Derived.Test.YtnobjeelihkjmaaGreatDoorZt01
set_option maxHeartbeats 1000000
set_option maxRecDepth 20000
namespace Go.Proofs.YtnobjeelihkjmaaGreatDoor
section
def ak5 (t:ByteArray) (l:List ByteArray):Bool:=l.any fun x=>decide (t=x)
def resW:List ByteArray:= [⟨#[98,114,101,97,107]⟩,⟨#[99,97,115,101]⟩,⟨#[99,97,116,99,104]⟩,⟨#[99,108,97,115,115]⟩,⟨#[99,111,110,115,116]⟩,⟨#[99,111,110,116,105,110,117,101]⟩,⟨#[100,101,98,117,103,103,101,114]⟩,⟨#[100,101,102,97,117,108,116]⟩,⟨#[100,101,108,101,116,101]⟩,⟨#[100,111]⟩,⟨#[101,108,115,101]⟩,⟨#[101,110,117,109]⟩,⟨#[101,120,112,111,114,116]⟩,⟨#[101,120,116,101,110,100,115]⟩,⟨#[102,97,108,115,101]⟩,⟨#[102,105,110,97,108,108,121]⟩,⟨#[102,111,114]⟩,⟨#[102,117,110,99,116,105,111,110]⟩,⟨#[105,102]⟩,⟨#[105,109,112,108,101,109,101,110,116,115]⟩,⟨#[105,109,112,111,114,116]⟩,⟨#[105,110]⟩,⟨#[105,110,115,116,97,110,99,101,111,102]⟩,⟨#[105,110,116,101,114,102,97,99,101]⟩,⟨#[108,101,116]⟩,⟨#[110,101,119]⟩,⟨#[110,117,108,108]⟩,⟨#[112,97,99,107,97,103,101]⟩,⟨#[112,114,105,118,97,116,101]⟩,⟨#[112,114,111,116,101,99,116,101,100]⟩,⟨#[112,117,98,108,105,99]⟩,⟨#[114,101,116,117,114,110]⟩,⟨#[115,116,97,116,105,99]⟩,⟨#[115,117,112,101,114]⟩,⟨#[115,119,105,116,99,104]⟩,⟨#[116,104,105,115]⟩,⟨#[116,104,114,111,119]⟩,⟨#[116,114,117,101]⟩,⟨#[116,114,121]⟩,⟨#[116,121,112,101,111,102]⟩,⟨#[118,97,114]⟩,⟨#[118,111,105,100]⟩,⟨#[119,104,105,108,101]⟩,⟨#[119,105,116,104]⟩,⟨#[121,105,101,108,100]⟩]
def aa2 (t:ByteArray) (m:Bool):Bool:=if t=⟨#[97,119,97,105,116]⟩ then m else ak5 t resW
def ab2 (t:ByteArray):Int:=
 if t=⟨#[42,42]⟩ then 12 else if ak5 t [⟨#[42]⟩,⟨#[47]⟩,⟨#[37]⟩] then 11 else if ak5 t [⟨#[43]⟩,⟨#[45]⟩] then 10 else if ak5 t [⟨#[60,60]⟩,⟨#[62,62]⟩,⟨#[62,62,62]⟩] then 9
 else if ak5 t [⟨#[60]⟩,⟨#[62]⟩,⟨#[60,61]⟩,⟨#[62,61]⟩,⟨#[105,110]⟩,⟨#[105,110,115,116,97,110,99,101,111,102]⟩] then 8 else if ak5 t [⟨#[61,61]⟩,⟨#[33,61]⟩,⟨#[61,61,61]⟩,⟨#[33,61,61]⟩] then 7
 else if t=⟨#[38]⟩ then 6 else if t=⟨#[94]⟩ then 5 else if t=⟨#[124]⟩ then 4 else if t=⟨#[38,38]⟩ then 3 else if t=⟨#[124,124]⟩ then 2 else if t=⟨#[63,63]⟩ then 1 else 0
end
section
open Go.RowKit
theorem bt (t:ByteArray) (l:List UInt8):(t.toList==l)=decide (t=⟨l.toArray⟩):=by
 rw [Lib.toList_data,Bool.eq_iff_iff,beq_iff_eq,decide_eq_true_eq]
 constructor
 ·rintro rfl
  cases t
  simp
 ·rintro rfl
  simp
theorem ab8 {t:ByteArray} {l:List UInt8} (h:t≠⟨l.toArray⟩):(t.toList==l)=false:=by rw [bt];exact decide_eq_false h
theorem at6 (t:ByteArray) (w:World):Calls Tryz.prog 159 #[.string t] w fun e w'=>e= .returned (.bool (decide (t=⟨#[42,42]⟩)))∧w=w':=by
 have hb:=bt t [42,42]
 go_enter Tryz.func159,Tryz.ntmps159
 go_wp2_with fail
 go_ret
 exact⟨rfl,rfl⟩
theorem bR8 (w:World):Calls Tryz.prog 219 #[.string ⟨#[42,42]⟩] w fun e w'=>e= .returned (.int .i64 12)∧w=w':=by
 go_enter Tryz.func219,Tryz.ntmps219
 go_wp2_with fail
 go_ret
 exact⟨rfl,rfl⟩
theorem bR9 (w:World):Calls Tryz.prog 219 #[.string ⟨#[42]⟩] w fun e w'=>e= .returned (.int .i64 11)∧w=w':=by
 go_enter Tryz.func219,Tryz.ntmps219
 go_wp2_with fail
 go_ret
 exact⟨rfl,rfl⟩
theorem bS0 (w:World):Calls Tryz.prog 219 #[.string ⟨#[47]⟩] w fun e w'=>e= .returned (.int .i64 11)∧w=w':=by
 go_enter Tryz.func219,Tryz.ntmps219
 go_wp2_with fail
 go_ret
 exact⟨rfl,rfl⟩
theorem bS1 (w:World):Calls Tryz.prog 219 #[.string ⟨#[37]⟩] w fun e w'=>e= .returned (.int .i64 11)∧w=w':=by
 go_enter Tryz.func219,Tryz.ntmps219
 go_wp2_with fail
 go_ret
 exact⟨rfl,rfl⟩
theorem bS2 (w:World):Calls Tryz.prog 219 #[.string ⟨#[43]⟩] w fun e w'=>e= .returned (.int .i64 10)∧w=w':=by
 go_enter Tryz.func219,Tryz.ntmps219
 go_wp2_with fail
 go_ret
 exact⟨rfl,rfl⟩
theorem bS3 (w:World):Calls Tryz.prog 219 #[.string ⟨#[45]⟩] w fun e w'=>e= .returned (.int .i64 10)∧w=w':=by
 go_enter Tryz.func219,Tryz.ntmps219
 go_wp2_with fail
 go_ret
 exact⟨rfl,rfl⟩
theorem bS4 (w:World):Calls Tryz.prog 219 #[.string ⟨#[60,60]⟩] w fun e w'=>e= .returned (.int .i64 9)∧w=w':=by
 go_enter Tryz.func219,Tryz.ntmps219
 go_wp2_with fail
 go_ret
 exact⟨rfl,rfl⟩
theorem bS5 (w:World):Calls Tryz.prog 219 #[.string ⟨#[62,62]⟩] w fun e w'=>e= .returned (.int .i64 9)∧w=w':=by
 go_enter Tryz.func219,Tryz.ntmps219
 go_wp2_with fail
 go_ret
 exact⟨rfl,rfl⟩
theorem bS6 (w:World):Calls Tryz.prog 219 #[.string ⟨#[62,62,62]⟩] w fun e w'=>e= .returned (.int .i64 9)∧w=w':=by
 go_enter Tryz.func219,Tryz.ntmps219
 go_wp2_with fail
 go_ret
 exact⟨rfl,rfl⟩
theorem bS7 (w:World):Calls Tryz.prog 219 #[.string ⟨#[60]⟩] w fun e w'=>e= .returned (.int .i64 8)∧w=w':=by
 go_enter Tryz.func219,Tryz.ntmps219
 go_wp2_with fail
 go_ret
 exact⟨rfl,rfl⟩
theorem bF6 (w:World):Calls Tryz.prog 219 #[.string ⟨#[62]⟩] w fun e w'=>e= .returned (.int .i64 8)∧w=w':=by
 go_enter Tryz.func219,Tryz.ntmps219
 go_wp2_with fail
 go_ret
 exact⟨rfl,rfl⟩
theorem bF7 (w:World):Calls Tryz.prog 219 #[.string ⟨#[60,61]⟩] w fun e w'=>e= .returned (.int .i64 8)∧w=w':=by
 go_enter Tryz.func219,Tryz.ntmps219
 go_wp2_with fail
 go_ret
 exact⟨rfl,rfl⟩
theorem bF8 (w:World):Calls Tryz.prog 219 #[.string ⟨#[62,61]⟩] w fun e w'=>e= .returned (.int .i64 8)∧w=w':=by
 go_enter Tryz.func219,Tryz.ntmps219
 go_wp2_with fail
 go_ret
 exact⟨rfl,rfl⟩
theorem bF9 (w:World):Calls Tryz.prog 219 #[.string ⟨#[105,110]⟩] w fun e w'=>e= .returned (.int .i64 8)∧w=w':=by
 go_enter Tryz.func219,Tryz.ntmps219
 go_wp2_with fail
 go_ret
 exact⟨rfl,rfl⟩
theorem bG0 (w:World):Calls Tryz.prog 219 #[.string ⟨#[105,110,115,116,97,110,99,101,111,102]⟩] w fun e w'=>e= .returned (.int .i64 8)∧w=w':=by
 go_enter Tryz.func219,Tryz.ntmps219
 go_wp2_with fail
 go_ret
 exact⟨rfl,rfl⟩
theorem bG1 (w:World):Calls Tryz.prog 219 #[.string ⟨#[61,61]⟩] w fun e w'=>e= .returned (.int .i64 7)∧w=w':=by
 go_enter Tryz.func219,Tryz.ntmps219
 go_wp2_with fail
 go_ret
 exact⟨rfl,rfl⟩
theorem bG2 (w:World):Calls Tryz.prog 219 #[.string ⟨#[33,61]⟩] w fun e w'=>e= .returned (.int .i64 7)∧w=w':=by
 go_enter Tryz.func219,Tryz.ntmps219
 go_wp2_with fail
 go_ret
 exact⟨rfl,rfl⟩
theorem bG3 (w:World):Calls Tryz.prog 219 #[.string ⟨#[61,61,61]⟩] w fun e w'=>e= .returned (.int .i64 7)∧w=w':=by
 go_enter Tryz.func219,Tryz.ntmps219
 go_wp2_with fail
 go_ret
 exact⟨rfl,rfl⟩
theorem bG4 (w:World):Calls Tryz.prog 219 #[.string ⟨#[33,61,61]⟩] w fun e w'=>e= .returned (.int .i64 7)∧w=w':=by
 go_enter Tryz.func219,Tryz.ntmps219
 go_wp2_with fail
 go_ret
 exact⟨rfl,rfl⟩
theorem bG5 (w:World):Calls Tryz.prog 219 #[.string ⟨#[38]⟩] w fun e w'=>e= .returned (.int .i64 6)∧w=w':=by
 go_enter Tryz.func219,Tryz.ntmps219
 go_wp2_with fail
 go_ret
 exact⟨rfl,rfl⟩
theorem bG6 (w:World):Calls Tryz.prog 219 #[.string ⟨#[94]⟩] w fun e w'=>e= .returned (.int .i64 5)∧w=w':=by
 go_enter Tryz.func219,Tryz.ntmps219
 go_wp2_with fail
 go_ret
 exact⟨rfl,rfl⟩
theorem bG7 (w:World):Calls Tryz.prog 219 #[.string ⟨#[124]⟩] w fun e w'=>e= .returned (.int .i64 4)∧w=w':=by
 go_enter Tryz.func219,Tryz.ntmps219
 go_wp2_with fail
 go_ret
 exact⟨rfl,rfl⟩
theorem bG8 (w:World):Calls Tryz.prog 219 #[.string ⟨#[38,38]⟩] w fun e w'=>e= .returned (.int .i64 3)∧w=w':=by
 go_enter Tryz.func219,Tryz.ntmps219
 go_wp2_with fail
 go_ret
 exact⟨rfl,rfl⟩
theorem bG9 (w:World):Calls Tryz.prog 219 #[.string ⟨#[124,124]⟩] w fun e w'=>e= .returned (.int .i64 2)∧w=w':=by
 go_enter Tryz.func219,Tryz.ntmps219
 go_wp2_with fail
 go_ret
 exact⟨rfl,rfl⟩
theorem bH0 (w:World):Calls Tryz.prog 219 #[.string ⟨#[63,63]⟩] w fun e w'=>e= .returned (.int .i64 1)∧w=w':=by
 go_enter Tryz.func219,Tryz.ntmps219
 go_wp2_with fail
 go_ret
 exact⟨rfl,rfl⟩
theorem bH1 (t:ByteArray) (w:World) (h0:t≠⟨#[42,42]⟩) (h1:t≠⟨#[42]⟩) (h2:t≠⟨#[47]⟩) (h3:t≠⟨#[37]⟩) (h4:t≠⟨#[43]⟩) (h5:t≠⟨#[45]⟩) (h6:t≠⟨#[60,60]⟩) (h7:t≠⟨#[62,62]⟩) (h8:t≠⟨#[62,62,62]⟩) (h9:t≠⟨#[60]⟩) (h10:t≠⟨#[62]⟩) (h11:t≠⟨#[60,61]⟩) (h12:t≠⟨#[62,61]⟩) (h13:t≠⟨#[105,110]⟩) (h14:t≠⟨#[105,110,115,116,97,110,99,101,111,102]⟩) (h15:t≠⟨#[61,61]⟩) (h16:t≠⟨#[33,61]⟩) (h17:t≠⟨#[61,61,61]⟩) (h18:t≠⟨#[33,61,61]⟩) (h19:t≠⟨#[38]⟩) (h20:t≠⟨#[94]⟩) (h21:t≠⟨#[124]⟩) (h22:t≠⟨#[38,38]⟩) (h23:t≠⟨#[124,124]⟩) (h24:t≠⟨#[63,63]⟩):Calls Tryz.prog 219 #[.string t] w fun e w'=>e= .returned (.int .i64 0)∧w=w':=by
 have e0:=ab8 (l:= [42,42]) h0
 clear h0
 have e1:=ab8 (l:= [42]) h1
 clear h1
 have e2:=ab8 (l:= [47]) h2
 clear h2
 have e3:=ab8 (l:= [37]) h3
 clear h3
 have e4:=ab8 (l:= [43]) h4
 clear h4
 have e5:=ab8 (l:= [45]) h5
 clear h5
 have e6:=ab8 (l:= [60,60]) h6
 clear h6
 have e7:=ab8 (l:= [62,62]) h7
 clear h7
 have e8:=ab8 (l:= [62,62,62]) h8
 clear h8
 have e9:=ab8 (l:= [60]) h9
 clear h9
 have e10:=ab8 (l:= [62]) h10
 clear h10
 have e11:=ab8 (l:= [60,61]) h11
 clear h11
 have e12:=ab8 (l:= [62,61]) h12
 clear h12
 have e13:=ab8 (l:= [105,110]) h13
 clear h13
 have e14:=ab8 (l:= [105,110,115,116,97,110,99,101,111,102]) h14
 clear h14
 have e15:=ab8 (l:= [61,61]) h15
 clear h15
 have e16:=ab8 (l:= [33,61]) h16
 clear h16
 have e17:=ab8 (l:= [61,61,61]) h17
 clear h17
 have e18:=ab8 (l:= [33,61,61]) h18
 clear h18
 have e19:=ab8 (l:= [38]) h19
 clear h19
 have e20:=ab8 (l:= [94]) h20
 clear h20
 have e21:=ab8 (l:= [124]) h21
 clear h21
 have e22:=ab8 (l:= [38,38]) h22
 clear h22
 have e23:=ab8 (l:= [124,124]) h23
 clear h23
 have e24:=ab8 (l:= [63,63]) h24
 clear h24
 go_enter Tryz.func219,Tryz.ntmps219
 go_wp2_with fail
 go_ret
 exact⟨rfl,rfl⟩
theorem aH9 (t:ByteArray) (w:World):Calls Tryz.prog 219 #[.string t] w fun e w'=>e= .returned (.int .i64 (ab2 t))∧w=w':=by
 by_cases h0:t=⟨#[42,42]⟩
 ·subst h0;rw [show ab2 ⟨#[42,42]⟩=12 by decide+kernel];exact bR8 w
 by_cases h1:t=⟨#[42]⟩
 ·subst h1;rw [show ab2 ⟨#[42]⟩=11 by decide+kernel];exact bR9 w
 by_cases h2:t=⟨#[47]⟩
 ·subst h2;rw [show ab2 ⟨#[47]⟩=11 by decide+kernel];exact bS0 w
 by_cases h3:t=⟨#[37]⟩
 ·subst h3;rw [show ab2 ⟨#[37]⟩=11 by decide+kernel];exact bS1 w
 by_cases h4:t=⟨#[43]⟩
 ·subst h4;rw [show ab2 ⟨#[43]⟩=10 by decide+kernel];exact bS2 w
 by_cases h5:t=⟨#[45]⟩
 ·subst h5;rw [show ab2 ⟨#[45]⟩=10 by decide+kernel];exact bS3 w
 by_cases h6:t=⟨#[60,60]⟩
 ·subst h6;rw [show ab2 ⟨#[60,60]⟩=9 by decide+kernel];exact bS4 w
 by_cases h7:t=⟨#[62,62]⟩
 ·subst h7;rw [show ab2 ⟨#[62,62]⟩=9 by decide+kernel];exact bS5 w
 by_cases h8:t=⟨#[62,62,62]⟩
 ·subst h8;rw [show ab2 ⟨#[62,62,62]⟩=9 by decide+kernel];exact bS6 w
 by_cases h9:t=⟨#[60]⟩
 ·subst h9;rw [show ab2 ⟨#[60]⟩=8 by decide+kernel];exact bS7 w
 by_cases h10:t=⟨#[62]⟩
 ·subst h10;rw [show ab2 ⟨#[62]⟩=8 by decide+kernel];exact bF6 w
 by_cases h11:t=⟨#[60,61]⟩
 ·subst h11;rw [show ab2 ⟨#[60,61]⟩=8 by decide+kernel];exact bF7 w
 by_cases h12:t=⟨#[62,61]⟩
 ·subst h12;rw [show ab2 ⟨#[62,61]⟩=8 by decide+kernel];exact bF8 w
 by_cases h13:t=⟨#[105,110]⟩
 ·subst h13;rw [show ab2 ⟨#[105,110]⟩=8 by decide+kernel];exact bF9 w
 by_cases h14:t=⟨#[105,110,115,116,97,110,99,101,111,102]⟩
 ·subst h14;rw [show ab2 ⟨#[105,110,115,116,97,110,99,101,111,102]⟩=8 by decide+kernel];exact bG0 w
 by_cases h15:t=⟨#[61,61]⟩
 ·subst h15;rw [show ab2 ⟨#[61,61]⟩=7 by decide+kernel];exact bG1 w
 by_cases h16:t=⟨#[33,61]⟩
 ·subst h16;rw [show ab2 ⟨#[33,61]⟩=7 by decide+kernel];exact bG2 w
 by_cases h17:t=⟨#[61,61,61]⟩
 ·subst h17;rw [show ab2 ⟨#[61,61,61]⟩=7 by decide+kernel];exact bG3 w
 by_cases h18:t=⟨#[33,61,61]⟩
 ·subst h18;rw [show ab2 ⟨#[33,61,61]⟩=7 by decide+kernel];exact bG4 w
 by_cases h19:t=⟨#[38]⟩
 ·subst h19;rw [show ab2 ⟨#[38]⟩=6 by decide+kernel];exact bG5 w
 by_cases h20:t=⟨#[94]⟩
 ·subst h20;rw [show ab2 ⟨#[94]⟩=5 by decide+kernel];exact bG6 w
 by_cases h21:t=⟨#[124]⟩
 ·subst h21;rw [show ab2 ⟨#[124]⟩=4 by decide+kernel];exact bG7 w
 by_cases h22:t=⟨#[38,38]⟩
 ·subst h22;rw [show ab2 ⟨#[38,38]⟩=3 by decide+kernel];exact bG8 w
 by_cases h23:t=⟨#[124,124]⟩
 ·subst h23;rw [show ab2 ⟨#[124,124]⟩=2 by decide+kernel];exact bG9 w
 by_cases h24:t=⟨#[63,63]⟩
 ·subst h24;rw [show ab2 ⟨#[63,63]⟩=1 by decide+kernel];exact bH0 w
 rw [show ab2 t=0 by unfold ab2 ak5;simp [h0,h1,h2,h3,h4,h5,h6,h7,h8,h9,h10,h11,h12,h13,h14,h15,h16,h17,h18,h19,h20,h21,h22,h23,h24]]
 exact bH1 t w h0 h1 h2 h3 h4 h5 h6 h7 h8 h9 h10 h11 h12 h13 h14 h15 h16 h17 h18 h19 h20 h21 h22 h23 h24
theorem bm6 (m:Bool) (w:World):Calls Tryz.prog 149 #[.string ⟨#[98,114,101,97,107]⟩,.bool m] w fun e w'=>e= .returned (.bool true)∧w=w':=by
 go_enter Tryz.func149,Tryz.ntmps149
 go_wp2_with fail
 go_ret
 exact⟨rfl,rfl⟩
theorem bm7 (m:Bool) (w:World):Calls Tryz.prog 149 #[.string ⟨#[99,97,115,101]⟩,.bool m] w fun e w'=>e= .returned (.bool true)∧w=w':=by
 go_enter Tryz.func149,Tryz.ntmps149
 go_wp2_with fail
 go_ret
 exact⟨rfl,rfl⟩
theorem bm8 (m:Bool) (w:World):Calls Tryz.prog 149 #[.string ⟨#[99,97,116,99,104]⟩,.bool m] w fun e w'=>e= .returned (.bool true)∧w=w':=by
 go_enter Tryz.func149,Tryz.ntmps149
 go_wp2_with fail
 go_ret
 exact⟨rfl,rfl⟩
theorem bm9 (m:Bool) (w:World):Calls Tryz.prog 149 #[.string ⟨#[99,108,97,115,115]⟩,.bool m] w fun e w'=>e= .returned (.bool true)∧w=w':=by
 go_enter Tryz.func149,Tryz.ntmps149
 go_wp2_with fail
 go_ret
 exact⟨rfl,rfl⟩
theorem bn0 (m:Bool) (w:World):Calls Tryz.prog 149 #[.string ⟨#[99,111,110,115,116]⟩,.bool m] w fun e w'=>e= .returned (.bool true)∧w=w':=by
 go_enter Tryz.func149,Tryz.ntmps149
 go_wp2_with fail
 go_ret
 exact⟨rfl,rfl⟩
theorem bn2 (m:Bool) (w:World):Calls Tryz.prog 149 #[.string ⟨#[99,111,110,116,105,110,117,101]⟩,.bool m] w fun e w'=>e= .returned (.bool true)∧w=w':=by
 go_enter Tryz.func149,Tryz.ntmps149
 go_wp2_with fail
 go_ret
 exact⟨rfl,rfl⟩
theorem bn3 (m:Bool) (w:World):Calls Tryz.prog 149 #[.string ⟨#[100,101,98,117,103,103,101,114]⟩,.bool m] w fun e w'=>e= .returned (.bool true)∧w=w':=by
 go_enter Tryz.func149,Tryz.ntmps149
 go_wp2_with fail
 go_ret
 exact⟨rfl,rfl⟩
theorem bn4 (m:Bool) (w:World):Calls Tryz.prog 149 #[.string ⟨#[100,101,102,97,117,108,116]⟩,.bool m] w fun e w'=>e= .returned (.bool true)∧w=w':=by
 go_enter Tryz.func149,Tryz.ntmps149
 go_wp2_with fail
 go_ret
 exact⟨rfl,rfl⟩
theorem bn5 (m:Bool) (w:World):Calls Tryz.prog 149 #[.string ⟨#[100,101,108,101,116,101]⟩,.bool m] w fun e w'=>e= .returned (.bool true)∧w=w':=by
 go_enter Tryz.func149,Tryz.ntmps149
 go_wp2_with fail
 go_ret
 exact⟨rfl,rfl⟩
theorem bn6 (m:Bool) (w:World):Calls Tryz.prog 149 #[.string ⟨#[100,111]⟩,.bool m] w fun e w'=>e= .returned (.bool true)∧w=w':=by
 go_enter Tryz.func149,Tryz.ntmps149
 go_wp2_with fail
 go_ret
 exact⟨rfl,rfl⟩
theorem ba8 (m:Bool) (w:World):Calls Tryz.prog 149 #[.string ⟨#[101,108,115,101]⟩,.bool m] w fun e w'=>e= .returned (.bool true)∧w=w':=by
 go_enter Tryz.func149,Tryz.ntmps149
 go_wp2_with fail
 go_ret
 exact⟨rfl,rfl⟩
theorem ba9 (m:Bool) (w:World):Calls Tryz.prog 149 #[.string ⟨#[101,110,117,109]⟩,.bool m] w fun e w'=>e= .returned (.bool true)∧w=w':=by
 go_enter Tryz.func149,Tryz.ntmps149
 go_wp2_with fail
 go_ret
 exact⟨rfl,rfl⟩
theorem bb0 (m:Bool) (w:World):Calls Tryz.prog 149 #[.string ⟨#[101,120,112,111,114,116]⟩,.bool m] w fun e w'=>e= .returned (.bool true)∧w=w':=by
 go_enter Tryz.func149,Tryz.ntmps149
 go_wp2_with fail
 go_ret
 exact⟨rfl,rfl⟩
theorem bb1 (m:Bool) (w:World):Calls Tryz.prog 149 #[.string ⟨#[101,120,116,101,110,100,115]⟩,.bool m] w fun e w'=>e= .returned (.bool true)∧w=w':=by
 go_enter Tryz.func149,Tryz.ntmps149
 go_wp2_with fail
 go_ret
 exact⟨rfl,rfl⟩
theorem bb2 (m:Bool) (w:World):Calls Tryz.prog 149 #[.string ⟨#[102,97,108,115,101]⟩,.bool m] w fun e w'=>e= .returned (.bool true)∧w=w':=by
 go_enter Tryz.func149,Tryz.ntmps149
 go_wp2_with fail
 go_ret
 exact⟨rfl,rfl⟩
theorem bb3 (m:Bool) (w:World):Calls Tryz.prog 149 #[.string ⟨#[102,105,110,97,108,108,121]⟩,.bool m] w fun e w'=>e= .returned (.bool true)∧w=w':=by
 go_enter Tryz.func149,Tryz.ntmps149
 go_wp2_with fail
 go_ret
 exact⟨rfl,rfl⟩
theorem bb4 (m:Bool) (w:World):Calls Tryz.prog 149 #[.string ⟨#[102,111,114]⟩,.bool m] w fun e w'=>e= .returned (.bool true)∧w=w':=by
 go_enter Tryz.func149,Tryz.ntmps149
 go_wp2_with fail
 go_ret
 exact⟨rfl,rfl⟩
theorem bb5 (m:Bool) (w:World):Calls Tryz.prog 149 #[.string ⟨#[102,117,110,99,116,105,111,110]⟩,.bool m] w fun e w'=>e= .returned (.bool true)∧w=w':=by
 go_enter Tryz.func149,Tryz.ntmps149
 go_wp2_with fail
 go_ret
 exact⟨rfl,rfl⟩
theorem bb6 (m:Bool) (w:World):Calls Tryz.prog 149 #[.string ⟨#[105,102]⟩,.bool m] w fun e w'=>e= .returned (.bool true)∧w=w':=by
 go_enter Tryz.func149,Tryz.ntmps149
 go_wp2_with fail
 go_ret
 exact⟨rfl,rfl⟩
theorem bb7 (m:Bool) (w:World):Calls Tryz.prog 149 #[.string ⟨#[105,109,112,108,101,109,101,110,116,115]⟩,.bool m] w fun e w'=>e= .returned (.bool true)∧w=w':=by
 go_enter Tryz.func149,Tryz.ntmps149
 go_wp2_with fail
 go_ret
 exact⟨rfl,rfl⟩
theorem bb8 (m:Bool) (w:World):Calls Tryz.prog 149 #[.string ⟨#[105,109,112,111,114,116]⟩,.bool m] w fun e w'=>e= .returned (.bool true)∧w=w':=by
 go_enter Tryz.func149,Tryz.ntmps149
 go_wp2_with fail
 go_ret
 exact⟨rfl,rfl⟩
theorem bb9 (m:Bool) (w:World):Calls Tryz.prog 149 #[.string ⟨#[105,110]⟩,.bool m] w fun e w'=>e= .returned (.bool true)∧w=w':=by
 go_enter Tryz.func149,Tryz.ntmps149
 go_wp2_with fail
 go_ret
 exact⟨rfl,rfl⟩
theorem bc0 (m:Bool) (w:World):Calls Tryz.prog 149 #[.string ⟨#[105,110,115,116,97,110,99,101,111,102]⟩,.bool m] w fun e w'=>e= .returned (.bool true)∧w=w':=by
 go_enter Tryz.func149,Tryz.ntmps149
 go_wp2_with fail
 go_ret
 exact⟨rfl,rfl⟩
theorem bc1 (m:Bool) (w:World):Calls Tryz.prog 149 #[.string ⟨#[105,110,116,101,114,102,97,99,101]⟩,.bool m] w fun e w'=>e= .returned (.bool true)∧w=w':=by
 go_enter Tryz.func149,Tryz.ntmps149
 go_wp2_with fail
 go_ret
 exact⟨rfl,rfl⟩
theorem bc2 (m:Bool) (w:World):Calls Tryz.prog 149 #[.string ⟨#[108,101,116]⟩,.bool m] w fun e w'=>e= .returned (.bool true)∧w=w':=by
 go_enter Tryz.func149,Tryz.ntmps149
 go_wp2_with fail
 go_ret
 exact⟨rfl,rfl⟩
theorem bc3 (m:Bool) (w:World):Calls Tryz.prog 149 #[.string ⟨#[110,101,119]⟩,.bool m] w fun e w'=>e= .returned (.bool true)∧w=w':=by
 go_enter Tryz.func149,Tryz.ntmps149
 go_wp2_with fail
 go_ret
 exact⟨rfl,rfl⟩
theorem bc4 (m:Bool) (w:World):Calls Tryz.prog 149 #[.string ⟨#[110,117,108,108]⟩,.bool m] w fun e w'=>e= .returned (.bool true)∧w=w':=by
 go_enter Tryz.func149,Tryz.ntmps149
 go_wp2_with fail
 go_ret
 exact⟨rfl,rfl⟩
theorem bc5 (m:Bool) (w:World):Calls Tryz.prog 149 #[.string ⟨#[112,97,99,107,97,103,101]⟩,.bool m] w fun e w'=>e= .returned (.bool true)∧w=w':=by
 go_enter Tryz.func149,Tryz.ntmps149
 go_wp2_with fail
 go_ret
 exact⟨rfl,rfl⟩
theorem bc6 (m:Bool) (w:World):Calls Tryz.prog 149 #[.string ⟨#[112,114,105,118,97,116,101]⟩,.bool m] w fun e w'=>e= .returned (.bool true)∧w=w':=by
 go_enter Tryz.func149,Tryz.ntmps149
 go_wp2_with fail
 go_ret
 exact⟨rfl,rfl⟩
theorem bc7 (m:Bool) (w:World):Calls Tryz.prog 149 #[.string ⟨#[112,114,111,116,101,99,116,101,100]⟩,.bool m] w fun e w'=>e= .returned (.bool true)∧w=w':=by
 go_enter Tryz.func149,Tryz.ntmps149
 go_wp2_with fail
 go_ret
 exact⟨rfl,rfl⟩
theorem bc8 (m:Bool) (w:World):Calls Tryz.prog 149 #[.string ⟨#[112,117,98,108,105,99]⟩,.bool m] w fun e w'=>e= .returned (.bool true)∧w=w':=by
 go_enter Tryz.func149,Tryz.ntmps149
 go_wp2_with fail
 go_ret
 exact⟨rfl,rfl⟩
theorem bc9 (m:Bool) (w:World):Calls Tryz.prog 149 #[.string ⟨#[114,101,116,117,114,110]⟩,.bool m] w fun e w'=>e= .returned (.bool true)∧w=w':=by
 go_enter Tryz.func149,Tryz.ntmps149
 go_wp2_with fail
 go_ret
 exact⟨rfl,rfl⟩
theorem bd0 (m:Bool) (w:World):Calls Tryz.prog 149 #[.string ⟨#[115,116,97,116,105,99]⟩,.bool m] w fun e w'=>e= .returned (.bool true)∧w=w':=by
 go_enter Tryz.func149,Tryz.ntmps149
 go_wp2_with fail
 go_ret
 exact⟨rfl,rfl⟩
theorem bd1 (m:Bool) (w:World):Calls Tryz.prog 149 #[.string ⟨#[115,117,112,101,114]⟩,.bool m] w fun e w'=>e= .returned (.bool true)∧w=w':=by
 go_enter Tryz.func149,Tryz.ntmps149
 go_wp2_with fail
 go_ret
 exact⟨rfl,rfl⟩
theorem bd2 (m:Bool) (w:World):Calls Tryz.prog 149 #[.string ⟨#[115,119,105,116,99,104]⟩,.bool m] w fun e w'=>e= .returned (.bool true)∧w=w':=by
 go_enter Tryz.func149,Tryz.ntmps149
 go_wp2_with fail
 go_ret
 exact⟨rfl,rfl⟩
theorem bd3 (m:Bool) (w:World):Calls Tryz.prog 149 #[.string ⟨#[116,104,105,115]⟩,.bool m] w fun e w'=>e= .returned (.bool true)∧w=w':=by
 go_enter Tryz.func149,Tryz.ntmps149
 go_wp2_with fail
 go_ret
 exact⟨rfl,rfl⟩
theorem bd4 (m:Bool) (w:World):Calls Tryz.prog 149 #[.string ⟨#[116,104,114,111,119]⟩,.bool m] w fun e w'=>e= .returned (.bool true)∧w=w':=by
 go_enter Tryz.func149,Tryz.ntmps149
 go_wp2_with fail
 go_ret
 exact⟨rfl,rfl⟩
theorem bd5 (m:Bool) (w:World):Calls Tryz.prog 149 #[.string ⟨#[116,114,117,101]⟩,.bool m] w fun e w'=>e= .returned (.bool true)∧w=w':=by
 go_enter Tryz.func149,Tryz.ntmps149
 go_wp2_with fail
 go_ret
 exact⟨rfl,rfl⟩
theorem bd6 (m:Bool) (w:World):Calls Tryz.prog 149 #[.string ⟨#[116,114,121]⟩,.bool m] w fun e w'=>e= .returned (.bool true)∧w=w':=by
 go_enter Tryz.func149,Tryz.ntmps149
 go_wp2_with fail
 go_ret
 exact⟨rfl,rfl⟩
theorem bd7 (m:Bool) (w:World):Calls Tryz.prog 149 #[.string ⟨#[116,121,112,101,111,102]⟩,.bool m] w fun e w'=>e= .returned (.bool true)∧w=w':=by
 go_enter Tryz.func149,Tryz.ntmps149
 go_wp2_with fail
 go_ret
 exact⟨rfl,rfl⟩
theorem bd8 (m:Bool) (w:World):Calls Tryz.prog 149 #[.string ⟨#[118,97,114]⟩,.bool m] w fun e w'=>e= .returned (.bool true)∧w=w':=by
 go_enter Tryz.func149,Tryz.ntmps149
 go_wp2_with fail
 go_ret
 exact⟨rfl,rfl⟩
theorem bd9 (m:Bool) (w:World):Calls Tryz.prog 149 #[.string ⟨#[118,111,105,100]⟩,.bool m] w fun e w'=>e= .returned (.bool true)∧w=w':=by
 go_enter Tryz.func149,Tryz.ntmps149
 go_wp2_with fail
 go_ret
 exact⟨rfl,rfl⟩
theorem be0 (m:Bool) (w:World):Calls Tryz.prog 149 #[.string ⟨#[119,104,105,108,101]⟩,.bool m] w fun e w'=>e= .returned (.bool true)∧w=w':=by
 go_enter Tryz.func149,Tryz.ntmps149
 go_wp2_with fail
 go_ret
 exact⟨rfl,rfl⟩
theorem be1 (m:Bool) (w:World):Calls Tryz.prog 149 #[.string ⟨#[119,105,116,104]⟩,.bool m] w fun e w'=>e= .returned (.bool true)∧w=w':=by
 go_enter Tryz.func149,Tryz.ntmps149
 go_wp2_with fail
 go_ret
 exact⟨rfl,rfl⟩
theorem be2 (m:Bool) (w:World):Calls Tryz.prog 149 #[.string ⟨#[121,105,101,108,100]⟩,.bool m] w fun e w'=>e= .returned (.bool true)∧w=w':=by
 go_enter Tryz.func149,Tryz.ntmps149
 go_wp2_with fail
 go_ret
 exact⟨rfl,rfl⟩
theorem be3 (m:Bool) (w:World):Calls Tryz.prog 149 #[.string ⟨#[97,119,97,105,116]⟩,.bool m] w fun e w'=>e= .returned (.bool m)∧w=w':=by
 go_enter Tryz.func149,Tryz.ntmps149
 go_wp2_with fail
 go_ret
 exact⟨rfl,rfl⟩
theorem be4 (t:ByteArray) (m:Bool) (w:World) (h0:t≠⟨#[97,119,97,105,116]⟩) (h1:t≠⟨#[98,114,101,97,107]⟩) (h2:t≠⟨#[99,97,115,101]⟩) (h3:t≠⟨#[99,97,116,99,104]⟩) (h4:t≠⟨#[99,108,97,115,115]⟩) (h5:t≠⟨#[99,111,110,115,116]⟩) (h6:t≠⟨#[99,111,110,116,105,110,117,101]⟩) (h7:t≠⟨#[100,101,98,117,103,103,101,114]⟩) (h8:t≠⟨#[100,101,102,97,117,108,116]⟩) (h9:t≠⟨#[100,101,108,101,116,101]⟩) (h10:t≠⟨#[100,111]⟩) (h11:t≠⟨#[101,108,115,101]⟩) (h12:t≠⟨#[101,110,117,109]⟩) (h13:t≠⟨#[101,120,112,111,114,116]⟩) (h14:t≠⟨#[101,120,116,101,110,100,115]⟩) (h15:t≠⟨#[102,97,108,115,101]⟩) (h16:t≠⟨#[102,105,110,97,108,108,121]⟩) (h17:t≠⟨#[102,111,114]⟩) (h18:t≠⟨#[102,117,110,99,116,105,111,110]⟩) (h19:t≠⟨#[105,102]⟩) (h20:t≠⟨#[105,109,112,108,101,109,101,110,116,115]⟩) (h21:t≠⟨#[105,109,112,111,114,116]⟩) (h22:t≠⟨#[105,110]⟩) (h23:t≠⟨#[105,110,115,116,97,110,99,101,111,102]⟩) (h24:t≠⟨#[105,110,116,101,114,102,97,99,101]⟩) (h25:t≠⟨#[108,101,116]⟩) (h26:t≠⟨#[110,101,119]⟩) (h27:t≠⟨#[110,117,108,108]⟩) (h28:t≠⟨#[112,97,99,107,97,103,101]⟩) (h29:t≠⟨#[112,114,105,118,97,116,101]⟩) (h30:t≠⟨#[112,114,111,116,101,99,116,101,100]⟩) (h31:t≠⟨#[112,117,98,108,105,99]⟩) (h32:t≠⟨#[114,101,116,117,114,110]⟩) (h33:t≠⟨#[115,116,97,116,105,99]⟩) (h34:t≠⟨#[115,117,112,101,114]⟩) (h35:t≠⟨#[115,119,105,116,99,104]⟩) (h36:t≠⟨#[116,104,105,115]⟩) (h37:t≠⟨#[116,104,114,111,119]⟩) (h38:t≠⟨#[116,114,117,101]⟩) (h39:t≠⟨#[116,114,121]⟩) (h40:t≠⟨#[116,121,112,101,111,102]⟩) (h41:t≠⟨#[118,97,114]⟩) (h42:t≠⟨#[118,111,105,100]⟩) (h43:t≠⟨#[119,104,105,108,101]⟩) (h44:t≠⟨#[119,105,116,104]⟩) (h45:t≠⟨#[121,105,101,108,100]⟩):Calls Tryz.prog 149 #[.string t,.bool m] w fun e w'=>e= .returned (.bool false)∧w=w':=by
 have e0:=ab8 (l:= [97,119,97,105,116]) h0
 clear h0
 have e1:=ab8 (l:= [98,114,101,97,107]) h1
 clear h1
 have e2:=ab8 (l:= [99,97,115,101]) h2
 clear h2
 have e3:=ab8 (l:= [99,97,116,99,104]) h3
 clear h3
 have e4:=ab8 (l:= [99,108,97,115,115]) h4
 clear h4
 have e5:=ab8 (l:= [99,111,110,115,116]) h5
 clear h5
 have e6:=ab8 (l:= [99,111,110,116,105,110,117,101]) h6
 clear h6
 have e7:=ab8 (l:= [100,101,98,117,103,103,101,114]) h7
 clear h7
 have e8:=ab8 (l:= [100,101,102,97,117,108,116]) h8
 clear h8
 have e9:=ab8 (l:= [100,101,108,101,116,101]) h9
 clear h9
 have e10:=ab8 (l:= [100,111]) h10
 clear h10
 have e11:=ab8 (l:= [101,108,115,101]) h11
 clear h11
 have e12:=ab8 (l:= [101,110,117,109]) h12
 clear h12
 have e13:=ab8 (l:= [101,120,112,111,114,116]) h13
 clear h13
 have e14:=ab8 (l:= [101,120,116,101,110,100,115]) h14
 clear h14
 have e15:=ab8 (l:= [102,97,108,115,101]) h15
 clear h15
 have e16:=ab8 (l:= [102,105,110,97,108,108,121]) h16
 clear h16
 have e17:=ab8 (l:= [102,111,114]) h17
 clear h17
 have e18:=ab8 (l:= [102,117,110,99,116,105,111,110]) h18
 clear h18
 have e19:=ab8 (l:= [105,102]) h19
 clear h19
 have e20:=ab8 (l:= [105,109,112,108,101,109,101,110,116,115]) h20
 clear h20
 have e21:=ab8 (l:= [105,109,112,111,114,116]) h21
 clear h21
 have e22:=ab8 (l:= [105,110]) h22
 clear h22
 have e23:=ab8 (l:= [105,110,115,116,97,110,99,101,111,102]) h23
 clear h23
 have e24:=ab8 (l:= [105,110,116,101,114,102,97,99,101]) h24
 clear h24
 have e25:=ab8 (l:= [108,101,116]) h25
 clear h25
 have e26:=ab8 (l:= [110,101,119]) h26
 clear h26
 have e27:=ab8 (l:= [110,117,108,108]) h27
 clear h27
 have e28:=ab8 (l:= [112,97,99,107,97,103,101]) h28
 clear h28
 have e29:=ab8 (l:= [112,114,105,118,97,116,101]) h29
 clear h29
 have e30:=ab8 (l:= [112,114,111,116,101,99,116,101,100]) h30
 clear h30
 have e31:=ab8 (l:= [112,117,98,108,105,99]) h31
 clear h31
 have e32:=ab8 (l:= [114,101,116,117,114,110]) h32
 clear h32
 have e33:=ab8 (l:= [115,116,97,116,105,99]) h33
 clear h33
 have e34:=ab8 (l:= [115,117,112,101,114]) h34
 clear h34
 have e35:=ab8 (l:= [115,119,105,116,99,104]) h35
 clear h35
 have e36:=ab8 (l:= [116,104,105,115]) h36
 clear h36
 have e37:=ab8 (l:= [116,104,114,111,119]) h37
 clear h37
 have e38:=ab8 (l:= [116,114,117,101]) h38
 clear h38
 have e39:=ab8 (l:= [116,114,121]) h39
 clear h39
 have e40:=ab8 (l:= [116,121,112,101,111,102]) h40
 clear h40
 have e41:=ab8 (l:= [118,97,114]) h41
 clear h41
 have e42:=ab8 (l:= [118,111,105,100]) h42
 clear h42
 have e43:=ab8 (l:= [119,104,105,108,101]) h43
 clear h43
 have e44:=ab8 (l:= [119,105,116,104]) h44
 clear h44
 have e45:=ab8 (l:= [121,105,101,108,100]) h45
 clear h45
 go_enter Tryz.func149,Tryz.ntmps149
 go_wp2_with fail
 go_ret
 exact⟨rfl,rfl⟩
theorem aV9 (t:ByteArray) (m:Bool) (w:World):Calls Tryz.prog 149 #[.string t,.bool m] w fun e w'=>e= .returned (.bool (aa2 t m))∧w=w':=by
 by_cases h0:t=⟨#[97,119,97,105,116]⟩
 ·subst h0;rw [show aa2 ⟨#[97,119,97,105,116]⟩ m=m by unfold aa2;rw [if_pos rfl]];exact be3 m w
 by_cases h1:t=⟨#[98,114,101,97,107]⟩
 ·subst h1;rw [show aa2 ⟨#[98,114,101,97,107]⟩ m=true by cases m<;>decide+kernel];exact bm6 m w
 by_cases h2:t=⟨#[99,97,115,101]⟩
 ·subst h2;rw [show aa2 ⟨#[99,97,115,101]⟩ m=true by cases m<;>decide+kernel];exact bm7 m w
 by_cases h3:t=⟨#[99,97,116,99,104]⟩
 ·subst h3;rw [show aa2 ⟨#[99,97,116,99,104]⟩ m=true by cases m<;>decide+kernel];exact bm8 m w
 by_cases h4:t=⟨#[99,108,97,115,115]⟩
 ·subst h4;rw [show aa2 ⟨#[99,108,97,115,115]⟩ m=true by cases m<;>decide+kernel];exact bm9 m w
 by_cases h5:t=⟨#[99,111,110,115,116]⟩
 ·subst h5;rw [show aa2 ⟨#[99,111,110,115,116]⟩ m=true by cases m<;>decide+kernel];exact bn0 m w
 by_cases h6:t=⟨#[99,111,110,116,105,110,117,101]⟩
 ·subst h6;rw [show aa2 ⟨#[99,111,110,116,105,110,117,101]⟩ m=true by cases m<;>decide+kernel];exact bn2 m w
 by_cases h7:t=⟨#[100,101,98,117,103,103,101,114]⟩
 ·subst h7;rw [show aa2 ⟨#[100,101,98,117,103,103,101,114]⟩ m=true by cases m<;>decide+kernel];exact bn3 m w
 by_cases h8:t=⟨#[100,101,102,97,117,108,116]⟩
 ·subst h8;rw [show aa2 ⟨#[100,101,102,97,117,108,116]⟩ m=true by cases m<;>decide+kernel];exact bn4 m w
 by_cases h9:t=⟨#[100,101,108,101,116,101]⟩
 ·subst h9;rw [show aa2 ⟨#[100,101,108,101,116,101]⟩ m=true by cases m<;>decide+kernel];exact bn5 m w
 by_cases h10:t=⟨#[100,111]⟩
 ·subst h10;rw [show aa2 ⟨#[100,111]⟩ m=true by cases m<;>decide+kernel];exact bn6 m w
 by_cases h11:t=⟨#[101,108,115,101]⟩
 ·subst h11;rw [show aa2 ⟨#[101,108,115,101]⟩ m=true by cases m<;>decide+kernel];exact ba8 m w
 by_cases h12:t=⟨#[101,110,117,109]⟩
 ·subst h12;rw [show aa2 ⟨#[101,110,117,109]⟩ m=true by cases m<;>decide+kernel];exact ba9 m w
 by_cases h13:t=⟨#[101,120,112,111,114,116]⟩
 ·subst h13;rw [show aa2 ⟨#[101,120,112,111,114,116]⟩ m=true by cases m<;>decide+kernel];exact bb0 m w
 by_cases h14:t=⟨#[101,120,116,101,110,100,115]⟩
 ·subst h14;rw [show aa2 ⟨#[101,120,116,101,110,100,115]⟩ m=true by cases m<;>decide+kernel];exact bb1 m w
 by_cases h15:t=⟨#[102,97,108,115,101]⟩
 ·subst h15;rw [show aa2 ⟨#[102,97,108,115,101]⟩ m=true by cases m<;>decide+kernel];exact bb2 m w
 by_cases h16:t=⟨#[102,105,110,97,108,108,121]⟩
 ·subst h16;rw [show aa2 ⟨#[102,105,110,97,108,108,121]⟩ m=true by cases m<;>decide+kernel];exact bb3 m w
 by_cases h17:t=⟨#[102,111,114]⟩
 ·subst h17;rw [show aa2 ⟨#[102,111,114]⟩ m=true by cases m<;>decide+kernel];exact bb4 m w
 by_cases h18:t=⟨#[102,117,110,99,116,105,111,110]⟩
 ·subst h18;rw [show aa2 ⟨#[102,117,110,99,116,105,111,110]⟩ m=true by cases m<;>decide+kernel];exact bb5 m w
 by_cases h19:t=⟨#[105,102]⟩
 ·subst h19;rw [show aa2 ⟨#[105,102]⟩ m=true by cases m<;>decide+kernel];exact bb6 m w
 by_cases h20:t=⟨#[105,109,112,108,101,109,101,110,116,115]⟩
 ·subst h20;rw [show aa2 ⟨#[105,109,112,108,101,109,101,110,116,115]⟩ m=true by cases m<;>decide+kernel];exact bb7 m w
 by_cases h21:t=⟨#[105,109,112,111,114,116]⟩
 ·subst h21;rw [show aa2 ⟨#[105,109,112,111,114,116]⟩ m=true by cases m<;>decide+kernel];exact bb8 m w
 by_cases h22:t=⟨#[105,110]⟩
 ·subst h22;rw [show aa2 ⟨#[105,110]⟩ m=true by cases m<;>decide+kernel];exact bb9 m w
 by_cases h23:t=⟨#[105,110,115,116,97,110,99,101,111,102]⟩
 ·subst h23;rw [show aa2 ⟨#[105,110,115,116,97,110,99,101,111,102]⟩ m=true by cases m<;>decide+kernel];exact bc0 m w
 by_cases h24:t=⟨#[105,110,116,101,114,102,97,99,101]⟩
 ·subst h24;rw [show aa2 ⟨#[105,110,116,101,114,102,97,99,101]⟩ m=true by cases m<;>decide+kernel];exact bc1 m w
 by_cases h25:t=⟨#[108,101,116]⟩
 ·subst h25;rw [show aa2 ⟨#[108,101,116]⟩ m=true by cases m<;>decide+kernel];exact bc2 m w
 by_cases h26:t=⟨#[110,101,119]⟩
 ·subst h26;rw [show aa2 ⟨#[110,101,119]⟩ m=true by cases m<;>decide+kernel];exact bc3 m w
 by_cases h27:t=⟨#[110,117,108,108]⟩
 ·subst h27;rw [show aa2 ⟨#[110,117,108,108]⟩ m=true by cases m<;>decide+kernel];exact bc4 m w
 by_cases h28:t=⟨#[112,97,99,107,97,103,101]⟩
 ·subst h28;rw [show aa2 ⟨#[112,97,99,107,97,103,101]⟩ m=true by cases m<;>decide+kernel];exact bc5 m w
 by_cases h29:t=⟨#[112,114,105,118,97,116,101]⟩
 ·subst h29;rw [show aa2 ⟨#[112,114,105,118,97,116,101]⟩ m=true by cases m<;>decide+kernel];exact bc6 m w
 by_cases h30:t=⟨#[112,114,111,116,101,99,116,101,100]⟩
 ·subst h30;rw [show aa2 ⟨#[112,114,111,116,101,99,116,101,100]⟩ m=true by cases m<;>decide+kernel];exact bc7 m w
 by_cases h31:t=⟨#[112,117,98,108,105,99]⟩
 ·subst h31;rw [show aa2 ⟨#[112,117,98,108,105,99]⟩ m=true by cases m<;>decide+kernel];exact bc8 m w
 by_cases h32:t=⟨#[114,101,116,117,114,110]⟩
 ·subst h32;rw [show aa2 ⟨#[114,101,116,117,114,110]⟩ m=true by cases m<;>decide+kernel];exact bc9 m w
 by_cases h33:t=⟨#[115,116,97,116,105,99]⟩
 ·subst h33;rw [show aa2 ⟨#[115,116,97,116,105,99]⟩ m=true by cases m<;>decide+kernel];exact bd0 m w
 by_cases h34:t=⟨#[115,117,112,101,114]⟩
 ·subst h34;rw [show aa2 ⟨#[115,117,112,101,114]⟩ m=true by cases m<;>decide+kernel];exact bd1 m w
 by_cases h35:t=⟨#[115,119,105,116,99,104]⟩
 ·subst h35;rw [show aa2 ⟨#[115,119,105,116,99,104]⟩ m=true by cases m<;>decide+kernel];exact bd2 m w
 by_cases h36:t=⟨#[116,104,105,115]⟩
 ·subst h36;rw [show aa2 ⟨#[116,104,105,115]⟩ m=true by cases m<;>decide+kernel];exact bd3 m w
 by_cases h37:t=⟨#[116,104,114,111,119]⟩
 ·subst h37;rw [show aa2 ⟨#[116,104,114,111,119]⟩ m=true by cases m<;>decide+kernel];exact bd4 m w
 by_cases h38:t=⟨#[116,114,117,101]⟩
 ·subst h38;rw [show aa2 ⟨#[116,114,117,101]⟩ m=true by cases m<;>decide+kernel];exact bd5 m w
 by_cases h39:t=⟨#[116,114,121]⟩
 ·subst h39;rw [show aa2 ⟨#[116,114,121]⟩ m=true by cases m<;>decide+kernel];exact bd6 m w
 by_cases h40:t=⟨#[116,121,112,101,111,102]⟩
 ·subst h40;rw [show aa2 ⟨#[116,121,112,101,111,102]⟩ m=true by cases m<;>decide+kernel];exact bd7 m w
 by_cases h41:t=⟨#[118,97,114]⟩
 ·subst h41;rw [show aa2 ⟨#[118,97,114]⟩ m=true by cases m<;>decide+kernel];exact bd8 m w
 by_cases h42:t=⟨#[118,111,105,100]⟩
 ·subst h42;rw [show aa2 ⟨#[118,111,105,100]⟩ m=true by cases m<;>decide+kernel];exact bd9 m w
 by_cases h43:t=⟨#[119,104,105,108,101]⟩
 ·subst h43;rw [show aa2 ⟨#[119,104,105,108,101]⟩ m=true by cases m<;>decide+kernel];exact be0 m w
 by_cases h44:t=⟨#[119,105,116,104]⟩
 ·subst h44;rw [show aa2 ⟨#[119,105,116,104]⟩ m=true by cases m<;>decide+kernel];exact be1 m w
 by_cases h45:t=⟨#[121,105,101,108,100]⟩
 ·subst h45;rw [show aa2 ⟨#[121,105,101,108,100]⟩ m=true by cases m<;>decide+kernel];exact be2 m w
 rw [show aa2 t m=false by unfold aa2 ak5 resW;simp [h0,h1,h2,h3,h4,h5,h6,h7,h8,h9,h10,h11,h12,h13,h14,h15,h16,h17,h18,h19,h20,h21,h22,h23,h24,h25,h26,h27,h28,h29,h30,h31,h32,h33,h34,h35,h36,h37,h38,h39,h40,h41,h42,h43,h44,h45]]
 exact be4 t m w h0 h1 h2 h3 h4 h5 h6 h7 h8 h9 h10 h11 h12 h13 h14 h15 h16 h17 h18 h19 h20 h21 h22 h23 h24 h25 h26 h27 h28 h29 h30 h31 h32 h33 h34 h35 h36 h37 h38 h39 h40 h41 h42 h43 h44 h45
end
end Go.Proofs.YtnobjeelihkjmaaGreatDoor
