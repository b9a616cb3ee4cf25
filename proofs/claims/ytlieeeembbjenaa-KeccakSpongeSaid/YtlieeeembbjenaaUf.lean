/- A part of the proof. -/
import Derived.Test.YtlieeeembbjenaaUe
set_option linter.all false
namespace Go.Lv
open Go Go.Proofs
set_option linter.unusedSimpArgs false
set_option maxRecDepth 100000

def kx0 : La := [0x6, 0x0, 0x0, 0x0, 0x0, 0x0, 0x0, 0x0, 0x0, 0x0, 0x0, 0x0, 0x0, 0x0, 0x0, 0x0, 0x8000000000000000, 0x0, 0x0, 0x0, 0x0, 0x0, 0x0, 0x0, 0x0]
theorem kxp0 : permF kcon kx0 0 = kx0 := rfl
def kx1 : La := [0x40000000006, 0x600000000000, 0x40000030000, 0x7, 0x600000030000, 0x8, 0xd00000c00000, 0x1000000000000008, 0xd00000000000, 0x1000000000c00000, 0xc, 0xc20, 0x40000, 0xc0c, 0x40020, 0x60001800, 0x1000004000, 0x1800, 0x60004000, 0x1000000000, 0x2000060000000000, 0x0, 0x60000000018, 0x2000020000000000, 0x18]
theorem kxs0 : rndS kx0 (kcon.getD 0 0) = kx1 := by decide +kernel
theorem kxp1 : permF kcon kx0 1 = kx1 := by rw [permF, kxp0]; exact kxs0
def kx2 : La := [0x1420963001c798fe, 0xa28e212b09660614, 0x1721ba001ba15e06, 0x440d351b0c440066, 0xd70208001325de00, 0x801890067908cf82, 0x2d0e4c07c0350c0c, 0x800823c21224d124, 0xcd1cd18463c20823, 0xa8022e4398ef1a88, 0x4002de08085c5044, 0x9104b0302901f4, 0x58031736b9e0c180, 0xd6d8a080601f20, 0x1885052e51c1cf94, 0x5001b6043800db0, 0x9e79e761461b2300, 0x6008010038908118, 0x8f087b403d1b24a0, 0x706984c120118b18, 0x922653b4305bf55d, 0xbd18e0091200a40e, 0x23e1fb180538058, 0x1f00b424320035c7, 0x201818088038a008]
theorem kxs1 : rndS kx1 (kcon.getD 1 0) = kx2 := by decide +kernel
theorem kxp2 : permF kcon kx0 2 = kx2 := by rw [permF, kxp1]; exact kxs1
def kx3 : La := [0x333ec040611fa335, 0x1771ca42b4c66c33, 0xe80af6af70dbaee2, 0xc0ac1b4d4a4f3fb6, 0xb660da9788a873fb, 0x5f3a62f88d878d81, 0x4c85f8fcb8035dcd, 0x6b2dc03d10f24c7d, 0xc46250ea0a86a723, 0x537fbaf86f997259, 0x754626b626c4ca61, 0x7cecaa99e7a6c007, 0x1a590408b785026f, 0xaf456ed279f6b8ee, 0x4f4c82a2bb43c44e, 0x3fea493d47473696, 0x9abfcebbf0b74b24, 0xeb8f15d29c87106e, 0x8683a221c2fe7b37, 0xbdc8d1d99946e21b, 0x302b86d064eef760, 0xece7140b44df9a07, 0xc60e1f63b9ead0e3, 0xe06a7ec4f53efd46, 0x5c7131ab00121079]
theorem kxs2 : rndS kx2 (kcon.getD 2 0) = kx3 := by decide +kernel
theorem kxp3 : permF kcon kx0 3 = kx3 := by rw [permF, kxp2]; exact kxs2
def kx4 : La := [0xd2204351fba621a7, 0x27031b5f86648b57, 0x9a3d378f90a4b5af, 0x66b70ef68af62519, 0x567e276f7b1d6545, 0x3228263f709cb021, 0x4e61bc49f15b2cbd, 0x614568786ee7e2d9, 0x17d39ebd3eb9dff8, 0xc9627d1a1e20d619, 0xd41b76866f72c3d1, 0x8aa16a94c18e2ff0, 0xd0286d51b79fca7, 0x7ca60ec1230e458f, 0x2f007f6a85e3492c, 0x6ade8f9b8210da6, 0x7b4df3abdd4ed69e, 0x6385b7ed461a5fbc, 0x521e438594609401, 0x4e915241d583e1ab, 0x42e7d0870ccd8a88, 0xe5f2fc1edeb005bc, 0x2b7ca707b654ddb5, 0xee0218af0d9558f9, 0x6f789acdf193fa0a]
theorem kxs3 : rndS kx3 (kcon.getD 3 0) = kx4 := by decide +kernel
theorem kxp4 : permF kcon kx0 4 = kx4 := by rw [permF, kxp3]; exact kxs3
def kx5 : La := [0x392caa215bcff387, 0x77e75512314412f1, 0xf015d60e1eff149f, 0x946d390b9a7d9ec8, 0x4093038928db0734, 0x91f11ef027b9d2c0, 0xfb6919d097b8948e, 0xfc0dcada0b9eeb91, 0xdb4a8ef245442521, 0x6ebdbcced38e6c1a, 0x48cccabdb190171e, 0x418843d1a62ff018, 0x5d51cd5ae947bc98, 0xedd189faf668d70f, 0x44ee8b3774a307af, 0xda7070b009897ad, 0xeccb4d156314e09d, 0x7f7842ef0aa5a20f, 0x63c972fff9fc3faf, 0x623b120ed2d514a2, 0xaf373f871806116b, 0x2171570668512032, 0xf49341fa686f6c6, 0xe3ba01474f02c800, 0xe2715022b2a325c3]
theorem kxs4 : rndS kx4 (kcon.getD 4 0) = kx5 := by decide +kernel
theorem kxp5 : permF kcon kx0 5 = kx5 := by rw [permF, kxp4]; exact kxs4
def kx6 : La := [0x839af63b0963e336, 0xa6a23081d53e5e2f, 0xf1f6300a2bd46fb4, 0x75c60932e6303625, 0x8436287f67f11d75, 0xd1e711276f213f7c, 0xd4d659c46dc932f, 0x19fcd5425ba1f766, 0x8fd79db70ca133e0, 0x83579b4512956e50, 0xff0c6aacaa4c10a0, 0xead10f4f5c1676af, 0x79df58ff26327994, 0xdcd24cf783eedd65, 0x8fbe83efd1fff15b, 0x98cd3ba24ab0631d, 0xf70e2335a03632ad, 0x793cf705f578e707, 0x66a436960e123d7c, 0xff15d64f20c40fa4, 0x4d00ba0f6e8d2311, 0xde9680ee90f72994, 0x7afea851e0adf6ac, 0x22739daa0b7aac1, 0x16927d08e4eef888]
theorem kxs5 : rndS kx5 (kcon.getD 5 0) = kx6 := by decide +kernel
theorem kxp6 : permF kcon kx0 6 = kx6 := by rw [permF, kxp5]; exact kxs5
def kx7 : La := [0xa3975e1817815fe8, 0xcfe13d5dcc42f2d4, 0x1ebba43fc9687397, 0x793d1e6ef28f565c, 0x20e35dd183d249fe, 0x6e8403aee6f62dcd, 0x47325691915fdff1, 0x68c13beda6b126f2, 0x4ff61571fd0fdd2b, 0x12db6ff5ba049b30, 0xf461e2b16558ef27, 0x7bf9efbbe87366f1, 0x2220bcc65dbe6921, 0x995978965919776c, 0x48bbcc56d59de4cf, 0xd388229521f037ab, 0xcfd03216f3b61a6b, 0x31851cc114c4fe9, 0x83f8a0edcc4dfa86, 0x846211ce0325cff4, 0x26641ce5d5f50125, 0x43bae588c72a1c, 0x2942e5980c276565, 0xd3ce9f79b0f603e8, 0xd89e84d7d7873a36]
theorem kxs6 : rndS kx6 (kcon.getD 6 0) = kx7 := by decide +kernel
theorem kxp7 : permF kcon kx0 7 = kx7 := by rw [permF, kxp6]; exact kxs6
def kx8 : La := [0x54db247eb3176f6d, 0xd2aec73baf824a36, 0xf84a423e8b43493e, 0x2360724fd85660b0, 0xf38ddc7c5696af13, 0xc1c58cf32c84acea, 0x90ef7e5d66476482, 0x7734869a0c3d5f10, 0x910fffb8d78c0cca, 0xad766d28438cc285, 0xfef92c55a1a2e9c1, 0x377be4ee281d7e2a, 0xf4dccc1572b77, 0xbfbf1cbc72fd90f2, 0xba1f1402cc94e38f, 0x8a4d0b84953371b0, 0x40a9d00180c75c94, 0x9d41030d672dbcaf, 0xf3b54d8b8f41307d, 0x86f1a4dde76a25d6, 0x3213ddb554ccd22e, 0x38ba882279714526, 0x742b51d5c017429f, 0x7a04d5390ea9afbd, 0xc3dc5440f8c79800]
theorem kxs7 : rndS kx7 (kcon.getD 7 0) = kx8 := by decide +kernel
theorem kxp8 : permF kcon kx0 8 = kx8 := by rw [permF, kxp7]; exact kxs7
def kx9 : La := [0xf6462aea67a86e75, 0x66208a66889f1338, 0x7724ec4a48d89935, 0xb4dc029094ba414f, 0xfea23ef1622b6933, 0xa043ae44f84c9084, 0xd044444f63d9d359, 0x2f1b9653bae68ab2, 0x4b33ffe0a6f337a7, 0x5e1c095aa3bc9ffc, 0x9a5b05272cd6cef8, 0x77e4973f43352878, 0x3a9d5861cf966cdb, 0x7048b2c61845a7fc, 0x2906b8559dc60726, 0xe2ab2eff06847380, 0xad1a94ffade46ab9, 0x955094d6d7a630a9, 0xba0ae134d90d4fd5, 0x4e4f5ca5bf0af866, 0x1e69ed119aace183, 0x6fa0764e77f4e54, 0xe7180bc4941d1c57, 0xfa880f732426e3c7, 0x9cc3b4ef573024e4]
theorem kxs8 : rndS kx8 (kcon.getD 8 0) = kx9 := by decide +kernel
theorem kxp9 : permF kcon kx0 9 = kx9 := by rw [permF, kxp8]; exact kxs8
def kx10 : La := [0xfb23da203612ee6f, 0x3949951897ec4a0c, 0x2d510f5b5d470bc, 0x3f7a314dc421c352, 0xa034139846b08dbf, 0x1102e083302534c1, 0xc6dae9627a670c11, 0x6f77bc17e175b3dc, 0x35ff7308d5a90dd3, 0x4367a3d15dd6547, 0xeccb65aab6c6a9ed, 0x9c67555f986f7296, 0xa69f251455af9791, 0xd279db94bb855c6c, 0x7eff260c542b5462, 0x57c5f8810e15e9dc, 0x97220df2f86dee9d, 0x87be303d54a61ad8, 0xcadd8d0009ad28a9, 0x3b7e0a0f8152e5ca, 0x22cadb480d190ff3, 0x7c76dc5ec1e81bfb, 0x685fe347cdcbb90a, 0x5d8d06dbbdaa237d, 0x17f8ffda21cd3c64]
theorem kxs9 : rndS kx9 (kcon.getD 9 0) = kx10 := by decide +kernel
theorem kxp10 : permF kcon kx0 10 = kx10 := by rw [permF, kxp9]; exact kxs9
def kx11 : La := [0x1419d14d84ccc8a3, 0xf3e835c8f22ba945, 0x5a2465863c4d680d, 0x76b24ec2b4685ed4, 0x4676788f51e2d8f2, 0xc5b63bc18bf529e3, 0xbb504346da6fc263, 0x52c9747449d0f800, 0xf2bdfdaf70c57fcb, 0xb5b427f737bd2d5a, 0xc62831c02588c76d, 0x3bf9269ce3121ace, 0x82c0e0c54815b1ab, 0x1ec1b578aada4b9f, 0x6148ca2be4230750, 0x91f811f2e466d7c8, 0xe7fd20ef430bb6f3, 0xebf7bc6dde6ec184, 0xfe3a1bbb24a34ce3, 0x55908425ade2530e, 0x644a72db710ee34e, 0x5ef2cc2e0d802078, 0xedd3d1f74ceec293, 0xdb5d4663cf47feea, 0x1018de3985c89f55]
theorem kxs10 : rndS kx10 (kcon.getD 10 0) = kx11 := by decide +kernel
theorem kxp11 : permF kcon kx0 11 = kx11 := by rw [permF, kxp10]; exact kxs10
def kx12 : La := [0x41a22e0d267954c8, 0x695b94576c84037a, 0xf37ac6a6ff5c3603, 0x73bbc0e747baa6c2, 0x95174fe810a459ce, 0x245ce012066afcc3, 0x9f1f9b765c5ee370, 0xea4a100ab693ac8, 0x58c363bb7133501b, 0xa019e29af04691bc, 0x133d59e43795fe5c, 0xb752cc66cb2ddc39, 0x94e2bca0de79943f, 0x51bf0b37e0ebb026, 0xf48dc59d84829f76, 0x134c192a6cc9ab99, 0x208db8386052f6e2, 0x7af7d90f7d30db87, 0x9a94a0636b332f69, 0xbc78d1145324b3a3, 0x7adb1cb3ad9dc990, 0x8ea405f44cb9090, 0x806d634e75515ccf, 0x7ec15214c3c63596, 0x9771740ff365eec2]
theorem kxs11 : rndS kx11 (kcon.getD 11 0) = kx12 := by decide +kernel
theorem kxp12 : permF kcon kx0 12 = kx12 := by rw [permF, kxp11]; exact kxs11
def kx13 : La := [0xf8f811bd5d802da4, 0x7e897bf07efbb8e7, 0x49a27e148d99cef1, 0x20e63e2ccbdbe6c6, 0x84b0e25596a69d12, 0x8e505a5b78128674, 0xc122964ac418b02b, 0xfaa80e0229a20459, 0x5be0e143ac0a367f, 0xbaa5388acae237d8, 0xa1138021dc10095b, 0xfc6142a25ff7240a, 0xafc519776a761921, 0x612b4df437870f2c, 0x80535b83dfbb28ca, 0xac1eb74d85b12181, 0xc87da1d9cbe63f37, 0xea427c6635545213, 0x250f26fb1dc3d7d0, 0xa05872a8f88d3348, 0xa11b174de6073512, 0x962520188abdb229, 0x5b15e7a24b57e2fb, 0x40296c73ef042f2c, 0xd5cc6aca51b6e4f1]
theorem kxs12 : rndS kx12 (kcon.getD 12 0) = kx13 := by decide +kernel
theorem kxp13 : permF kcon kx0 13 = kx13 := by rw [permF, kxp12]; exact kxs12
def kx14 : La := [0x5bbe8f503beb3736, 0xc41048b29cfc1ef, 0xc6b1eb3207944dfa, 0xc4554483ec52de5d, 0xdd54b1d96bee07ac, 0xdcebf6ad73f54d7f, 0x31b049bdcda5090a, 0xb9282364625dbb04, 0x891c59fa05421868, 0x16160e291d4541be, 0xee8d6a7544a3b961, 0x6f3d0b5232b2c4a6, 0x1ba6829ef4b36a8f, 0x9f70dee775fa8022, 0x4e620472bf350331, 0x53224eb247643ff8, 0xe4d547df68e56d61, 0xb502ae355d5107f3, 0xb14c880e8ef8b9eb, 0x9ae315e9020302e6, 0x6b88f91f893701fe, 0x62fefe080de16634, 0xab316365123a05a4, 0x746e5093cbcf81f9, 0x4a9abcd18457edc9]
theorem kxs13 : rndS kx13 (kcon.getD 13 0) = kx14 := by decide +kernel
theorem kxp14 : permF kcon kx0 14 = kx14 := by rw [permF, kxp13]; exact kxs13
def kx15 : La := [0x720748f13c8571e, 0xdcd7e9c9fe8eb377, 0x8f2a8f1a3a19563e, 0xd851ef067b35be43, 0x3360ff55764637f9, 0xfa15484511ce7e66, 0xd3145468c76b3e40, 0x9ae0280b44ca7712, 0xe5410833cc9d42e5, 0xe3c01426c7b9f56, 0x525517ba9e0b99f3, 0xf77cb5528dd02517, 0x5460f894ace7dca8, 0x1d13fb762b86be2c, 0xff20251697ae5a78, 0xcb3e7c0e5343573c, 0x193e336805b113c5, 0x1ea54951fd9f5b2b, 0xbbdb8a967e32b3fd, 0xf7e451127b1aeb4a, 0x1fdb2ca1c5f531a9, 0xe18d27faa6621e7, 0x8883f05d4a9b9c70, 0xac3fbbdf680afe7e, 0x3e71852dc6b0df1b]
theorem kxs14 : rndS kx14 (kcon.getD 14 0) = kx15 := by decide +kernel
theorem kxp15 : permF kcon kx0 15 = kx15 := by rw [permF, kxp14]; exact kxs14
def kx16 : La := [0x11fb6ef82465089e, 0xdf438788bae00dd, 0x5945d6f5e05ba218, 0x8c77c62985fb70b6, 0x1fe24674d501efc5, 0x37f72add0803e3ff, 0xfd6fb033d6384d34, 0x356c5a2547b15884, 0x60e9f93c51b4e8de, 0x891299574e96af0c, 0x128fbe0942283bad, 0xa464da76c17ca5b6, 0xc6098210fb199a07, 0x190b10ec0b487e9f, 0x6c3f48b58dbfec05, 0x8f4f0d82659ef9a1, 0x1e78ce5a2d7c4c41, 0x227d772e7ad88f, 0x7f51658caa0def5f, 0xcd4ca313a20c4b59, 0xe7336f3d49eee48f, 0x8311d7d86a64cfd3, 0x67ec265fc449d816, 0xfe85330d8c400429, 0x7211120988f6026b]
theorem kxs15 : rndS kx15 (kcon.getD 15 0) = kx16 := by decide +kernel
theorem kxp16 : permF kcon kx0 16 = kx16 := by rw [permF, kxp15]; exact kxs15
def kx17 : La := [0xdc179b138e9b5afa, 0x64859ba4dc121ef4, 0xaf47174888d27a13, 0xaeccaf031e77237f, 0xf69dddd4252faaeb, 0xb5a1a870c4cbd9ef, 0x58a7ba3aa3974ad5, 0x1437f1648f4bb45, 0xdc14373fffa908bc, 0x28cd01e12db1f71b, 0xb42e17550a159a65, 0xdc5bde8e8c8a0ec5, 0x3098598a829f4027, 0x766f59cb3bdd0440, 0x712bc3e9ee62c6b7, 0x59e171dd0cb2a574, 0x534519aa4099a2fa, 0x8a049f9aa3e260a9, 0x625d334a56b0d0cb, 0xf5a44709ed4a3727, 0x9a387beef2cf61ed, 0x81919953c537eaa4, 0x44753218d4837df8, 0x9f83c135037c97f9, 0x10c89279136b00d1]
theorem kxs16 : rndS kx16 (kcon.getD 16 0) = kx17 := by decide +kernel
theorem kxp17 : permF kcon kx0 17 = kx17 := by rw [permF, kxp16]; exact kxs16
def kx18 : La := [0x77529fe95b0653a3, 0xa277c6135bfd77c3, 0xb36b57927ec3b355, 0x488a5c2aba3491d0, 0xf7dbf827f4259108, 0xc8b15f6e6ef0e760, 0xe6cf8c72462eb0c4, 0xeb18111bea471840, 0xc9ca77b821e01a82, 0x168de5cc16b987c2, 0x36591e181616ae3a, 0xa197994825e2320, 0xba3f68c30567cb64, 0xcb178806e7f1661a, 0x7340fcc3c06ad4d5, 0xbc94168840bf949e, 0xd5d462a37ed9d4d3, 0x3f6a9de425aaabcd, 0xc715ef6a912085bd, 0xba1a41e995475f33, 0x9bcc83ac58797e7a, 0xef5d6bba0074a796, 0x4e2cf75a62260d0a, 0x599962e9608a05b0, 0x9c2e57fb427cbd30]
theorem kxs17 : rndS kx17 (kcon.getD 17 0) = kx18 := by decide +kernel
theorem kxp18 : permF kcon kx0 18 = kx18 := by rw [permF, kxp17]; exact kxs17
def kx19 : La := [0xab043416649adf93, 0x4d9ad663f2e5851d, 0x8eb64f72806003fe, 0xbd758ba006cfd37b, 0x2f7dec8e1c738548, 0xa97c313cff285978, 0xcefedf94fbc3c101, 0x331ef7ca2fd4070b, 0x9d3c6ae09c226a46, 0x30f494b333c2a819, 0x5b220142b8288566, 0xa1d5762a9bc7277f, 0xfb13e506869a28d, 0x55fa886c9dd24c35, 0xa5a049d1c4de74f1, 0x185e38b522b62000, 0xd6de7c012e3fe9a5, 0xbccf085695344c8a, 0x7dcec7e9e0b07172, 0xb82255c02454a756, 0xcb99d945421faebe, 0x25894aee5c860c2c, 0x4ca6f7df3db5f80c, 0x6625c595ec20c2c8, 0x9aaea508c2b76bd9]
theorem kxs18 : rndS kx18 (kcon.getD 18 0) = kx19 := by decide +kernel
theorem kxp19 : permF kcon kx0 19 = kx19 := by rw [permF, kxp18]; exact kxs18
def kx20 : La := [0x692d774028a557f8, 0x68e6aa03eed2c60, 0x3c001941f88c34ab, 0x837faa91a4599af, 0x47ca9bd7d9cb9877, 0x9568bead0ccca388, 0xc51eabab0987ab67, 0x4248941238bce4e3, 0x1f2df9a069cbf77e, 0x2d4d0bf9566603, 0x8e0eaabbd690d904, 0xd23e9636a031204e, 0xa3d132e9694dc2e6, 0xc63822db9a379be7, 0x3802288cf910e389, 0xf40c1edcf888324b, 0x6b3e292920d63f93, 0x8190ce3fae26e78c, 0xdf6af1d961a2cac9, 0x68451e1fbdce606a, 0xa8f8241f1cd94a18, 0x6796e7c8eaf712f2, 0x239410fe61d4caa4, 0x1759f46e771ee9cf, 0xfcd67513e412a22d]
theorem kxs19 : rndS kx19 (kcon.getD 19 0) = kx20 := by decide +kernel
theorem kxp20 : permF kcon kx0 20 = kx20 := by rw [permF, kxp19]; exact kxs19
def kx21 : La := [0xdf77e5829e126ec3, 0x185440c1f34c8c25, 0xdfb278771f8fda79, 0xc32021ed474fd347, 0x78970dd85698ef0f, 0xec6ed35b8a34e844, 0xa455a531b19d0c21, 0x7aa86ad769b437e3, 0x34f796d7b4491d6e, 0x8196381d1d94b9b4, 0x8effd597c2381c97, 0x5310012f6070aef7, 0x329cbfa62c1f72d0, 0x8e9a326e532a1cbd, 0x5aec999636894446, 0x486da6ea54153868, 0x65068425a1f3c7c3, 0xdc1f7cfa1038b42f, 0xcfd4d0aba0ee5f5e, 0x1a3c29bbad31b6fa, 0xe4cde333902744bc, 0x9feb2e99f827e3bb, 0x22c34b1a36db63f7, 0x5d73425bfd8b751c, 0xda5ffe64e4045065]
theorem kxs20 : rndS kx20 (kcon.getD 20 0) = kx21 := by decide +kernel
theorem kxp21 : permF kcon kx0 21 = kx21 := by rw [permF, kxp20]; exact kxs20
def kx22 : La := [0x1f42a34dd8d84f7b, 0xd50c1e60226eb7b3, 0xcd46b1c5beb6a1e7, 0x3cb6a997a50c3966, 0x49879b773a68e4ce, 0x212f019117c504c9, 0x2b78285e6e4c8f56, 0x3c5097e81717dd0e, 0x3726e6efa2ff8d8b, 0x344d2d0edec7380c, 0xb7c2a735f39d7f1a, 0x7b70df7e3531352e, 0x200951fb4061aa93, 0xfd799774015ee1d0, 0x11e511bc9300b288, 0x9c7506f787eb9cf9, 0x86409bca6503c00c, 0xce5ae72fcb0c7e87, 0x1ae40a3f2f830d31, 0x4873a427e5e86cd1, 0x87d6025726bb4076, 0x8f4f68fda6d2b6d6, 0xacf84b418df59e36, 0x18b63857170b493e, 0x686bafa0de56e6e5]
theorem kxs21 : rndS kx21 (kcon.getD 21 0) = kx22 := by decide +kernel
theorem kxp22 : permF kcon kx0 22 = kx22 := by rw [permF, kxp21]; exact kxs21
def kx23 : La := [0x447229eb65555906, 0xc0ce6cf4b9e2681e, 0x5e0bdeeb25da2c15, 0x6a411a3e00cf77d5, 0xb159b2f491440cea, 0xb92124b5513762b9, 0x7f3bb61f32a25a2c, 0x4e19ec5f5802c217, 0x88b6e226f5ae16d6, 0x1fac00b54f67b4ac, 0xd09fd8ba4b94242e, 0xb16053447e1b606, 0xbbcca426cfaf156e, 0xd05bd0e0efbd8c98, 0x60e879fd6cce554e, 0x195b73b592cb4ba4, 0xe5496d4741d01641, 0x14967be326c27a1c, 0x140407c68730f79b, 0xed336cf92b0081f5, 0xea3f1f1e9c3bbb66, 0x630a7b22e1cae28d, 0x42dbc8e5b7bced4a, 0xff11cd5aa3338758, 0xfce31b35f4008d00]
theorem kxs22 : rndS kx22 (kcon.getD 22 0) = kx23 := by decide +kernel
theorem kxp23 : permF kcon kx0 23 = kx23 := by rw [permF, kxp22]; exact kxs22
def kx24 : La := [0x66d71ebff8c6ffa7, 0x62d661a05647c151, 0xfa493be44dff80f5, 0x4a43f8804b0ad882, 0xe2f36b34b7be6652, 0xff875921cacc9566, 0x80d97b5776b3ba89, 0x28debd55fc6a313b, 0x3ac3d19f1e48ecc, 0x78193aecc1e434e9, 0xc287a923afe81e79, 0x21684ae301601f33, 0x282e7e469e09e75f, 0xd17d1ed2c282b6b8, 0xf050e0d2adaf434e, 0x5375f6fb6aa989b0, 0xc2c6b96032faf11e, 0x63684dd3f055a1b2, 0xd908398b988ec2b2, 0x913f10903e0bd326, 0x33fc34664d479817, 0x2b715c1a078fde58, 0x140b7c9251369779, 0x857343a7aabdeb5e, 0x92136e0efb7b70e5]
theorem kxs23 : rndS kx23 (kcon.getD 23 0) = kx24 := by decide +kernel
theorem kxp24 : permF kcon kx0 24 = kx24 := by rw [permF, kxp23]; exact kxs23
def ky0 : La := [0x1f, 0x0, 0x0, 0x0, 0x0, 0x0, 0x0, 0x0, 0x0, 0x0, 0x0, 0x0, 0x0, 0x0, 0x0, 0x0, 0x0, 0x0, 0x0, 0x0, 0x8000000000000000, 0x0, 0x0, 0x0, 0x0]
theorem kyp0 : permF kcon ky0 0 = ky0 := rfl
def ky1 : La := [0x1e, 0x1f80000000000, 0xfc000, 0x1f, 0x1f800000fc000, 0x0, 0x3f00003f00000, 0x0, 0x3f00000000000, 0x3f00000, 0x3f, 0x3f00, 0x20000, 0x3f3f, 0x20000, 0x1f8007e00, 0x0, 0x7e00, 0x1f8000000, 0x0, 0x1f8000000000, 0x0, 0x1f800000007e, 0x0, 0x7e]
theorem kys0 : rndS ky0 (kcon.getD 0 0) = ky1 := by decide +kernel
theorem kyp1 : permF kcon ky0 1 = ky1 := by rw [permF, kyp0]; exact kys0
def ky2 : La := [0x207e800065d3ee3, 0xd0182ec7ed081fde, 0x91ca00000fc71f9f, 0xf03a96c7d458be1d, 0x43e8920009c7019e, 0x7023e9d0cdccf8, 0x90701f0c32300d3f, 0x802f5ef05a83f22c, 0x6024e109841009db, 0x300022f4585e0823, 0x65d00f2360265, 0x2ba02f4fcd33000, 0xdc0ffc75833807c8, 0x3cca30900c567a8, 0xdf78108af5f85017, 0x1040781b7ca165b8, 0xb5da1ff8135e8002, 0x28205e7ecf0823c, 0xe44181e80fa00182, 0xc39b840f8059763e, 0x60cb00fd1be050, 0x7b804c0fca13f9e7, 0x161b307e1cb8900, 0x3b8184001743e3f8, 0x41008208e06c107b]
theorem kys1 : rndS ky1 (kcon.getD 1 0) = ky2 := by decide +kernel
theorem kyp2 : permF kcon ky0 2 = ky2 := by rw [permF, kyp1]; exact kys1
def ky3 : La := [0xb55989ec37913acf, 0x15aae851d32b92ab, 0x11f7164901e71f4e, 0x1ec78e93e66bfefa, 0xc92d88db2728a76, 0x2073254a4e6218f5, 0x85e780bc33bdab0b, 0xb8f15f4608524add, 0xbea1177b64586839, 0x13d0eb720e3b5cf, 0xa2b6038fbc37f45c, 0x21bf998c32ff422d, 0xae0765ffc3737cb3, 0x270a8272568806ab, 0xb3a2280da498ddcf, 0xb077a8d93152e667, 0x1ed491a32a34491a, 0xe43e2b258258c25b, 0xf3ecc3447f924b15, 0x6ca9cefed0e0ac65, 0xb75d7226b96b481c, 0x81e13558ddd1394b, 0x5341974aa445391b, 0x53884c6a2f51a69f, 0xd72d098320818c38]
theorem kys2 : rndS ky2 (kcon.getD 2 0) = ky3 := by decide +kernel
theorem kyp3 : permF kcon ky0 3 = ky3 := by rw [permF, kyp2]; exact kys2
def ky4 : La := [0x655e19b63a694a5c, 0x76ffdc5be9644a7b, 0x284152b6c8d84322, 0x899be3119ee8db08, 0x4f87ab88857c3471, 0x5d6a1304c053bca1, 0x18c3b641f1f42417, 0xf1cebbad8b3f265f, 0x4abccb5b32f1d106, 0x64e3196430037836, 0x7be679d0bed2d06e, 0x4580f070baf805c, 0xf02d14812f26cc81, 0xc732cfdfeae1bdae, 0x8168546737139c7b, 0x6f7e80a5226731bf, 0x19e697678e4b717c, 0x533536b6b635dc47, 0x2fec57830b316678, 0xb9e8b2ece54719b0, 0x146053aec80f7915, 0x47c506fab8d66c3f, 0x8fa00dffe5211ada, 0xdc27b1fa697526f8, 0x452b229516ef9655]
theorem kys3 : rndS ky3 (kcon.getD 3 0) = ky4 := by decide +kernel
theorem kyp4 : permF kcon ky0 4 = ky4 := by rw [permF, kyp3]; exact kys3
def ky5 : La := [0x5d9f871cb6ee7bfa, 0xf95cb82649d8c2ad, 0xe6ed8b1e9d1fda4f, 0xd58ee996d5c6eb8f, 0xb8aac376e651f0d7, 0x4c2870bdbd826c08, 0x95b4539da30a2b21, 0x2fbc170062b10a9b, 0x5c10d9c1bb5527ee, 0x8b1ff414f37342b8, 0x1895a3aa72acd182, 0xa2c1be7df90e1b7c, 0xc06d70f9fbb73f49, 0xe77bf29c8b27b73f, 0xb431d66a89aaa2cb, 0xff6d22f11a0c1745, 0xad5415f352908b4b, 0xe78ba1e299c7b3cb, 0xf4956d1672f0c366, 0x2b84d79ced15e0dc, 0x29bc3d7828887fa3, 0x62890ad05e435410, 0x475338d6144bfd21, 0xe5770188743e2ab1, 0x9799ae55b1847316]
theorem kys4 : rndS ky4 (kcon.getD 4 0) = ky5 := by decide +kernel
theorem kyp5 : permF kcon ky0 5 = ky5 := by rw [permF, kyp4]; exact kys4
def ky6 : La := [0x44648a73c8ed93c3, 0x5c35eb98f7bbcff3, 0x6cbf90edd53d2c88, 0x68e1e0ce99646a45, 0x3dd03095583e99ea, 0x6ee311c664addacd, 0x3c9a682943663fe2, 0x143474de6c5c7371, 0x8424442db6bb4113, 0x870d6ddb88f61b93, 0x62cb30070b5d0ce1, 0x752a9e3614cca836, 0x1904100730335e79, 0x4feeed98c72d6063, 0xd0cf19964eecc720, 0xfcbd317b198a5b4a, 0x2bdd431d1db6d364, 0xe850e2c48798843e, 0x7f5231a4de3b4b68, 0x1a79e2419c6818a9, 0x8a733364311ff083, 0x31c92bcad8d119c0, 0x84f6b7ea68d79dd9, 0x139bff8e3956e1d0, 0x9a4aeb5ed072e8e7]
theorem kys5 : rndS ky5 (kcon.getD 5 0) = ky6 := by decide +kernel
theorem kyp6 : permF kcon ky0 6 = ky6 := by rw [permF, kyp5]; exact kys5
def ky7 : La := [0xa108215e537a2901, 0x681022a19c3b452d, 0xd9ab3c529216a259, 0xd6018667e422c6f1, 0x1c5b0bf1d488a26, 0x97f47980434c0ca1, 0x9ca88763642356eb, 0x9c40e3029e37b78c, 0x149181e14c18afe5, 0x2a9ddf8126708b82, 0xf3c010233a3723b8, 0x9c378a8d2548da61, 0x5a023e1557659eec, 0x3ff64b8e8e376a9c, 0x580f6c3507016583, 0xd25795351da9ae64, 0xc7edef69bc0b6e17, 0x7d963d58e8f37bd6, 0x2e9e7bc8aed3b526, 0x9d6ad80db9f97680, 0x2f6baac7eb999d62, 0x2f2c21bd35325d99, 0x751c71fd14e5ca8f, 0x988e4c92ff7c3b46, 0xd4e7047679ad7c39]
theorem kys6 : rndS ky6 (kcon.getD 6 0) = ky7 := by decide +kernel
theorem kyp7 : permF kcon ky0 7 = ky7 := by rw [permF, kyp6]; exact kys6
def ky8 : La := [0x11c79f59068533c5, 0x717559acb4ba5766, 0x2fb86ef421fb2582, 0x823f3b6a4e4d0905, 0x47ead3d9ec137c7, 0x2b8ac233eb41b85c, 0x2d0f8302cd513ae5, 0x443ea7f371c4cb82, 0xe6711827d270bdc3, 0x4833d5dc51d923ce, 0xfaac6ccc9d764977, 0xb8f10f2d7fd48964, 0xdda1c393869640a1, 0x39e5403438d15de2, 0xda17ff9d5c3dc0b2, 0x16044b7ab59d3b25, 0x6a0bc7ea52275df1, 0xc8515ecf64cebe6f, 0x9137aacfcd42bcb9, 0x73d37cdfd982b09c, 0x138242ebc6baa4a8, 0x52937389710b8ab6, 0xa1450fbf2270ad68, 0x3e2b19c161506672, 0xab9514ceae9d3918]
theorem kys7 : rndS ky7 (kcon.getD 7 0) = ky8 := by decide +kernel
theorem kyp8 : permF kcon ky0 8 = ky8 := by rw [permF, kyp7]; exact kys7
def ky9 : La := [0xafdff1f2a0892820, 0x87dcb571e4e5ccca, 0xc983bf66e810ddc9, 0x3cdab793ecab4ea5, 0x3d35ec522c4af2bf, 0x71c0e3eccd03c3ad, 0xd71c00faee630294, 0x34b61adfb982e948, 0xaf1b220895028ef6, 0xff1239c400b3fb20, 0x12a9ec011a10e210, 0xf8853d1348efdf5e, 0x7c044bc5db7dd6a, 0xae3ccaf35239d41b, 0xf909b1ca3bbc8bae, 0xa68be0a75b513a62, 0x5838822d9e0eb974, 0xe21e4cfdb08c286e, 0xcb602473f4c8709e, 0xfb2d23947e37f2e5, 0xb5956befb66fde5f, 0xfd08f4ec48525cb, 0x50ed8d4c352fd269, 0x43b2bde2f9cea228, 0xae0965dd42c6b3e0]
theorem kys8 : rndS ky8 (kcon.getD 8 0) = ky9 := by decide +kernel
theorem kyp9 : permF kcon ky0 9 = ky9 := by rw [permF, kyp8]; exact kys8
def ky10 : La := [0x7cefdc01aad958e0, 0xa58ac9e7a2460074, 0x44abd493daf1a956, 0x31294ced3323fe2a, 0x1262d5cc6a93ef09, 0xd5e244a2188c0d3c, 0x9900b62dfd3d76f1, 0x2f445f182b15cadd, 0x4d658fe18442e7c4, 0x70a2c2e4cd6f4884, 0x1ae80a9ef69e1031, 0x5102f7d7d3f14009, 0xd3299c932e64dc5c, 0xc2cec0eb2a655695, 0x493605591930d199, 0xa1f8ae7915fa4c00, 0x557bfece891e81df, 0x8a1375d74759add, 0x23527d81958e6df6, 0xfad6b0df742381ca, 0xd7de65835f3dff72, 0xf919d6a54fb5f60f, 0x31d9a579bb6bf859, 0x97c852757ed2c9a0, 0x29d36de134b7be40]
theorem kys9 : rndS ky9 (kcon.getD 9 0) = ky10 := by decide +kernel
theorem kyp10 : permF kcon ky0 10 = ky10 := by rw [permF, kyp9]; exact kys9
def ky11 : La := [0x279b13a651e50389, 0x87a9b1fb8e514c08, 0x9acad38e17329654, 0xc70f740633c970a8, 0xbcbb93e4800c8633, 0xe594d20c4017cd46, 0x2612a0f4f8e73781, 0xa742069e6379199, 0xf8cc6278f1ae34d1, 0xee8a4b458ad77f6a, 0xd66d30a18cce9198, 0xef8a922d61d5a6b7, 0x310c02b166350c36, 0xe46623f682fd063, 0x8900169eb047d585, 0x5a971509dcafa41a, 0x2c6a29ba6a8198b6, 0xfaf0b3fa5022d65c, 0xe786ef728ee0eced, 0xef8ff1fbf6d2ec82, 0xcbd0a948b510fbd, 0x941a945b8936a292, 0x867bd5ac565d2a39, 0xc14e04a5e14bb3ff, 0x2f9c8023a236d89c]
theorem kys10 : rndS ky10 (kcon.getD 10 0) = ky11 := by decide +kernel
theorem kyp11 : permF kcon ky0 11 = ky11 := by rw [permF, kyp10]; exact kys10
def ky12 : La := [0xc112f3caf62c1db4, 0x66d4c543d8e7360b, 0x33eff35e9006d8d9, 0x37a1aaa71ec14f2e, 0x126230b4be9f0f11, 0x97e57f63221f13d5, 0xfedc397fd225562, 0x65ff960c18f2705d, 0x44c3be91fe380d3, 0x63dcba9c9d090f46, 0xbf67e2d07edafe8b, 0xb83821644d3c2e9c, 0xc00b122db2ebf116, 0x8f97807e3cde69f4, 0x235a3325640bec03, 0x7f891500d9cfd690, 0x6461ae89f24b17c5, 0x616aca420af10c3e, 0x438b529a42f81b9f, 0xe54a98fd48acf431, 0x80f612103e286bd7, 0x898d91175a5ac9ff, 0x10fbb6acee2a36b9, 0xfce5ffd275aecb34, 0xd58c9b74c478e555]
theorem kys11 : rndS ky11 (kcon.getD 11 0) = ky12 := by decide +kernel
theorem kyp12 : permF kcon ky0 12 = ky12 := by rw [permF, kyp11]; exact kys11
def ky13 : La := [0x6afadb852cb64cb1, 0x4def5d416f95d05f, 0x814a6fd5f9b4ed6a, 0xc2c93df061d8898f, 0xb8739153c1626e11, 0xd1f26d643157cd43, 0xd060ec4c73ec913d, 0x60bcc805a773a82b, 0x3a07292ea1c4418, 0x474768544dd2d92a, 0x7e5f7552509b7b73, 0xceebf0ab4b82fd95, 0xafe893e3c6be95cd, 0x9cac73c80a18daca, 0xe3855263c6e6e8be, 0xf471675163e562f1, 0xd87ed2b8d095dff6, 0xdedbaf7a8b13987, 0xe56e2ab0b89aaf77, 0x49d3ba29ca27e054, 0x8ecad8e4516aac66, 0x730bc1ea9bbaea08, 0x1f437cb0c06ecf3b, 0x2c183c48f3311336, 0x10cabc7403f05bed]
theorem kys12 : rndS ky12 (kcon.getD 12 0) = ky13 := by decide +kernel
theorem kyp13 : permF kcon ky0 13 = ky13 := by rw [permF, kyp12]; exact kys12
def ky14 : La := [0x7f3391c4be3b3a35, 0xa3cb966d4087f55, 0x2355e3e7bcbcbc7c, 0xd299b5acb76ed1e6, 0x5b0ea1b127773aa9, 0x276fbe722556a17b, 0x20f7973189f843ca, 0x37ad681f559c68e6, 0x94d14bfe391ae09b, 0xf9468fdda9a2e081, 0x1bcde13de6db4941, 0x52f3909d683ca2ec, 0xdf6cf269459213b6, 0x2e6875ab387a75f2, 0x20e5b90b79206baf, 0x67a7fc79aa894639, 0xf1a1b6c756ce3b14, 0xb909fac4e2139f91, 0x5f57142c73c3ac4d, 0xeeabfb120a028dbd, 0x19a9d612923cebe, 0x2a4218eeca11ddd7, 0xf9858790774056b1, 0x9b2fa6e2febe85b5, 0xfe794498568259b8]
theorem kys13 : rndS ky13 (kcon.getD 13 0) = ky14 := by decide +kernel
theorem kyp14 : permF kcon ky0 14 = ky14 := by rw [permF, kyp13]; exact kys13
def ky15 : La := [0x3770d0ee4bed0ace, 0x6215213bb30a926a, 0x352f6d527ce6e485, 0x841b01812f963ea8, 0x48a70562d065c65e, 0x4da7516687d1f70b, 0x934656d48c78f61e, 0xb06a0418e942c98b, 0x2232b90be0da9b60, 0x500d7232bd36bee9, 0x396c7dbfd6ad6388, 0xb193a42e92266c7b, 0x3b8ca261d7211d07, 0x88dd3cf3dbddf889, 0x51adc1c16125dd3d, 0x3389e506f470fe3d, 0x8077d5ef3e0d75bd, 0xcca52976b8161c5, 0x4f25b8f71f876b0c, 0x7c66d17af69ab4c0, 0xc2cfc43a1a96c2c5, 0x49398a8b7dab2ab2, 0x7783aefaf07bc4c7, 0x25a0b5665d2aa427, 0x6e6ae0587f17650a]
theorem kys14 : rndS ky14 (kcon.getD 14 0) = ky15 := by decide +kernel
theorem kyp15 : permF kcon ky0 15 = ky15 := by rw [permF, kyp14]; exact kys14
def ky16 : La := [0xaf725f42125ad08c, 0xf62eaab6e523eff, 0x7756c9e625e8e505, 0x51dfafc4c3979657, 0x346070d88087ffd8, 0x8cd6f41a5e680591, 0x28f0db5796cf3964, 0xcb8b1a3cc787dea9, 0xbea3c73345edee08, 0x7eddcc7576d90e86, 0x13c1057bee943591, 0x906df2aba6fd6b8, 0xa71ba32e27e6be29, 0x7832a013c067d5cd, 0x2b2fd0247278a909, 0xeb6993d85bca6fb4, 0xba43c0255b14793f, 0xb058805afd144729, 0xa5d09487b148cef7, 0xb8d473ad479b3390, 0xc715b0b1cd7b73d8, 0x71e03207b91fc9e3, 0xfa151a38d3f11f6e, 0xd248e07e3de698cc, 0xf3b8a674fc8e8062]
theorem kys15 : rndS ky15 (kcon.getD 15 0) = ky16 := by decide +kernel
theorem kyp16 : permF kcon ky0 16 = ky16 := by rw [permF, kyp15]; exact kys15
def ky17 : La := [0xfe6fbfb6a977047, 0x1c0891f69f33300, 0x815f7b982e3dc285, 0x99e40003c3ed04c1, 0x503f578020a2cdd7, 0x3569e3c9f55a1f26, 0xea8e04f9fffa72a6, 0x829ca142ce6d4e5f, 0x63e360a8b21a557c, 0xd155ebcef66d91b8, 0x6a79249b11907b37, 0xf50a98bd8353707b, 0x8a8813b6e2f08e64, 0x110c05f516019843, 0x4424568de84a9e5c, 0xa91dfead8d641e7a, 0x5ad01cb3ace7c213, 0x26892f5a866f574a, 0xfb4a25c0ef86c841, 0x46543e6a08abad92, 0x66f3bb1a210e9862, 0x44d726a990ecf370, 0x5b6591f9e87b6efd, 0x52cdde5df23f46aa, 0x3bb5e924eda6590f]
theorem kys16 : rndS ky16 (kcon.getD 16 0) = ky17 := by decide +kernel
theorem kyp17 : permF kcon ky0 17 = ky17 := by rw [permF, kyp16]; exact kys16
def ky18 : La := [0x97cf98c6f3b54ea4, 0x5befbdcccb83c64e, 0xb977f0de9c0b887b, 0xb40f8c47a3b3d070, 0x2956d5e886a34188, 0xf106ad099511f1eb, 0x775545cf330ed649, 0xa9840cc3c362f326, 0x44c9c098c0072a37, 0x39dff0b1e4bc921d, 0xed3f35a7225066a8, 0x59ec7566687622e9, 0x439f6b1c1b288b53, 0x677a8a1b8ad69eaa, 0x70d660d276636b2a, 0xc8cc65d2db348bd3, 0x49c4875898a74d87, 0x1029e5e2b350101d, 0x9eeeacf01cab5122, 0xf9d5beda8d219f34, 0x600db85fbcf5b36e, 0x1c721d141f169b01, 0x777a6a99cad921df, 0x9d524a70390bc708, 0x5e74c585accc10b5]
theorem kys17 : rndS ky17 (kcon.getD 17 0) = ky18 := by decide +kernel
theorem kyp18 : permF kcon ky0 18 = ky18 := by rw [permF, kyp17]; exact kys17
def ky19 : La := [0x5e4885ad9d13145, 0xab40fbe5c88de7aa, 0xefd723dbf1f4e6a9, 0x2438487f72e4b5f1, 0x7d8afa184a3de5b6, 0x175c9ffdd8fc8ea8, 0x9616610a03a78b06, 0x521a6eafca260e34, 0x35ec3009bd353298, 0xaf5127a50e80f501, 0xa3e4819b32ce0a8f, 0x7113dcd6e37ab448, 0x92faf3a205b9eb1b, 0xba2d743d8ce3063b, 0xfb74c7857b3328ae, 0x26414f0fd7d9ee71, 0xa850e25bf376d8dc, 0xb6675de36b024d42, 0xd9615c4fd56d0677, 0x7836317f826df1e0, 0x865c15edc05aa5b, 0xc3bfd75e05497742, 0x792a2cd146fce873, 0x40e8535764daa9e2, 0x9ff5c4153f81b38d]
theorem kys18 : rndS ky18 (kcon.getD 18 0) = ky19 := by decide +kernel
theorem kyp19 : permF kcon ky0 19 = ky19 := by rw [permF, kyp18]; exact kys18
def ky20 : La := [0xc0d1e375677cadfb, 0x32a21d9bbf6ec1c2, 0xba2856d9def38d62, 0x21c0c7aba53db949, 0x4ec533d6c7f4b4d7, 0xf27f5e7a970d75fb, 0xad3fdd819513095, 0xb5a444802094d029, 0x4c8c2aa91cb7580f, 0xe7cc8aa84fc13050, 0x40abd8012436bbd1, 0x52065f3c44f99230, 0xf8e26c4ca3cf1dc9, 0x7e0a8601932d247c, 0x35d38fd8aba72573, 0x972a743f9ba8c6dc, 0xe011828b65932f6a, 0x516d8cb1bc013dd3, 0x967e183eb2532e92, 0xdc3dc9c27232a2d9, 0xeff50dfb688e775b, 0x69212494a4d17bb2, 0xd4fa7cdbf3092278, 0xc1d3f75ee00c1bd3, 0x70c9e1eced262db6]
theorem kys19 : rndS ky19 (kcon.getD 19 0) = ky20 := by decide +kernel
theorem kyp20 : permF kcon ky0 20 = ky20 := by rw [permF, kyp19]; exact kys19
def ky21 : La := [0x6465cfbd0cd37e96, 0x2dc2253bafce49c7, 0x4350c491dda7138d, 0x4a6a36dd11123f6f, 0x968ee6857d5449c5, 0xdce13bfdd6b2c7c0, 0x3dd7de07486b4561, 0x87dfae4659efc3ad, 0x4dd3f75347adbe, 0x16dbc9adac66b695, 0xa9f6391f3c075dc5, 0xed117cbcb167d8b2, 0x5b7b4a4c14d13f3a, 0x5b64061b29f51404, 0xc2cf0ca05abce566, 0x3ac25f0b22f404a1, 0x8ab0d7d059f22e2c, 0xbd2c615f637a72f5, 0xcd87be3a7539499e, 0xce276b47d88831f, 0x323ed3edc72184c8, 0x929340df31b65ad, 0xde185032cd5907d4, 0xa900719e54916ec0, 0x10219682bb5a57ff]
theorem kys20 : rndS ky20 (kcon.getD 20 0) = ky21 := by decide +kernel
theorem kyp21 : permF kcon ky0 21 = ky21 := by rw [permF, kyp20]; exact kys20
def ky22 : La := [0x4907c69ad9e0d76f, 0xd15cecd51bc5076a, 0x175c96f77d79dadd, 0x971ca779712934c5, 0x5e0174c80de535be, 0x6b5093df80e1fbcd, 0xeffa3d8e78358410, 0x3488107c68693ac0, 0x9dc43f50d6b124e3, 0xedcfada8daa87b58, 0x9a83aefea02016b4, 0xaa64df5cb58e8bce, 0x623b64ae36262a14, 0xa2c15564c4eb52ca, 0x438588a981958c77, 0x55e95535d082427b, 0xb9976347a9380f8e, 0x2d92d57986e07e55, 0xae1485a89539341e, 0x7dfb51253cd19fed, 0x5cd7feb9ac677249, 0x2082c13fed3be71, 0xe953cc823e85630b, 0xeeea9d2acaab3e6f, 0xa4bd586025ec5497]
theorem kys21 : rndS ky21 (kcon.getD 21 0) = ky22 := by decide +kernel
theorem kyp22 : permF kcon ky0 22 = ky22 := by rw [permF, kyp21]; exact kys21
def ky23 : La := [0xb6a21c10117dbe51, 0x7c9a55eca2c6cbd, 0x8a3324440c63d591, 0xd9522c0e86c10009, 0xcb79a5e50a908b46, 0x9e7a2da943338ed9, 0x94cedc52604eeecd, 0x6b3ba2268731266b, 0xe063ab401c9925db, 0x627cf4dbc01e286b, 0x94d6d7b7c12605cf, 0xe9aac672784bdf2, 0x57cbe78892fb6e3f, 0x8db09110e9ce7bb4, 0x9063aae42a5005b0, 0x4cd7335166209008, 0xd0e02c41c57676cc, 0xadc2989ff071063d, 0x1e1e1e53b9336981, 0x6c11d6d7649a3dbe, 0x343b9ecab15d3c20, 0xb137743a6f692d50, 0x18e473c559bec619, 0x80739d4e3c15a939, 0xe7fa4e557ce06bba]
theorem kys22 : rndS ky22 (kcon.getD 22 0) = ky23 := by decide +kernel
theorem kyp23 : permF kcon ky0 23 = ky23 := by rw [permF, kyp22]; exact kys22
def ky24 : La := [0x7d828fe8a42b9c7f, 0x3e85057650456061, 0x88bceff693803bd7, 0x26ef66faac6e1aeb, 0x934b0088a9eeb13c, 0x682afdee0afb3c10, 0x63a3e8584afa016e, 0xe257aef9e3a1a89c, 0x62dc233c87ccb835, 0x752ffa9a1660d2b8, 0x889174d9586a91ab, 0xb28550436a5ed235, 0xa559c3aadfd6dfba, 0x38d5594bcc7bbbef, 0xbcc8102e30049adf, 0xea20513a0b1abf1c, 0x565f76adcfa7cd17, 0xafa8cc8c364d4723, 0x9f844c5e9fcd0700, 0xefbdaa140b587a16, 0xa9fcb07cf4eee7ae, 0xcc24e77baaeca4c, 0x65fc7ba985946aff, 0xedd158c94faa93aa, 0xcc7be53a2ec027b5]
theorem kys23 : rndS ky23 (kcon.getD 23 0) = ky24 := by decide +kernel
theorem kyp24 : permF kcon ky0 24 = ky24 := by rw [permF, kyp23]; exact kys23

theorem kx_fin : perm kx0 = kx24 := kxp24
theorem ky_fin : perm ky0 = ky24 := kyp24
theorem take_x : takes0 136 6 [] = kx24 := by
  have e : putS (putS z0 0 6) 135 128 = kx0 := by decide +kernel
  show perm (putS (putS z0 0 6) 135 128) = _
  rw [e, kx_fin]
theorem take_y : takes0 168 31 [] = ky24 := by
  have e : putS (putS z0 0 31) 167 128 = ky0 := by decide +kernel
  show perm (putS (putS z0 0 31) 167 128) = _
  rw [e, ky_fin]
theorem gO4 (r : Nat) (A : La) (n : Nat) (h : 4 ≤ r) (h4 : 4 ≤ n) : (gO r (A, 0) n).take 4 = [byteG (A, 0), byteG (A, 1), byteG (A, 2), byteG (A, 3)] := by
  have e : ∀ i, i ≤ 3 → gS r (A, 0) i = (A, i) := by
    intro i hi
    induction i with
    | zero => rfl
    | succ i ih =>
      have := ih (by omega)
      show ((prep r (gS r (A, 0) i)).1, (prep r (gS r (A, 0) i)).2 + 1) = _
      rw [this, prep, if_neg (show ¬ i = r by omega)]
  have e2 : ∀ i, i ≤ 3 → gBy r (A, 0) i = byteG (A, i) := by
    intro i hi
    rw [gBy, e i hi, prep, if_neg (show ¬ i = r by omega)]
  obtain ⟨m, rfl⟩ := Nat.exists_eq_add_of_le h4
  simp only [gO, List.range_eq_range', show 4 + m = m + 1 + 1 + 1 + 1 by omega, List.range'_succ, List.map_cons, List.take_succ_cons, List.take_zero, Nat.zero_add, Nat.reduceAdd]
  rw [e2 0 (by omega), e2 1 (by omega), e2 2 (by omega), e2 3 (by omega)]
theorem sha_ex : (sha3S 136 6 32 []).take 4 = [0xa7, 0xff, 0xc6, 0xf8] := by
  rw [sha3S, take_x, gO4 _ _ _ (by omega) (by omega)]; decide +kernel
theorem shake_ex : sha3S 168 31 4 [] = [0x7f, 0x9c, 0x2b, 0xa4] := by
  rw [← List.take_of_length_le (l := sha3S 168 31 4 []) (i := 4) (by rw [sha3S, gO_len]; exact Nat.le_refl _), sha3S, take_y, gO4 _ _ _ (by omega) (by omega)]; decide +kernel
end Go.Lv
